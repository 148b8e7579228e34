/-
  The walk of the statement ShaSums: Sum answers SHA-256 of any bytes; they stay.
-/
import Derived.Test.YtmbkehmgpcmicaaShaY
import Derived.Test.YtmbkehmgpcmicaaShaO
namespace Go.Proofs.Ytmbkehmgpcmicaa
set_option linter.unusedVariables false
set_option linter.unusedSimpArgs false
open Go.RowKit

set_option maxRecDepth 100000 in
set_option maxHeartbeats 1600000 in
theorem shaSums_any (A : Option Addr) (n c : Nat) (xs : List Nat) (w : World) (hn : n = xs.length) (hl : n ≤ 9223372036854775807) (hx : Rd .u8 w A xs) (lx : Lim 256 xs) :
    Calls Try.prog 3 #[.slice A n c] w (Yes w) := by
  subst hn
  by_cases h : 16384 < xs.length
  · have hd : decide ((16384 : Int) < (xs.length : Int)) = true := by simp; omega
    go_enter Try.func3, Try.ntmps3
    go_wp2_with fail
    refine (shaWorks_any _).mono ?_
    rintro e w1 ⟨rfl, hb⟩
    go_wp2_with fail
    go_ret
    exact ⟨rfl, hb⟩
  have hd : decide ((16384 : Int) < (xs.length : Int)) = false := by simp; omega
  have hs1 : xs.length ≤ 1099511627776 := by omega
  go_enter Try.func3, Try.ntmps3
  go_wp2_with fail
  refine (roomy_any A _ c xs _ rfl hs1 hx).mono ?_
  rintro e w1 ⟨g1, c1, rfl, h71, hm1, hg1, hB1, hb1⟩
  have hx1 := hx.below hb1
  have hrx : Rd .u8 w1 (some ⟨g1, 0, none⟩) xs := by
    have := (Rd.of_all hB1).take xs.length
    rwa [List.take_left'] at this
    rfl
  have heql := eql_same (digest xs) (digest_length _)
  go_wp2_with fail
  refine (shaSum_any _ _ c1 xs _ rfl hs1 hrx lx).mono ?_
  rintro e w2 ⟨rfl, hb2⟩
  replace hB1 := hB1.below hb2
  replace hx1 := hx1.below hb2
  have hbel := hb1.trans (hb2.mono hb1.size)
  clear hrx hb1 hb2
  go_wp2_with fail
  refine (refSum_any A _ c xs _ rfl hs1 hx1 lx).mono ?_
  rintro e w3 ⟨rfl, hb3⟩
  replace hB1 := hB1.below hb3
  replace hx1 := hx1.below hb3
  have hbel := hbel.trans (hb3.mono hbel.size)
  clear hb3
  go_wp2_with fail
  refine (kept_any g1 c1 A _ _ c xs _ rfl rfl hs1 h71 hB1 hx1 lx).mono ?_
  rintro e w4 ⟨rfl, rfl⟩
  go_wp2_with fail
  refine (shaWorks_any _).mono ?_
  rintro e w4 ⟨rfl, hb4⟩
  go_wp2_with fail
  go_ret
  exact ⟨rfl, hbel.trans (hb4.mono hbel.size)⟩
end Go.Proofs.Ytmbkehmgpcmicaa
