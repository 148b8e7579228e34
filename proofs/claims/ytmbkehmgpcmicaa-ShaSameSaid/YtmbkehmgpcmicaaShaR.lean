/-
  The walk of the statement ShaSame: Same says whether any bytes are the same; they stay.
-/
import Derived.Test.YtmbkehmgpcmicaaShaO
namespace Go.Proofs.Ytmbkehmgpcmicaa
set_option linter.unusedVariables false
set_option linter.unusedSimpArgs false
open Go.RowKit

set_option maxRecDepth 100000 in
set_option maxHeartbeats 1600000 in
theorem shaSameLaw_any (A B : Option Addr) (n m c d : Nat) (xs ys : List Nat) (w : World) (hn : n = xs.length) (hm : m = ys.length) (hl : n ≤ 9223372036854775807) (hl' : m ≤ 9223372036854775807) (hx : Rd .u8 w A xs) (hy : Rd .u8 w B ys) (lx : Lim 256 xs) (ly : Lim 256 ys) :
    Calls Try.prog 6 #[.slice A n c, .slice B m d] w (Yes w) := by
  subst hn
  subst hm
  by_cases h : 65536 < xs.length
  · have hd : decide ((65536 : Int) < (xs.length : Int)) = true := by simp; omega
    go_enter Try.func6, Try.ntmps6
    go_wp2_with fail
    refine (shaWorks_any _).mono ?_
    rintro e w1 ⟨rfl, hb⟩
    go_wp2_with fail
    go_ret
    exact ⟨rfl, hb⟩
  by_cases h60 : 65536 < ys.length
  · have hd : decide ((65536 : Int) < (xs.length : Int)) = false := by simp; omega
    have hd2 : decide ((65536 : Int) < (ys.length : Int)) = true := by simp; omega
    go_enter Try.func6, Try.ntmps6
    go_wp2_with fail
    refine (shaWorks_any _).mono ?_
    rintro e w1 ⟨rfl, hb⟩
    go_wp2_with fail
    go_ret
    exact ⟨rfl, hb⟩
  have hd : decide ((65536 : Int) < (xs.length : Int)) = false := by simp; omega
  have hd2 : decide ((65536 : Int) < (ys.length : Int)) = false := by simp; omega
  have hs1 : xs.length ≤ 1099511627776 := by omega
  have hs2 : ys.length ≤ 1099511627776 := by omega
  go_enter Try.func6, Try.ntmps6
  go_wp2_with fail
  refine (roomy_any A _ c xs _ rfl hs1 hx).mono ?_
  rintro e w1 ⟨g1, c1, rfl, h71, hm1, hg1, hB1, hb1⟩
  go_wp2_with fail
  refine (roomy_any B _ d ys _ rfl hs2 (hy.below hb1)).mono ?_
  rintro e w2 ⟨g2, c2, rfl, h72, hm2, hg2, hB2, hb2⟩
  replace hB1 := hB1.below hb2
  have hbel := hb1.trans (hb2.mono hb1.size)
  have hx2 := hx.below hbel
  have hy2 := hy.below hbel
  have hrx : Rd .u8 w2 (some ⟨g1, 0, none⟩) xs := by
    have := (Rd.of_all hB1).take xs.length
    rwa [List.take_left'] at this
    rfl
  have hry : Rd .u8 w2 (some ⟨g2, 0, none⟩) ys := by
    have := (Rd.of_all hB2).take ys.length
    rwa [List.take_left'] at this
    rfl
  clear hb1 hb2
  cases hdec : decide (xs = ys) with
  | true =>
    have hdec2 : decide (ys = xs) = true := by rw [← hdec]; simp [eq_comm]
    have HD1 := Lib.hid hdec
    have HD2 := Lib.hid hdec2
    clear hdec hdec2
    go_wp2_with fail
    refine (shaSame_any (some ⟨g1, 0, none⟩) (some ⟨g2, 0, none⟩) _ _ c1 c2 xs ys _ rfl rfl hs1 hs2 hrx hry lx ly).mono ?_
    rw [HD1.out]
    rintro e w3 ⟨rfl, q, rfl⟩
    replace hB1 : Blk .u8 (w2.drewN q) g1 (xs ++ L7) := hB1.drewN q
    replace hB2 : Blk .u8 (w2.drewN q) g2 (ys ++ L7) := hB2.drewN q
    replace hx2 : Rd .u8 (w2.drewN q) A xs := hx2
    replace hy2 : Rd .u8 (w2.drewN q) B ys := hy2
    replace hrx : Rd .u8 (w2.drewN q) (some ⟨g1, 0, none⟩) xs := hrx
    replace hry : Rd .u8 (w2.drewN q) (some ⟨g2, 0, none⟩) ys := hry
    replace hbel : Below w.heap.size w (w2.drewN q) := below_drewN hbel q
    generalize w2.drewN q = w2 at *
    go_wp2_with fail
    refine (eqBytes_any A B _ _ c d xs ys _ rfl rfl hx2 hy2 lx ly).mono ?_
    rw [HD1.out]
    rintro e w3 ⟨rfl, rfl⟩
    go_wp2_with fail
    refine (shaSame_any (some ⟨g2, 0, none⟩) (some ⟨g1, 0, none⟩) _ _ c2 c1 ys xs _ rfl rfl hs2 hs1 hry hrx ly lx).mono ?_
    rw [HD2.out]
    rintro e w3 ⟨rfl, q, rfl⟩
    replace hB1 : Blk .u8 (w2.drewN q) g1 (xs ++ L7) := hB1.drewN q
    replace hB2 : Blk .u8 (w2.drewN q) g2 (ys ++ L7) := hB2.drewN q
    replace hx2 : Rd .u8 (w2.drewN q) A xs := hx2
    replace hy2 : Rd .u8 (w2.drewN q) B ys := hy2
    replace hrx : Rd .u8 (w2.drewN q) (some ⟨g1, 0, none⟩) xs := hrx
    replace hry : Rd .u8 (w2.drewN q) (some ⟨g2, 0, none⟩) ys := hry
    replace hbel : Below w.heap.size w (w2.drewN q) := below_drewN hbel q
    generalize w2.drewN q = w2 at *
    go_wp2_with fail
    refine (eqBytes_any A B _ _ c d xs ys _ rfl rfl hx2 hy2 lx ly).mono ?_
    rw [HD1.out]
    rintro e w3 ⟨rfl, rfl⟩
    go_wp2_with fail
    refine (shaSame_any (some ⟨g1, 0, none⟩) (some ⟨g1, 0, none⟩) _ _ c1 c1 xs xs _ rfl rfl hs1 hs1 hrx hrx lx lx).mono ?_
    rw [show decide (xs = xs) = true by simp]
    rintro e w3 ⟨rfl, q, rfl⟩
    replace hB1 : Blk .u8 (w2.drewN q) g1 (xs ++ L7) := hB1.drewN q
    replace hB2 : Blk .u8 (w2.drewN q) g2 (ys ++ L7) := hB2.drewN q
    replace hx2 : Rd .u8 (w2.drewN q) A xs := hx2
    replace hy2 : Rd .u8 (w2.drewN q) B ys := hy2
    replace hrx : Rd .u8 (w2.drewN q) (some ⟨g1, 0, none⟩) xs := hrx
    replace hry : Rd .u8 (w2.drewN q) (some ⟨g2, 0, none⟩) ys := hry
    replace hbel : Below w.heap.size w (w2.drewN q) := below_drewN hbel q
    generalize w2.drewN q = w2 at *
    go_wp2_with fail
    refine (kept_any g1 c1 A _ _ c xs _ rfl rfl hs1 h71 hB1 hx2 lx).mono ?_
    rintro e w3 ⟨rfl, rfl⟩
    go_wp2_with fail
    refine (kept_any g2 c2 B _ _ d ys _ rfl rfl hs2 h72 hB2 hy2 ly).mono ?_
    rintro e w3 ⟨rfl, rfl⟩
    go_wp2_with fail
    refine (shaWorks_any _).mono ?_
    rintro e w4 ⟨rfl, hb4⟩
    go_wp2_with fail
    go_ret
    exact ⟨rfl, hbel.trans (hb4.mono hbel.size)⟩
  | false =>
    have hdec2 : decide (ys = xs) = false := by rw [← hdec]; simp [eq_comm]
    have HD1 := Lib.hid hdec
    have HD2 := Lib.hid hdec2
    clear hdec hdec2
    go_wp2_with fail
    refine (shaSame_any (some ⟨g1, 0, none⟩) (some ⟨g2, 0, none⟩) _ _ c1 c2 xs ys _ rfl rfl hs1 hs2 hrx hry lx ly).mono ?_
    rw [HD1.out]
    rintro e w3 ⟨rfl, q, rfl⟩
    replace hB1 : Blk .u8 (w2.drewN q) g1 (xs ++ L7) := hB1.drewN q
    replace hB2 : Blk .u8 (w2.drewN q) g2 (ys ++ L7) := hB2.drewN q
    replace hx2 : Rd .u8 (w2.drewN q) A xs := hx2
    replace hy2 : Rd .u8 (w2.drewN q) B ys := hy2
    replace hrx : Rd .u8 (w2.drewN q) (some ⟨g1, 0, none⟩) xs := hrx
    replace hry : Rd .u8 (w2.drewN q) (some ⟨g2, 0, none⟩) ys := hry
    replace hbel : Below w.heap.size w (w2.drewN q) := below_drewN hbel q
    generalize w2.drewN q = w2 at *
    go_wp2_with fail
    refine (eqBytes_any A B _ _ c d xs ys _ rfl rfl hx2 hy2 lx ly).mono ?_
    rw [HD1.out]
    rintro e w3 ⟨rfl, rfl⟩
    go_wp2_with fail
    refine (shaSame_any (some ⟨g2, 0, none⟩) (some ⟨g1, 0, none⟩) _ _ c2 c1 ys xs _ rfl rfl hs2 hs1 hry hrx ly lx).mono ?_
    rw [HD2.out]
    rintro e w3 ⟨rfl, q, rfl⟩
    replace hB1 : Blk .u8 (w2.drewN q) g1 (xs ++ L7) := hB1.drewN q
    replace hB2 : Blk .u8 (w2.drewN q) g2 (ys ++ L7) := hB2.drewN q
    replace hx2 : Rd .u8 (w2.drewN q) A xs := hx2
    replace hy2 : Rd .u8 (w2.drewN q) B ys := hy2
    replace hrx : Rd .u8 (w2.drewN q) (some ⟨g1, 0, none⟩) xs := hrx
    replace hry : Rd .u8 (w2.drewN q) (some ⟨g2, 0, none⟩) ys := hry
    replace hbel : Below w.heap.size w (w2.drewN q) := below_drewN hbel q
    generalize w2.drewN q = w2 at *
    go_wp2_with fail
    refine (eqBytes_any A B _ _ c d xs ys _ rfl rfl hx2 hy2 lx ly).mono ?_
    rw [HD1.out]
    rintro e w3 ⟨rfl, rfl⟩
    go_wp2_with fail
    refine (shaSame_any (some ⟨g1, 0, none⟩) (some ⟨g1, 0, none⟩) _ _ c1 c1 xs xs _ rfl rfl hs1 hs1 hrx hrx lx lx).mono ?_
    rw [show decide (xs = xs) = true by simp]
    rintro e w3 ⟨rfl, q, rfl⟩
    replace hB1 : Blk .u8 (w2.drewN q) g1 (xs ++ L7) := hB1.drewN q
    replace hB2 : Blk .u8 (w2.drewN q) g2 (ys ++ L7) := hB2.drewN q
    replace hx2 : Rd .u8 (w2.drewN q) A xs := hx2
    replace hy2 : Rd .u8 (w2.drewN q) B ys := hy2
    replace hrx : Rd .u8 (w2.drewN q) (some ⟨g1, 0, none⟩) xs := hrx
    replace hry : Rd .u8 (w2.drewN q) (some ⟨g2, 0, none⟩) ys := hry
    replace hbel : Below w.heap.size w (w2.drewN q) := below_drewN hbel q
    generalize w2.drewN q = w2 at *
    go_wp2_with fail
    refine (kept_any g1 c1 A _ _ c xs _ rfl rfl hs1 h71 hB1 hx2 lx).mono ?_
    rintro e w3 ⟨rfl, rfl⟩
    go_wp2_with fail
    refine (kept_any g2 c2 B _ _ d ys _ rfl rfl hs2 h72 hB2 hy2 ly).mono ?_
    rintro e w3 ⟨rfl, rfl⟩
    go_wp2_with fail
    refine (shaWorks_any _).mono ?_
    rintro e w4 ⟨rfl, hb4⟩
    go_wp2_with fail
    go_ret
    exact ⟨rfl, hbel.trans (hb4.mono hbel.size)⟩
end Go.Proofs.Ytmbkehmgpcmicaa
