/-
  The walks of the statements ShaNil, ShaBytes, ShaPieces.
-/
import Derived.Test.YtmbkehmgpcmicaaShaL
namespace Go.Proofs.Ytmbkehmgpcmicaa
set_option linter.unusedVariables false
set_option linter.unusedSimpArgs false
open Go.RowKit

theorem built_32 : Try.prog.built 25 [] = some (ints .u8 (List.replicate 32 0)).toArray := by kernel_rfl
set_option maxRecDepth 100000 in
set_option maxHeartbeats 800000 in
theorem shaNil_any (A : Option Addr) (n c : Nat) (w : World) (hl : n ≤ 9223372036854775807) :
    Calls Try.prog 7 #[.slice A n c] w (Yes w) := by
  by_cases h : 65536 < n
  · go_enter Try.func7, Try.ntmps7
    go_wp2_with fail
    refine (shaWorks_any _).mono ?_
    rintro e w1 ⟨rfl, hb⟩
    go_wp2_with fail
    go_ret
    exact ⟨rfl, hb⟩
  · obtain ⟨Z, hZ⟩ : ∃ Z, Z = (ints .u8 (List.replicate 32 0)).toArray := ⟨_, rfl⟩
    have hq : ∀ w, (binOp .eql 25 (.agg Z) (.agg Z)).run Try.prog w = .ok (.bool true) w := by rw [hZ]; exact eql_same (List.replicate 32 0) rfl
    have hbl : Hid (Try.prog.built 25 [] = some Z) := by rw [hZ]; exact built_32
    have hsn : Hid (∀ w, Calls Try.prog 18 #[.pointer none] w fun e w' => e = .returned (.agg Z) ∧ Below w.heap.size w w') := by rw [hZ]; exact sumNil_any
    clear hZ
    go_enter Try.func7, Try.ntmps7
    go_wp2_with fail
    refine (writeNil_any _ _).mono ?_
    rintro e w1 ⟨rfl, rfl⟩
    go_wp2_with fail
    refine (hsn.out _).mono ?_
    rintro e w1 ⟨rfl, hb1⟩
    go_wp2_with (refine wpList_build0 rfl 25 rfl Z hbl.out ?_)
    refine (shaWorks_any _).mono ?_
    rintro e w2 ⟨rfl, hb2⟩
    go_wp2_with fail
    go_ret
    exact ⟨rfl, hb1.trans (hb2.mono hb1.size)⟩
end Go.Proofs.Ytmbkehmgpcmicaa
