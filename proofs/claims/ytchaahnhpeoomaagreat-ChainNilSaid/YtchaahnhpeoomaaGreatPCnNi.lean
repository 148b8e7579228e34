/-
 The statement ChainNil: where there is nobody to ask nothing is found.
-/
import Derived.Test.YtchaahnhpeoomaaGreatPChW
namespace Go.Proofs.YtchaahnhpeoomaaGreat
set_option linter.unusedVariables false
set_option linter.unusedSimpArgs false
set_option maxRecDepth 20000
open Go.RowKit
set_option maxRecDepth 100000 in
set_option maxHeartbeats 12800000 in
theorem cnNil_any (t : CIn) (w : World) (q : QCasec w t) : Calls Tryz.prog 16 #[.agg (CCasec t).toArray] w (RetW true w) := by
 obtain ⟨lf, ⟨pA, pc, cs⟩, ⟨tA, tc, ts⟩⟩ := t
 obtain ⟨L0, hL0⟩ : ∃ L, L = CCasec (lf, ⟨pA, pc, cs⟩, ⟨tA, tc, ts⟩) := ⟨_, rfl⟩
 rw [← hL0]
 obtain ⟨g0, hg0⟩ : ∃ g, g = w.heap.size := ⟨_, rfl⟩
 obtain ⟨w0, hw0⟩ : ∃ u, u = w.alloc (.cells L0.toArray 36) := ⟨_, rfl⟩
 have hE : Below w.heap.size w w0 := by rw [hw0]; exact (Below.refl _ _).alloc (Nat.le_refl _) _
 have B0 : Row w0 g0 0 L0 := by rw [hw0, hg0]; exact row_new _
 have CW : CaseW w0 g0 (lf, ⟨pA, pc, cs⟩, ⟨tA, tc, ts⟩) := ⟨by rw [← hL0]; exact B0, q.below hE⟩
 clear B0
 replace hL0 := Lib.hid hL0
 go_enter Tryz.func16, Tryz.ntmps16
 go_upto_region 1 with fail
 refine wp_world hw0 ?_
 rw [← hg0]
 clear hw0
 replace hg0 := Lib.hid hg0
 have lc : (Tryz.prog.info? 36).map (·.size) = some L0.length := by rw [hL0.out]; exact sz_case13 _
 have BL : Row w0 g0 0 L0 := by rw [hL0.out]; exact CW.row
 go_wp2_with ((with_reducible refine wpList_load_mid ?_ 36 (.tmp 1) ?_ g0 0 ?_ L0 _ BL.rng Tryz.underlying36 ?_ lc ?_); (· rfl); (· rfl); (· rfl); (· rfl))
 rw [show (Value.agg L0.toArray) = .agg (CCasec (lf, ⟨pA, pc, cs⟩, ⟨tA, tc, ts⟩)).toArray by rw [hL0.out]]
 refine (large13_any _ w0 CW.q).mono ?_
 clear BL lc
 rintro r1 w1 ⟨big, rfl, hsm, b⟩
 replace CW := CW.below b
 replace hE := hE.trans (b.mono hE.size)
 clear b hL0
 cases big
 case true =>
  go_wp2_with fail
  refine (works13_any _).mono ?_
  rintro r w' ⟨rfl, b⟩
  go_wp2_with fail
  go_ret
  exact ⟨rfl, hE.trans (b.mono hE.size)⟩
 case false =>
  have k24 := CW.pool
  simp only at k24
  have hff := findNil_any lf pA cs.length pc w1
  unfold Crt.val at hff
  go_wp2_with ((with_reducible refine wpList_load_mid ?_ 30 (.tmp 9) ?_ g0 0 ?_ lf.cells _ CW.leaf.rng Tryz.underlying30 ?_ (sz_crt _) ?_); (· rfl); (· rfl); (· rfl); (· rfl))
  refine hff.mono ?_
  rintro e w2 ⟨rfl, b⟩
  replace hE := hE.trans (b.mono hE.size)
  clear hff b CW k24
  go_wp2_with fail
  refine (works13_any _).mono ?_
  rintro r w' ⟨rfl, b⟩
  go_wp2_with fail
  go_ret
  exact ⟨rfl, hE.trans (b.mono hE.size)⟩
end Go.Proofs.YtchaahnhpeoomaaGreat
