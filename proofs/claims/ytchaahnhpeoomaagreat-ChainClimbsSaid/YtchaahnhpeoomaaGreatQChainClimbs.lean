/-
  The statement ChainClimbs, proved: for every input the law returns true, and each argument reads behind the call as it read before. No condition beyond the given row's own. (The frame follows the one that the kit's program writes.)
-/
import Derived.Test.YtchaahnhpeoomaaGreatRows
import Derived.Test.YtchaahnhpeoomaaGreatQOpnS
import Derived.Test.YtchaahnhpeoomaaGreatQCnCl
import Derived.WalkKit
import Derived.ProofKit
import Derived.OpenShut
import Derived.ShutString
import Derived.ChangeOld
import Derived.Below
import Derived.SizedLaws
namespace Go.Proofs.YtchaahnhpeoomaaGreat.chainClimbs
open Go.ChangeShapes Go.WideShapes Go.ChangeAt Go.RowKit
set_option linter.unusedVariables false
theorem own : ownKnob Tryz.prog.godebug = none := by kernel_rfl
theorem walk (x0 : (Nat × Nat × Int × Int × Bool × Bool × Nat)) (w : World) (q0 : QRow w x0) :
  Calls Tryz.prog 18 #[.agg (CRow x0).toArray] w fun e w' => e = .returned (.bool true) ∧ Below w.heap.size w w' := by
 exact cnCl_any x0 w q0
theorem j0 : (Rows.chainClimbsRow.inPlace == Tryz.prog.inPlace 18) = true := by kernel_rfl
theorem j1 : (Rows.chainClimbsRow.unfollowed == Tryz.prog.unfollowed 18) = true := by kernel_rfl
theorem j2 : (Rows.chainClimbsRow.recurses == Tryz.prog.recurses 18) = true := by kernel_rfl
theorem j3 : (Rows.chainClimbsRow.named == Tryz.prog.varsNamed 18) = true := by kernel_rfl
theorem j4 : Tryz.prog.stopsHeard = true := by kernel_rfl
theorem j5 : Tryz.prog.mayEnter = true := by kernel_rfl
theorem j6 : (Rows.chainClimbsRow.lifted == Tryz.prog.liftsFinal) = true := by kernel_rfl
theorem j7 : (Rows.chainClimbsRow.plainKeys == Tryz.prog.plainKeys) = true := by kernel_rfl
theorem j8 : laidOutB Tryz.prog = true := by kernel_rfl
theorem j9 : mapsRowed Tryz.prog = true := by kernel_rfl
theorem closed : joinedFacts Tryz.prog 18 Tryz.f18 Rows.chainClimbsSpec Rows.chainClimbsRow = true := by
 unfold joinedFacts
 simp only [Bool.and_eq_true]
 and_intros
 all_goals first
  | with_reducible exact j0 | with_reducible exact j1 | with_reducible exact j2 | with_reducible exact j3 | with_reducible exact j4 | with_reducible exact j5 | with_reducible exact j6 | with_reducible exact j7 | with_reducible exact j8 | with_reducible exact j9
  | kernel_rfl
set_option maxRecDepth 100000 in
theorem lifted (os : Os) (started : os.Started) (H : Type) (enc : TypeId × Value → H) :
  ReturnsInHanded {} Tryz.checked os 18 .any (Rows.chainClimbsSpec.pre6 enc Tryz.prog Tryz.f18 Rows.chainClimbsRow.domain false) (Rows.chainClimbsSpec.post enc Tryz.prog Tryz.f18 false true false false) := by
 refine returnsInHanded_of_change (C := Tryz.checked) own started (by kernel_rfl) Tryz.func18
  (ChangeSpec.witness6 (enc := enc) (C := Tryz.checked) false ⟨#[], #[.agg (CRow (0, 0, 0, 0, false, false, 0)).toArray], []⟩ 8 (by kernel_rfl) (by kernel_rfl) (by kernel_rfl) (by kernel_rfl)) ?_
 intro W base args ds gs before hval0 hW hcnd _
 have hval : ∀ (j : Nat) t v, Tryz.f18.params[j]? = some t → args[j]? = some v → Value.okWide Tryz.prog W .any base t v := hval0
 have hW' := hW
 obtain ⟨p, q, hA0, hV, rfl, hfz, hnd⟩ := hW
 have hA : DataW.TrodAll enc Tryz.prog W 0 (fun _ => true) true Tryz.f18.params.toList args.toList ds p := hA0
 rw [Tryz.params18] at hA hval
 obtain ⟨v0, vs0, d0, ds0, p0, q0, hargs, rfl, rfl, h0, r0⟩ := trodAll_cons hA
 obtain ⟨rfl, rfl, rfl⟩ := trodAll_nil r0
 obtain rfl : args = #[v0] := by cases args; simp_all
 obtain ⟨rfl, rfl⟩ := trodVars_none hV
 have k0 := h0
 have lt0 : ∀ x ∈ p0, x.block < W.heap.size := by obtain ⟨m, hm⟩ := k0; exact DataW.trod_lt m _ _ _ hm
 obtain ⟨x0, rfl, y0⟩ := agg_of_trod Tryz.underlying87 opn_row (hval 0 87 v0 rfl rfl) h0
 clear hA0 hval0
 refine (walk x0 W y0).mono fun e W' ⟨he, bel⟩ => ?_
 subst he
 exact ⟨_, rfl, _, _, _, [], _, [], hW', trodAll_mk1 (shut_bool Tryz.underlying4 _), (trodAll_cons_mk (Below.trod j8 (by kernel_rfl) (of_decide_eq_true (by kernel_rfl)) k0 bel lt0) trodAll_mk0), rfl, bel.frame _, fun h => by cases h⟩
theorem over : Rows.chainClimbsRow.holds Tryz.pinned (OpenSpec.ofChange Rows.chainClimbsSpec) :=
 OpenClaim.holds_of_wide 18 Tryz.f18 rfl rfl rfl rfl rfl rfl rfl ⟨rfl, rfl, rfl, rfl, rfl⟩ rfl rfl rfl rfl rfl (by kernel_rfl) Tryz.func18 closed
  (of_decide_eq_true (by kernel_rfl)) (by unfold Func.isWrapper; first | (rw [if_pos (by decide +kernel)]; kernel_rfl) | (rw [if_neg (by decide +kernel)]; exact ⟨rfl, rfl⟩))
  (fun os started H enc _ => lifted os started H enc)
theorem proved : Rows.ChainClimbsSaid := over
#print axioms proved
end Go.Proofs.YtchaahnhpeoomaaGreat.chainClimbs
