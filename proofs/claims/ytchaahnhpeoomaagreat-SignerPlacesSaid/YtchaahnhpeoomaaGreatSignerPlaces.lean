/-
  The statement SignerPlaces, proved: for every input the law returns true, and each argument reads behind the call as it read before. No condition beyond the given row's own. (The frame follows the one that the kit's program writes.)
-/
import Derived.Test.YtchaahnhpeoomaaGreatRows
import Derived.Test.YtchaahnhpeoomaaGreatOpn
import Derived.Test.YtchaahnhpeoomaaGreatSgPc
import Derived.WalkKit
import Derived.ProofKit
import Derived.OpenShut
import Derived.ShutString
import Derived.ChangeOld
import Derived.Below
import Derived.SizedLaws
namespace Go.Proofs.YtchaahnhpeoomaaGreat.signerPlaces
open Go.ChangeShapes Go.WideShapes Go.ChangeAt Go.RowKit
set_option linter.unusedVariables false

theorem own : ownKnob Tryz.prog.godebug = none := by kernel_rfl

/-! ### The walk -/
theorem walk (x0 : CaseV) (x1 : Nat) (x2 : Nat) (w : World) (q0 : QCase w x0) (q1 : x1 < 256) (q2 : x2 < 256) :
    Calls Tryz.prog 10 #[.agg (CCase x0).toArray, .int .u8 (x1 : Int), .int .u8 (x2 : Int)] w fun e w' => e = .returned (.bool true) ∧ Below w.heap.size w w' := by
  exact sgPlaces_any x0 x1 x2 w q0 q1 q2

/-! ### The row's step -/
theorem j0 : (Rows.signerPlacesRow.inPlace == Tryz.prog.inPlace 10) = true := by kernel_rfl
theorem j1 : (Rows.signerPlacesRow.unfollowed == Tryz.prog.unfollowed 10) = true := by kernel_rfl
theorem j2 : (Rows.signerPlacesRow.recurses == Tryz.prog.recurses 10) = true := by kernel_rfl
theorem j3 : (Rows.signerPlacesRow.named == Tryz.prog.varsNamed 10) = true := by kernel_rfl
theorem j4 : Tryz.prog.stopsHeard = true := by kernel_rfl
theorem j5 : Tryz.prog.mayEnter = true := by kernel_rfl
theorem j6 : (Rows.signerPlacesRow.lifted == Tryz.prog.liftsFinal) = true := by kernel_rfl
theorem j7 : (Rows.signerPlacesRow.plainKeys == Tryz.prog.plainKeys) = true := by kernel_rfl
theorem j8 : laidOutB Tryz.prog = true := by kernel_rfl
theorem j9 : mapsRowed Tryz.prog = true := by kernel_rfl
theorem closed : joinedFacts Tryz.prog 10 Tryz.f10 Rows.signerPlacesSpec Rows.signerPlacesRow = true := by
  unfold joinedFacts
  simp only [Bool.and_eq_true]
  and_intros
  all_goals first
    | with_reducible exact j0 | with_reducible exact j1 | with_reducible exact j2 | with_reducible exact j3 | with_reducible exact j4 | with_reducible exact j5 | with_reducible exact j6 | with_reducible exact j7 | with_reducible exact j8 | with_reducible exact j9
    | kernel_rfl
set_option maxRecDepth 100000 in
theorem lifted (os : Os) (started : os.Started) (H : Type) (enc : TypeId × Value → H) :
    ReturnsInHanded {} Tryz.checked os 10 .any (Rows.signerPlacesSpec.pre6 enc Tryz.prog Tryz.f10 Rows.signerPlacesRow.domain false) (Rows.signerPlacesSpec.post enc Tryz.prog Tryz.f10 false true false false) := by
  refine returnsInHanded_of_change_sized (C := Tryz.checked) own started (by kernel_rfl) Tryz.func10
    (ChangeSpec.witness6 (enc := enc) (C := Tryz.checked) false ⟨#[], #[.agg (CCase ⟨(none, 0, []), (List.replicate 32 0), false, 0⟩).toArray, .int .u8 0, .int .u8 0], []⟩ 8 (by kernel_rfl) (by kernel_rfl) (by kernel_rfl) (by kernel_rfl)) ?_
  intro W base args ds gs before hval0 hW hcnd hsz _
  have hval : ∀ (j : Nat) t v, Tryz.f10.params[j]? = some t → args[j]? = some v → Value.okWide Tryz.prog W .any base t v := hval0
  have hW' := hW
  obtain ⟨p, q, hA0, hV, rfl, hfz, hnd⟩ := hW
  have hA : DataW.TrodAll enc Tryz.prog W 0 (fun _ => true) true Tryz.f10.params.toList args.toList ds p := hA0
  rw [Tryz.params10] at hA hval
  obtain ⟨v0, vs0, d0, ds0, p0, q0, hargs, rfl, rfl, h0, r0⟩ := trodAll_cons hA
  obtain ⟨v1, vs1, d1, ds1, p1, q1, rfl, rfl, rfl, h1, r1⟩ := trodAll_cons r0
  obtain ⟨v2, vs2, d2, ds2, p2, q2, rfl, rfl, rfl, h2, r2⟩ := trodAll_cons r1
  obtain ⟨rfl, rfl, rfl⟩ := trodAll_nil r2
  obtain rfl : args = #[v0, v1, v2] := by cases args; simp_all
  obtain ⟨rfl, rfl⟩ := trodVars_none hV
  have k0 := h0
  have lt0 : ∀ x ∈ p0, x.block < W.heap.size := by obtain ⟨m, hm⟩ := k0; exact DataW.trod_lt m _ _ _ hm
  have hw0 : ∀ n ∈ d0.weights Tryz.prog 61, n ≤ reachBytes := fun n hn => of_decide_eq_true (List.all_eq_true.1 hsz n (DataW.weights_mem_each (j := 0) (t := 61) rfl rfl n hn))
  obtain ⟨x0, rfl, y0⟩ := agg_of_trodW Tryz.underlying61 opn_case (hval 0 61 v0 rfl rfl) h0 hw0
  have k1 := h1
  have lt1 : ∀ x ∈ p1, x.block < W.heap.size := by obtain ⟨m, hm⟩ := k1; exact DataW.trod_lt m _ _ _ hm
  obtain ⟨z1, rfl, wn1⟩ := int_of_trod Tryz.underlying5 (hval 1 5 v1 rfl rfl) h1
  obtain ⟨x1, rfl, y1⟩ := nat_of_u8 wn1
  have k2 := h2
  have lt2 : ∀ x ∈ p2, x.block < W.heap.size := by obtain ⟨m, hm⟩ := k2; exact DataW.trod_lt m _ _ _ hm
  obtain ⟨z2, rfl, wn2⟩ := int_of_trod Tryz.underlying5 (hval 2 5 v2 rfl rfl) h2
  obtain ⟨x2, rfl, y2⟩ := nat_of_u8 wn2
  clear hA0 hval0
  refine (walk x0 x1 x2 W y0 y1 y2).mono fun e W' ⟨he, bel⟩ => ?_
  subst he
  exact ⟨_, rfl, _, _, _, [], _, [], hW', trodAll_mk1 (shut_bool Tryz.underlying4 _), (trodAll_cons_mk (Below.trod j8 (by kernel_rfl) (of_decide_eq_true (by kernel_rfl)) k0 bel lt0) (trodAll_cons_mk (Below.trod j8 (by kernel_rfl) (of_decide_eq_true (by kernel_rfl)) k1 bel lt1) (trodAll_cons_mk (Below.trod j8 (by kernel_rfl) (of_decide_eq_true (by kernel_rfl)) k2 bel lt2) trodAll_mk0))), rfl, bel.frame _, fun h => by cases h⟩

theorem over : Rows.signerPlacesRow.holds Tryz.pinned (OpenSpec.ofChange Rows.signerPlacesSpec) :=
  OpenClaim.holds_of_wide 10 Tryz.f10 rfl rfl rfl rfl rfl rfl rfl ⟨rfl, rfl, rfl, rfl, rfl⟩ rfl rfl rfl rfl rfl (by kernel_rfl) Tryz.func10 closed
    (of_decide_eq_true (by kernel_rfl)) (by unfold Func.isWrapper; first | (rw [if_pos (by decide +kernel)]; kernel_rfl) | (rw [if_neg (by decide +kernel)]; exact ⟨rfl, rfl⟩))
    (fun os started H enc _ => lifted os started H enc)

/-- The statement. -/
theorem proved : Rows.SignerPlacesSaid := over
#print axioms proved
end Go.Proofs.YtchaahnhpeoomaaGreat.signerPlaces
