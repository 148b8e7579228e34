/-
  The statement SignerAlone, proved: for every input the law returns true, and each argument reads behind the call as it read before. No condition beyond the given row's own. (The frame follows the one that the kit's program writes.)
-/
import Derived.Test.YtchaahnhpeoomaaGreatRows
import Derived.Test.YtchaahnhpeoomaaGreatOpn
import Derived.Test.YtchaahnhpeoomaaGreatSgAl
import Derived.WalkKit
import Derived.ProofKit
import Derived.OpenShut
import Derived.ShutString
import Derived.ChangeOld
import Derived.Below
import Derived.SizedLaws
namespace Go.Proofs.YtchaahnhpeoomaaGreat.signerAlone
open Go.ChangeShapes Go.WideShapes Go.ChangeAt Go.RowKit
set_option linter.unusedVariables false

theorem own : ownKnob Tryz.prog.godebug = none := by kernel_rfl

/-! ### The walk -/
theorem walk (x0 : CaseV) (x1 : (Crt × Int × Sgn)) (w : World) (q0 : QCase w x0) (q1 : QMore w x1) :
    Calls Tryz.prog 7 #[.agg (CCase x0).toArray, .agg (CMore x1).toArray] w fun e w' => e = .returned (.bool true) ∧ Below w.heap.size w w' := by
  exact sgAlone_any x0 x1 w q0 q1

/-! ### The row's step -/
theorem j0 : (Rows.signerAloneRow.inPlace == Tryz.prog.inPlace 7) = true := by kernel_rfl
theorem j1 : (Rows.signerAloneRow.unfollowed == Tryz.prog.unfollowed 7) = true := by kernel_rfl
theorem j2 : (Rows.signerAloneRow.recurses == Tryz.prog.recurses 7) = true := by kernel_rfl
theorem j3 : (Rows.signerAloneRow.named == Tryz.prog.varsNamed 7) = true := by kernel_rfl
theorem j4 : Tryz.prog.stopsHeard = true := by kernel_rfl
theorem j5 : Tryz.prog.mayEnter = true := by kernel_rfl
theorem j6 : (Rows.signerAloneRow.lifted == Tryz.prog.liftsFinal) = true := by kernel_rfl
theorem j7 : (Rows.signerAloneRow.plainKeys == Tryz.prog.plainKeys) = true := by kernel_rfl
theorem j8 : laidOutB Tryz.prog = true := by kernel_rfl
theorem j9 : mapsRowed Tryz.prog = true := by kernel_rfl
theorem closed : joinedFacts Tryz.prog 7 Tryz.f7 Rows.signerAloneSpec Rows.signerAloneRow = true := by
  unfold joinedFacts
  simp only [Bool.and_eq_true]
  and_intros
  all_goals first
    | with_reducible exact j0 | with_reducible exact j1 | with_reducible exact j2 | with_reducible exact j3 | with_reducible exact j4 | with_reducible exact j5 | with_reducible exact j6 | with_reducible exact j7 | with_reducible exact j8 | with_reducible exact j9
    | kernel_rfl
set_option maxRecDepth 100000 in
theorem lifted (os : Os) (started : os.Started) (H : Type) (enc : TypeId × Value → H) :
    ReturnsInHanded {} Tryz.checked os 7 .any (Rows.signerAloneSpec.pre6 enc Tryz.prog Tryz.f7 Rows.signerAloneRow.domain false) (Rows.signerAloneSpec.post enc Tryz.prog Tryz.f7 false true false false) := by
  refine returnsInHanded_of_change_sized (C := Tryz.checked) own started (by kernel_rfl) Tryz.func7
    (ChangeSpec.witness6 (enc := enc) (C := Tryz.checked) false ⟨#[], #[.agg (CCase ⟨(none, 0, []), (List.replicate 32 0), false, 0⟩).toArray, .agg (CMore (Crt.none, 0, ⟨Sl.nil, Sl.nil, Sl.nil, Sl.nil, Sl.nil, Sl.nil⟩)).toArray], []⟩ 8 (by kernel_rfl) (by kernel_rfl) (by kernel_rfl) (by kernel_rfl)) ?_
  intro W base args ds gs before hval0 hW hcnd hsz _
  have hval : ∀ (j : Nat) t v, Tryz.f7.params[j]? = some t → args[j]? = some v → Value.okWide Tryz.prog W .any base t v := hval0
  have hW' := hW
  obtain ⟨p, q, hA0, hV, rfl, hfz, hnd⟩ := hW
  have hA : DataW.TrodAll enc Tryz.prog W 0 (fun _ => true) true Tryz.f7.params.toList args.toList ds p := hA0
  rw [Tryz.params7] at hA hval
  obtain ⟨v0, vs0, d0, ds0, p0, q0, hargs, rfl, rfl, h0, r0⟩ := trodAll_cons hA
  obtain ⟨v1, vs1, d1, ds1, p1, q1, rfl, rfl, rfl, h1, r1⟩ := trodAll_cons r0
  obtain ⟨rfl, rfl, rfl⟩ := trodAll_nil r1
  obtain rfl : args = #[v0, v1] := by cases args; simp_all
  obtain ⟨rfl, rfl⟩ := trodVars_none hV
  have k0 := h0
  have lt0 : ∀ x ∈ p0, x.block < W.heap.size := by obtain ⟨m, hm⟩ := k0; exact DataW.trod_lt m _ _ _ hm
  have hw0 : ∀ n ∈ d0.weights Tryz.prog 61, n ≤ reachBytes := fun n hn => of_decide_eq_true (List.all_eq_true.1 hsz n (DataW.weights_mem_each (j := 0) (t := 61) rfl rfl n hn))
  obtain ⟨x0, rfl, y0⟩ := agg_of_trodW Tryz.underlying61 opn_case (hval 0 61 v0 rfl rfl) h0 hw0
  have k1 := h1
  have lt1 : ∀ x ∈ p1, x.block < W.heap.size := by obtain ⟨m, hm⟩ := k1; exact DataW.trod_lt m _ _ _ hm
  obtain ⟨x1, rfl, y1⟩ := agg_of_trod Tryz.underlying69 opn_more (hval 1 69 v1 rfl rfl) h1
  clear hA0 hval0
  refine (walk x0 x1 W y0 y1).mono fun e W' ⟨he, bel⟩ => ?_
  subst he
  exact ⟨_, rfl, _, _, _, [], _, [], hW', trodAll_mk1 (shut_bool Tryz.underlying4 _), (trodAll_cons_mk (Below.trod j8 (by kernel_rfl) (of_decide_eq_true (by kernel_rfl)) k0 bel lt0) (trodAll_cons_mk (Below.trod j8 (by kernel_rfl) (of_decide_eq_true (by kernel_rfl)) k1 bel lt1) trodAll_mk0)), rfl, bel.frame _, fun h => by cases h⟩

theorem over : Rows.signerAloneRow.holds Tryz.pinned (OpenSpec.ofChange Rows.signerAloneSpec) :=
  OpenClaim.holds_of_wide 7 Tryz.f7 rfl rfl rfl rfl rfl rfl rfl ⟨rfl, rfl, rfl, rfl, rfl⟩ rfl rfl rfl rfl rfl (by kernel_rfl) Tryz.func7 closed
    (of_decide_eq_true (by kernel_rfl)) (by unfold Func.isWrapper; first | (rw [if_pos (by decide +kernel)]; kernel_rfl) | (rw [if_neg (by decide +kernel)]; exact ⟨rfl, rfl⟩))
    (fun os started H enc _ => lifted os started H enc)

/-- The statement. -/
theorem proved : Rows.SignerAloneSaid := over
#print axioms proved
end Go.Proofs.YtchaahnhpeoomaaGreat.signerAlone
