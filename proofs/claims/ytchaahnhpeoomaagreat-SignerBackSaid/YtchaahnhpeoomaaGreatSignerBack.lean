/-
  The statement SignerBack, proved: for every input the law returns true, and each argument reads behind the call as it read before. No condition beyond the given row's own. (The frame follows the one that the kit's program writes.)
-/
import Derived.Test.YtchaahnhpeoomaaGreatRows
import Derived.Test.YtchaahnhpeoomaaGreatOpn
import Derived.Test.YtchaahnhpeoomaaGreatSgBk
import Derived.WalkKit
import Derived.ProofKit
import Derived.OpenShut
import Derived.ShutString
import Derived.ChangeOld
import Derived.Below
import Derived.SizedLaws
namespace Go.Proofs.YtchaahnhpeoomaaGreat.signerBack
open Go.ChangeShapes Go.WideShapes Go.ChangeAt Go.RowKit
set_option linter.unusedVariables false

theorem own : ownKnob Tryz.prog.godebug = none := by kernel_rfl

/-! ### The walk -/
theorem walk (x0 : CaseV) (x1 : List Nat) (x2 : (Option Addr × Nat × List Nat)) (w : World) (q0 : QCase w x0) (q1 : x1.length = 32 ∧ Lim 256 x1) (q2 : SqOk w x2) :
    Calls Tryz.prog 6 #[.agg (CCase x0).toArray, .agg (ints .u8 x1).toArray, Sq x2] w fun e w' => e = .returned (.bool true) ∧ Below w.heap.size w w' := by
  exact sgBack_any x0 x1 x2 w q0 q1 q2

/-! ### The row's step -/
theorem j0 : (Rows.signerBackRow.inPlace == Tryz.prog.inPlace 6) = true := by kernel_rfl
theorem j1 : (Rows.signerBackRow.unfollowed == Tryz.prog.unfollowed 6) = true := by kernel_rfl
theorem j2 : (Rows.signerBackRow.recurses == Tryz.prog.recurses 6) = true := by kernel_rfl
theorem j3 : (Rows.signerBackRow.named == Tryz.prog.varsNamed 6) = true := by kernel_rfl
theorem j4 : Tryz.prog.stopsHeard = true := by kernel_rfl
theorem j5 : Tryz.prog.mayEnter = true := by kernel_rfl
theorem j6 : (Rows.signerBackRow.lifted == Tryz.prog.liftsFinal) = true := by kernel_rfl
theorem j7 : (Rows.signerBackRow.plainKeys == Tryz.prog.plainKeys) = true := by kernel_rfl
theorem j8 : laidOutB Tryz.prog = true := by kernel_rfl
theorem j9 : mapsRowed Tryz.prog = true := by kernel_rfl
theorem closed : joinedFacts Tryz.prog 6 Tryz.f6 Rows.signerBackSpec Rows.signerBackRow = true := by
  unfold joinedFacts
  simp only [Bool.and_eq_true]
  and_intros
  all_goals first
    | with_reducible exact j0 | with_reducible exact j1 | with_reducible exact j2 | with_reducible exact j3 | with_reducible exact j4 | with_reducible exact j5 | with_reducible exact j6 | with_reducible exact j7 | with_reducible exact j8 | with_reducible exact j9
    | kernel_rfl
set_option maxRecDepth 100000 in
theorem lifted (os : Os) (started : os.Started) (H : Type) (enc : TypeId × Value → H) :
    ReturnsInHanded {} Tryz.checked os 6 .any (Rows.signerBackSpec.pre6 enc Tryz.prog Tryz.f6 Rows.signerBackRow.domain false) (Rows.signerBackSpec.post enc Tryz.prog Tryz.f6 false true false false) := by
  refine returnsInHanded_of_change_sized (C := Tryz.checked) own started (by kernel_rfl) Tryz.func6
    (ChangeSpec.witness6 (enc := enc) (C := Tryz.checked) false ⟨#[], #[.agg (CCase ⟨(none, 0, []), (List.replicate 32 0), false, 0⟩).toArray, .agg (ints .u8 (List.replicate 32 0)).toArray, .slice none 0 0], []⟩ 8 (by kernel_rfl) (by kernel_rfl) (by kernel_rfl) (by kernel_rfl)) ?_
  intro W base args ds gs before hval0 hW hcnd hsz _
  have hval : ∀ (j : Nat) t v, Tryz.f6.params[j]? = some t → args[j]? = some v → Value.okWide Tryz.prog W .any base t v := hval0
  have hW' := hW
  obtain ⟨p, q, hA0, hV, rfl, hfz, hnd⟩ := hW
  have hA : DataW.TrodAll enc Tryz.prog W 0 (fun _ => true) true Tryz.f6.params.toList args.toList ds p := hA0
  rw [Tryz.params6] at hA hval
  obtain ⟨v0, vs0, d0, ds0, p0, q0, hargs, rfl, rfl, h0, r0⟩ := trodAll_cons hA
  obtain ⟨v1, vs1, d1, ds1, p1, q1, rfl, rfl, rfl, h1, r1⟩ := trodAll_cons r0
  obtain ⟨v2, vs2, d2, ds2, p2, q2, rfl, rfl, rfl, h2, r2⟩ := trodAll_cons r1
  obtain ⟨rfl, rfl, rfl⟩ := trodAll_nil r2
  obtain rfl : args = #[v0, v1, v2] := by cases args; simp_all
  obtain ⟨rfl, rfl⟩ := trodVars_none hV
  have k0 := h0
  have lt0 : ∀ x ∈ p0, x.block < W.heap.size := by obtain ⟨m, hm⟩ := k0; exact DataW.trod_lt m _ _ _ hm
  have hw0 : ∀ n ∈ d0.weights Tryz.prog 61, n ≤ reachBytes := fun n hn => of_decide_eq_true (List.all_eq_true.1 hsz n (DataW.weights_mem_each (j := 0) (t := 61) rfl rfl n hn))
  obtain ⟨x0, rfl, y0⟩ := agg_of_trodW Tryz.underlying61 opn_case (hval 0 61 v0 rfl rfl) h0 hw0
  have k1 := h1
  have lt1 : ∀ x ∈ p1, x.block < W.heap.size := by obtain ⟨m, hm⟩ := k1; exact DataW.trod_lt m _ _ _ hm
  obtain ⟨x1, rfl, yl1, ym1⟩ := arr_of_trod (fun _ h => wf_u8' h) Tryz.underlying49 Tryz.underlying5 (by kernel_rfl) (by kernel_rfl) (hval 1 49 v1 rfl rfl) h1
  have y1 := And.intro yl1 ym1
  have k2 := h2
  have lt2 : ∀ x ∈ p2, x.block < W.heap.size := by obtain ⟨m, hm⟩ := k2; exact DataW.trod_lt m _ _ _ hm
  have hw2 : ∀ n ∈ d2.weights Tryz.prog 59, n ≤ reachBytes := fun n hn => of_decide_eq_true (List.all_eq_true.1 hsz n (DataW.weights_mem_each (j := 2) (t := 59) rfl rfl n hn))
  obtain ⟨x2, rfl, y2⟩ := sl_of_trodW Tryz.underlying59 opn_u64s (hval 2 59 v2 rfl rfl) h2 hw2
  clear hA0 hval0
  refine (walk x0 x1 x2 W y0 y1 y2).mono fun e W' ⟨he, bel⟩ => ?_
  subst he
  exact ⟨_, rfl, _, _, _, [], _, [], hW', trodAll_mk1 (shut_bool Tryz.underlying4 _), (trodAll_cons_mk (Below.trod j8 (by kernel_rfl) (of_decide_eq_true (by kernel_rfl)) k0 bel lt0) (trodAll_cons_mk (Below.trod j8 (by kernel_rfl) (of_decide_eq_true (by kernel_rfl)) k1 bel lt1) (trodAll_cons_mk (Below.trod j8 (by kernel_rfl) (of_decide_eq_true (by kernel_rfl)) k2 bel lt2) trodAll_mk0))), rfl, bel.frame _, fun h => by cases h⟩

theorem over : Rows.signerBackRow.holds Tryz.pinned (OpenSpec.ofChange Rows.signerBackSpec) :=
  OpenClaim.holds_of_wide 6 Tryz.f6 rfl rfl rfl rfl rfl rfl rfl ⟨rfl, rfl, rfl, rfl, rfl⟩ rfl rfl rfl rfl rfl (by kernel_rfl) Tryz.func6 closed
    (of_decide_eq_true (by kernel_rfl)) (by unfold Func.isWrapper; first | (rw [if_pos (by decide +kernel)]; kernel_rfl) | (rw [if_neg (by decide +kernel)]; exact ⟨rfl, rfl⟩))
    (fun os started H enc _ => lifted os started H enc)

/-- The statement. -/
theorem proved : Rows.SignerBackSaid := over
#print axioms proved
end Go.Proofs.YtchaahnhpeoomaaGreat.signerBack
