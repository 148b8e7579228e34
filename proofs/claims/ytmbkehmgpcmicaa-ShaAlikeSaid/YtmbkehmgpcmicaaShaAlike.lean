/-
  The statement ShaAlike, proved: for every input the law returns true, and each argument reads behind the call as it read before. No condition beyond the given row's own. (The frame follows the one that the kit's program writes.)
-/
import Derived.Test.YtmbkehmgpcmicaaRows
import Derived.Test.YtmbkehmgpcmicaaRow
import Derived.Test.YtmbkehmgpcmicaaShaAl
import Derived.WalkKit
import Derived.ProofKit
import Derived.OpenShut
import Derived.ShutString
import Derived.ChangeOld
import Derived.Below
import Derived.Lib.SmallJoins
namespace Go.Proofs.Ytmbkehmgpcmicaa.shaAlike
open Go.ChangeShapes Go.WideShapes Go.ChangeAt Go.RowKit Go.Joins
open Go.ChangeMaps (open_string shut_string)
set_option linter.unusedVariables false

theorem own : ownKnob Try.prog.godebug = none := by kernel_rfl
theorem laidOut : laidOutB Try.prog = true := by kernel_rfl

/-! ### The walk -/
theorem walk (ra0 rb0 rc0 : Option Addr × Nat × List Nat) (n0 : Int) (w : World) (wa0 : RowOk .u8 256 w ra0) (wb0 : RowOk .u8 256 w rb0) (wc0 : RowOk .u8 256 w rc0) (wn0 : (Lit.int .i64 n0).wf = true) :
    Calls Try.prog 11 #[.agg #[rowVal ra0, rowVal rb0, rowVal rc0, .int .i64 n0]] w fun e w' => e = .returned (.bool true) ∧ Below w.heap.size w w' := by
  have hb := bounds_i64 wn0
  exact shaAlike_any ra0 rb0 rc0 n0 w wa0 wb0 wc0 (by omega)

/-! ### The row's step -/
set_option maxRecDepth 100000 in
theorem lifted (os : Os) (started : os.Started) (H : Type) (enc : TypeId × Value → H) :
    ReturnsInHanded {} Try.checked os 11 .any (Rows.shaAlikeSpec.pre6 enc Try.prog Try.f11 Rows.shaAlikeRow.domain false) (Rows.shaAlikeSpec.post enc Try.prog Try.f11 false true false false) := by
  refine returnsInHanded_of_change (C := Try.checked) own started (by kernel_rfl) Try.func11
    (ChangeSpec.witness6 (enc := enc) (C := Try.checked) false ⟨#[], #[.agg #[.slice none 0 0, .slice none 0 0, .slice none 0 0, .int .i64 0]], []⟩ 8 (by kernel_rfl) (by kernel_rfl) (by kernel_rfl) (by kernel_rfl)) ?_
  intro W base args ds gs before hval0 hW hcnd _
  have hval : ∀ (j : Nat) t v, Try.f11.params[j]? = some t → args[j]? = some v → Value.okWide Try.prog W .any base t v := hval0
  have hW' := hW
  obtain ⟨p, q, hA0, hV, rfl, hfz, hnd⟩ := hW
  have hA : DataW.TrodAll enc Try.prog W 0 (fun _ => true) true Try.f11.params.toList args.toList ds p := hA0
  rw [Try.params11] at hA hval
  obtain ⟨v0, vs0, d0, ds0, p0, q0, hargs, rfl, rfl, h0, r0⟩ := trodAll_cons hA
  obtain ⟨rfl, rfl, rfl⟩ := trodAll_nil r0
  obtain rfl : args = #[v0] := by cases args; simp_all
  obtain ⟨rfl, rfl⟩ := trodVars_none hV
  have k0 := h0
  have lt0 : ∀ x ∈ p0, x.block < W.heap.size := by obtain ⟨m, hm⟩ := k0; exact DataW.trod_lt m _ _ _ hm
  obtain ⟨ra0, rb0, rc0, n0, hv0, wa0, wb0, wc0, wn0⟩ : ∃ (ra rb rc : Option Addr × Nat × List Nat) (n : Int), v0 = .agg #[rowVal ra, rowVal rb, rowVal rc, .int .i64 n] ∧ RowOk .u8 256 W ra ∧ RowOk .u8 256 W rb ∧ RowOk .u8 256 W rc ∧ (Lit.int .i64 n).wf = true := by
    obtain ⟨x0, x1, x2, x3, y0, y1, y2, y3, n, rfl, _, _, t0, t1, t2, t3⟩ := open_agg4 Try.underlying49 (by kernel_rfl) (by kernel_rfl) (hval 0 49 v0 rfl rfl) h0
    obtain ⟨r0, rfl, g0⟩ := row_of_trod (fun _ h => wf_u8' h) Try.underlying22 Try.underlying5 (by kernel_rfl) t0
    obtain ⟨r1, rfl, g1⟩ := row_of_trod (fun _ h => wf_u8' h) Try.underlying22 Try.underlying5 (by kernel_rfl) t1
    obtain ⟨r2, rfl, g2⟩ := row_of_trod (fun _ h => wf_u8' h) Try.underlying22 Try.underlying5 (by kernel_rfl) t2
    obtain ⟨n, hn, _, hw⟩ := DataW.trod_int Try.underlying3 t3
    simp at hn
    subst hn
    exact ⟨r0, r1, r2, n, rfl, g0, g1, g2, hw⟩
  subst hv0
  clear hA0 hval0
  refine (walk ra0 rb0 rc0 n0 W wa0 wb0 wc0 wn0).mono fun e W' ⟨he, bel⟩ => ?_
  subst he
  exact ⟨_, rfl, _, _, _, [], _, [], hW', trodAll_mk1 (shut_bool Try.underlying4 _), (trodAll_cons_mk (Below.trod laidOut (by kernel_rfl) (of_decide_eq_true (by kernel_rfl)) k0 bel lt0) trodAll_mk0), rfl, bel.frame _, fun h => by cases h⟩

theorem over : Rows.shaAlikeRow.holds Try.pinned (OpenSpec.ofChange Rows.shaAlikeSpec) :=
  OpenClaim.holds_of_wide 11 Try.f11 rfl rfl rfl rfl rfl rfl rfl ⟨rfl, rfl, rfl, rfl, rfl⟩ rfl rfl rfl rfl rfl (by kernel_rfl) Try.func11 (by kernel_rfl)
    (of_decide_eq_true (by kernel_rfl)) (by unfold Func.isWrapper; first | (rw [if_pos (by decide +kernel)]; kernel_rfl) | (rw [if_neg (by decide +kernel)]; exact ⟨rfl, rfl⟩))
    (fun os started H enc _ => lifted os started H enc)

/-- The statement. -/
theorem proved : Rows.ShaAlikeSaid := over
#print axioms proved
end Go.Proofs.Ytmbkehmgpcmicaa.shaAlike
