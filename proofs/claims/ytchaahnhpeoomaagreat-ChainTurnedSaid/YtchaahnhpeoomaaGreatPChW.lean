/-
 A case of the chain in memory: its leaf, its pool, whom it trusts.
-/
import Derived.Test.YtchaahnhpeoomaaGreatPChV
namespace Go.Proofs.YtchaahnhpeoomaaGreat
set_option linter.unusedVariables false
set_option linter.unusedSimpArgs false
set_option maxRecDepth 20000
open Go.RowKit
structure CaseW (w0 : World) (g0 : Nat) (t : CIn) : Prop where
 row : Row w0 g0 0 (CCasec t)
 q : QCasec w0 t
section
variable {w0 w1 : World} {g0 : Nat} {t : CIn}
theorem QCasec.below (h : QCasec w0 t) (hb : Below w0.heap.size w0 w1) : QCasec w1 t :=
 ⟨h.1.below hb, h.2.1.below hb (Q' := fun c => CrtIn w1 c) fun _ q => q.below hb, h.2.2.below hb (Q' := fun s => s.ok w1) fun _ q => q.below hb⟩
theorem CaseW.below (h : CaseW w0 g0 t) (hb : Below w0.heap.size w0 w1) : CaseW w1 g0 t := ⟨h.row.below hb, h.q.below hb⟩
theorem CaseW.leaf (h : CaseW w0 g0 t) : Row w0 g0 0 t.1.cells := ⟨h.row.1, fun i v hv => h.row.2 i v (by
 show (t.1.cells ++ [t.2.1.val] ++ [t.2.2.val])[i]? = some v
 have hi := (List.getElem?_eq_some_iff.1 hv).1
 rw [List.append_assoc, List.getElem?_append_left hi]
 exact hv)⟩
theorem CaseW.pool (h : CaseW w0 g0 t) : w0.cell? ⟨g0, 24, none⟩ = some (.slice t.2.1.A t.2.1.l.length t.2.1.c) := by
 have := h.row.2 24 t.2.1.val rfl
 rwa [Nat.zero_add] at this
theorem CaseW.trust (h : CaseW w0 g0 t) : w0.cell? ⟨g0, 25, none⟩ = some (.slice t.2.2.A t.2.2.l.length t.2.2.c) := by
 have := h.row.2 25 t.2.2.val rfl
 rwa [Nat.zero_add] at this
theorem CaseW.crs (h : CaseW w0 g0 t) : Crs w0 t.2.1.A t.2.1.l := h.q.2.1.row
theorem CaseW.anc (h : CaseW w0 g0 t) : Anc w0 24 #[.pointer (some ⟨g0, 25, none⟩)] (trB t.2.2.l) := anc_is h.trust h.q.2.2
theorem CaseW.ok (h : CaseW w0 g0 t) : ∀ c ∈ t.1 :: t.2.1.l, c.ok w0 := fun c hc => by
 rcases List.mem_cons.1 hc with rfl | hc
 ·exact h.q.1.ok
 ·exact (h.q.2.1.each c hc).ok
theorem CaseW.may (h : CaseW w0 g0 t) (hs : small13 t) {pl : List Crt} (hp : ∀ c ∈ pl, c ∈ t.1 :: t.2.1.l) (hl : pl.length ≤ 16) : PoolOk w0 t.1 pl := by
 have hm : ∀ c ∈ t.1 :: pl, c ∈ t.1 :: t.2.1.l := fun c hc => by
  rcases List.mem_cons.1 hc with rfl | hc
  ·simp
  ·exact hp c hc
 exact ⟨Nat.lt_of_le_of_lt (Nat.zero_le _) h.row.1, fun c hc => h.ok c (hm c hc), fun c hc => Nat.le_trans (hs.2.2 c (hm c hc)).1 (by decide), fun c hc => Nat.le_trans (hs.2.2 c (hm c hc)).2 (by decide), hl⟩
end
theorem sz_case13 (t : CIn) : (Tryz.prog.info? 36).map (·.size) = some (CCasec t).length := by show _ = some 26; kernel_rfl
end Go.Proofs.YtchaahnhpeoomaaGreat
