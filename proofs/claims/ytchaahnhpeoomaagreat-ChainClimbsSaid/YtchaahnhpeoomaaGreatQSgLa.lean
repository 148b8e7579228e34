/-
  Large: more than a statement goes through. Holds for all signed data that come in.
-/
import Derived.Test.YtchaahnhpeoomaaGreatQSgC
import Derived.Test.YtchaahnhpeoomaaGreatQOpnS
namespace Go.Proofs.YtchaahnhpeoomaaGreat
set_option linter.unusedVariables false
set_option linter.unusedSimpArgs false
set_option maxRecDepth 20000
open Go.RowKit
theorem RowsIn.below {α : Type} {n : Nat} {f : α → List Value} {Q Q' : α → Prop} {w w' : World} {s : Sls3 α} (h : RowsIn n f Q w s) (hb : Below w.heap.size w w') (hq : ∀ x, Q x → Q' x) : RowsIn n f Q' w' s :=
 ⟨h.cap, h.max, h.row.imp id fun ⟨g, o, e, r⟩ => ⟨g, o, e, r.below hb⟩, fun x hx => hq x (h.each x hx)⟩
theorem rows_at {α : Type} {n : Nat} {f : α → List Value} {Q : α → Prop} {w : World} {s : Sls3 α} (h : RowsIn n f Q w s) (hf : ∀ x, (f x).length = n) {i : Nat} {x : α} (hi : s.l[i]? = some x) : ∃ g o, s.A = some ⟨g, o, none⟩ ∧ Row w g (o + i * n) (f x) := by
 rcases h.row with h0 | ⟨g, o, e, r⟩
 ·rw [h0] at hi
  simp at hi
 ·exact ⟨g, o, e, Row.part (n := n) r (fun y hy => by obtain ⟨z, _, rfl⟩ := List.mem_map.1 hy; exact hf z) (by simp [hi])⟩
section
variable {P : Program} {ops : Array Oper} {Q : Exit → Act → World → Prop} {Base : Act → Prop} {dst : Nat → Nat} {tags : Nat → Tg} {i : Nat} {o : Oper} {G : World → Prop}
theorem st_skip {j : Nat} {b c : Bool} {e : Edge} (hg : o.guard = some (j, b)) (he : e ∈ o.after) (heb : Region.binds .any e = true) (hej : e.on = j) (hT : tags j = tv (.bool c)) (hbc : c ≠ b) (hd : (ops[j]?).bind (·.dst) = some (dst j)) (ht : tags i = fun _ _ => True) :
  StepOk P ops Q Base dst (fun i v w => Sp (tags i) v w) G i o := by
 intro a w hb hdp hG K hK
 have h2 := hdp e he heb
 rw [hej, hT] at h2
 have h3 : a.tmps.getD (dst j) undef = .bool c := h2.now
 have hl : a.tmps[dst j]? = some (.bool c) := by
  rw [Array.getD_eq_getD_getElem?] at h3
  cases h4 : a.tmps[dst j]? with
  | none =>
   rw [h4] at h3
   cases h3
  | some v =>
   rw [h4] at h3
   exact congrArg some h3
 have hy : yielded ops a.tmps j = some c := by
  unfold yielded
  rw [hd]
  simp [hl]
 have hw : Region.wanted o (yielded ops a.tmps) = false := by simp [Region.wanted, hg, hy, hbc]
 rw [if_neg (by rw [hw]; simp)]
 exact hK undef w (by show Sp (tags i) undef w; rw [ht]; exact fun _ _ => trivial) (Sub.refl w) hG
end
end Go.Proofs.YtchaahnhpeoomaaGreat
