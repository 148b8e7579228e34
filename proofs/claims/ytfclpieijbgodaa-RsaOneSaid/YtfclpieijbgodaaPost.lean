/-
  What a call may answer, in words that all the texts of this claim share; a variable of one cell. Holds without any condition.
-/
import Derived.Test.YtfclpieijbgodaaLaws
import Derived.Test.YtfclpieijbgodaaProg
namespace Go.Proofs.Ytfclpieijbgodaa
set_option linter.unusedVariables false
set_option linter.unusedSimpArgs false
open Go.RowKit

/-- It returns this value, and has drawn at most. -/
def Quiet (v : Value) (w : World) (e : Ending) (w' : World) : Prop := e = .returned v ∧ ∃ n, w' = w.drewN n
theorem Quiet.mk {v v' : Value} {w : World} (h : v = v') (n : Nat) : Quiet v' w (.returned v) (w.drewN n) := ⟨by rw [h], n, rfl⟩
theorem Quiet.mk2 {v v' : Value} {w : World} (h : v = v') (n m : Nat) : Quiet v' w (.returned v) ((w.drewN n).drewN m) := ⟨by rw [h], n + m, World.drewN_drewN _ _ _⟩
theorem Quiet.mk3 {v v' : Value} {w : World} (h : v = v') (n m k : Nat) : Quiet v' w (.returned v) (((w.drewN n).drewN m).drewN k) := ⟨by rw [h], n + m + k, by rw [World.drewN_drewN, World.drewN_drewN, Nat.add_assoc]⟩
theorem Quiet.mk0 {v v' : Value} {w : World} (h : v = v') : Quiet v' w (.returned v) w := ⟨by rw [h], 0, rfl⟩

theorem info_u32 : (Try.prog.info? 33).map (fun i => (i.zero, i.size, i.bytes)) = some (some (.int .u32 0), 1, 4) := by kernel_rfl
theorem info_u8 : (Try.prog.info? 5).map (fun i => (i.zero, i.size, i.bytes)) = some (some (.int .u8 0), 1, 1) := by kernel_rfl

/-- It returns a new slice of these numbers; what was there is as it was. -/
def Gives (k : IntKind) (xs : List Nat) (w : World) (e : Ending) (w' : World) : Prop :=
  ∃ A c, e = .returned (.slice A xs.length c) ∧ xs.length ≤ c ∧ c ≤ maxLen ∧ Own k w' w.heap.size A xs ∧ Below w.heap.size w w'
/-- A variable of one cell, that may be written. -/
def Box (w : World) (b : Nat) (v : Value) : Prop := w.cell? ⟨b, 0, none⟩ = some v ∧ w.frozen? ⟨b, 0, none⟩ = false ∧ b < w.heap.size
theorem Box.keep {w w' : World} {b : Nat} {v : Value} (h : Box w b v) (hs : w.heap.size ≤ w'.heap.size) (hk : w'.heap[b]? = w.heap[b]?) : Box w' b v :=
  ⟨(World.cell?_of_block (w := w) (a := ⟨b, 0, none⟩) hk).trans h.1, (World.frozen?_of_block (w := w) (a := ⟨b, 0, none⟩) hk).trans h.2.1, Nat.lt_of_lt_of_le h.2.2 hs⟩
theorem Box.below {w w' : World} {b : Nat} {v : Value} (h : Box w b v) (hb : Below w.heap.size w w') : Box w' b v := h.keep hb.size (hb.block b h.2.2)
theorem Box.drewN {w : World} {b : Nat} {v : Value} (h : Box w b v) (n : Nat) : Box (w.drewN n) b v := h.keep (Nat.le_refl _) rfl
theorem Box.far {w : World} {b : Nat} {v : Value} (h : Box w b v) {p : Addr} (hp : b ≠ p.block) (u : Value) : Box (w.setCell p u) b v := h.keep (by simp) (Below.heap_setCell w p u b hp)
theorem Box.set {w : World} {b : Nat} {v : Value} (h : Box w b v) (u : Value) : Box (w.setCell ⟨b, 0, none⟩ u) b u :=
  ⟨World.cell?_setCell_same w _ _ h.1, by rw [World.frozen?_setCell]; exact h.2.1, by simpa using h.2.2⟩
theorem Box.alloc {w : World} {b : Nat} {v : Value} (h : Box w b v) (o : Obj) : Box (w.alloc o) b v := h.keep (by simp) (Below.heap_alloc w o b h.2.2)
theorem Box.new (w : World) (v : Value) (t : TypeId) : Box (w.alloc (.cells #[v] t)) w.heap.size v := ⟨by simp, by simp, by simp⟩

theorem blk_lit {k : IntKind} {t : TypeId} (w : World) (xs : List Nat) (cur : Array Value) (h : cur = (ints k xs).toArray) : Blk k (w.alloc (.cells cur t)) w.heap.size xs := by
  subst h
  exact Blk.of_heap (heap_alloc_new w _) fun i x hx => by simpa using ints_get hx

/-- It returns true, and nothing that was there has turned. -/
def Yes (w : World) (e : Ending) (w' : World) : Prop := e = .returned (.bool true) ∧ Below w.heap.size w w'

theorem lim_small {b : Nat} {xs : List Nat} (h : xs.all (· < b) = true) : Lim b xs := fun x hx => by
  have := List.all_eq_true.1 h x hx
  simpa using this

theorem yes_mono {w w1 w' : World} {e : Ending} (hb : Below w.heap.size w w1) (h : Yes w1 e w') : Yes w e w' := ⟨h.1, hb.trans (h.2.mono hb.size)⟩

theorem yes_of {w w1 : World} {e : Ending} {w' : World} (hb : Below w.heap.size w w1) (h : Yes w1 e w') : Yes w e w' := ⟨h.1, hb.trans (h.2.mono hb.size)⟩

end Go.Proofs.Ytfclpieijbgodaa
