/-
  Words for memory that all the texts of this claim share: a block that is known whole as a list of numbers, a slice that reads as a list of numbers, and how both are kept from world to world. Holds without any condition.
-/
import Derived.Below
import Derived.Laws.OwnMore
import Derived.Deep.Draws
import Derived.Laws.Rows
import Derived.Lib.Hide
namespace Go.Proofs.Ytfclpieijbgodaa
set_option linter.unusedVariables false
set_option linter.unusedSimpArgs false
open Go.RowKit

theorem ret_int {k : IntKind} {a b : Int} (h : a = b) : Ending.returned (.int k a) = .returned (.int k b) := by rw [h]
theorem ret_bool {a b : Bool} (h : a = b) : Ending.returned (.bool a) = .returned (.bool b) := by rw [h]

/-- Numbers as cells of a kind. -/
def ints (k : IntKind) (xs : List Nat) : List Value := xs.map fun (x : Nat) => Value.int k (x : Int)
theorem ints_length (k : IntKind) (xs : List Nat) : (ints k xs).length = xs.length := by simp [ints]
theorem ints_get {k : IntKind} {xs : List Nat} {i x : Nat} (h : xs[i]? = some x) : (ints k xs)[i]? = some (.int k (x : Int)) := by simp [ints, h]
theorem ints_set (k : IntKind) (xs : List Nat) (i x : Nat) : (ints k xs).set i (.int k (x : Int)) = ints k (xs.set i x) := by simp [ints, List.map_set]
theorem ints_append (k : IntKind) (xs ys : List Nat) : ints k xs ++ ints k ys = ints k (xs ++ ys) := by simp [ints]
theorem ints_take (k : IntKind) (xs : List Nat) (n : Nat) : (ints k xs).take n = ints k (xs.take n) := by simp [ints, List.map_take]
theorem ints_drop (k : IntKind) (xs : List Nat) (n : Nat) : (ints k xs).drop n = ints k (xs.drop n) := by simp [ints, List.map_drop]
theorem ints_one (k : IntKind) (xs : List Nat) : ∀ u ∈ ints k xs, u.oneCell' = true := by
  intro u hu
  simp only [ints, List.mem_map] at hu
  obtain ⟨x, _, rfl⟩ := hu
  rfl

/-- Block g begins with these numbers, and they may be written over. -/
def Blk (k : IntKind) (w : World) (g : Nat) (cs : List Nat) : Prop :=
  g < w.heap.size ∧ ∀ (i x : Nat), cs[i]? = some x → w.cell? ⟨g, i, none⟩ = some (.int k (x : Int)) ∧ w.frozen? ⟨g, i, none⟩ = false

section
variable {k : IntKind} {w w' : World} {g : Nat} {cs : List Nat}
theorem Blk.lt (h : Blk k w g cs) : g < w.heap.size := h.1
theorem Blk.cell {i x : Nat} (h : Blk k w g cs) (hx : cs[i]? = some x) : w.cell? ⟨g, i, none⟩ = some (.int k (x : Int)) := (h.2 i x hx).1
theorem Blk.frozen {i x : Nat} (h : Blk k w g cs) (hx : cs[i]? = some x) : w.frozen? ⟨g, i, none⟩ = false := (h.2 i x hx).2
theorem Blk.keep (h : Blk k w g cs) (hs : w.heap.size ≤ w'.heap.size) (hk : w'.heap[g]? = w.heap[g]?) : Blk k w' g cs :=
  ⟨Nat.lt_of_lt_of_le h.1 hs, fun i x hx => ⟨(World.cell?_of_block (w := w) (a := ⟨g, i, none⟩) hk).trans (h.cell hx), (World.frozen?_of_block (w := w) (a := ⟨g, i, none⟩) hk).trans (h.frozen hx)⟩⟩
theorem Blk.drew (h : Blk k w g cs) : Blk k w.drew g cs := h.keep (Nat.le_refl _) rfl
theorem Blk.drewN (h : Blk k w g cs) (n : Nat) : Blk k (w.drewN n) g cs := h.keep (Nat.le_refl _) rfl
theorem Blk.alloc (h : Blk k w g cs) (o : Obj) : Blk k (w.alloc o) g cs := h.keep (by simp) (Below.heap_alloc w o g h.lt)
theorem Blk.set {i x : Nat} (h : Blk k w g cs) (hx : cs[i]? = some x) (y : Nat) : Blk k (w.setCell ⟨g, i, none⟩ (.int k (y : Int))) g (cs.set i y) := by
  refine ⟨by simpa using h.lt, fun j z hz => ?_⟩
  have hi : i < cs.length := (List.getElem?_eq_some_iff.1 hx).1
  rw [World.frozen?_setCell]
  by_cases e : i = j
  · subst e
    rw [List.getElem?_set_self hi] at hz
    injection hz with hz
    subst hz
    exact ⟨World.cell?_setCell_same w _ _ (h.cell hx), h.frozen hx⟩
  · rw [List.getElem?_set_ne e] at hz
    exact ⟨(World.cell?_setCell_other w _ _ _ (by simpa using e)).trans (h.cell hz), h.frozen hz⟩
theorem Blk.far (h : Blk k w g cs) {p : Addr} (hp : g ≠ p.block) (u : Value) : Blk k (w.setCell p u) g cs := h.keep (by simp) (Below.heap_setCell w p u g hp)
theorem Blk.below (h : Blk k w g cs) (hb : Below w.heap.size w w') : Blk k w' g cs := h.keep hb.size (hb.block g h.lt)
theorem Blk.grown {row : Option Nat} (h : Blk k w g cs) (hb : w.grownBy w' row) (hg : row ≠ some g) : Blk k w' g cs := h.keep hb.size (hb.block g h.lt (fun e => hg e.symm))
theorem Blk.take (h : Blk k w g cs) (n : Nat) : Blk k w g (cs.take n) := ⟨h.1, fun i x hx => h.2 i x (by
  rw [List.getElem?_take] at hx
  split at hx
  · exact hx
  · cases hx)⟩
/-- A block that is known whole. -/
theorem Blk.of_heap {t : TypeId} {cur : Array Value} (h : w.heap[g]? = some (.cells cur t (0, 0))) (hc : ∀ (i x : Nat), cs[i]? = some x → cur[i]? = some (.int k (x : Int))) : Blk k w g cs := by
  refine ⟨?_, fun i x hx => ⟨by rw [cell_of_row w g i cur t (0, 0) h]; exact hc i x hx, by simp [World.frozen?, h]⟩⟩
  rcases Nat.lt_or_ge g w.heap.size with hlt | hge
  · exact hlt
  · rw [Array.getElem?_eq_none hge] at h; cases h
end

/-- The slice at an address reads as these numbers; its block is there. -/
def Rd (k : IntKind) (w : World) (A : Option Addr) (xs : List Nat) : Prop :=
  xs = [] ∨ ∃ b off, A = some ⟨b, off, none⟩ ∧ b < w.heap.size ∧ ∀ (i x : Nat), xs[i]? = some x → w.cell? ⟨b, off + i, none⟩ = some (.int k (x : Int))

/-- The slice at an address does not lie in block g. -/
def Off (A : Option Addr) (xs : List Nat) (g : Nat) : Prop := xs = [] ∨ ∀ ad, A = some ad → ad.block ≠ g

section
variable {k : IntKind} {w w' : World} {g : Nat} {xs cs : List Nat} {A : Option Addr}
theorem Rd.nil (k : IntKind) (w : World) (A : Option Addr) : Rd k w A [] := Or.inl rfl
theorem Rd.pos {i x : Nat} (h : Rd k w A xs) (hx : xs[i]? = some x) : ∃ b off, A = some ⟨b, off, none⟩ ∧ b < w.heap.size ∧ ∀ (i x : Nat), xs[i]? = some x → w.cell? ⟨b, off + i, none⟩ = some (.int k (x : Int)) := by
  rcases h with rfl | h
  · simp at hx
  · exact h
theorem Rd.keep (h : Rd k w A xs) (hs : w.heap.size ≤ w'.heap.size) (hk : xs = [] ∨ ∀ ad, A = some ad → ad.block < w.heap.size → w'.heap[ad.block]? = w.heap[ad.block]?) : Rd k w' A xs := by
  rcases h with rfl | ⟨b, off, rfl, hb, hc⟩
  · exact Or.inl rfl
  · rcases hk with rfl | hk
    · exact Or.inl rfl
    · exact Or.inr ⟨b, off, rfl, by omega, fun i x hx => (World.cell?_of_block (w := w) (a := ⟨b, off + i, none⟩) (hk ⟨b, off, none⟩ rfl hb)).trans (hc i x hx)⟩
theorem Rd.below (h : Rd k w A xs) (hb : Below w.heap.size w w') : Rd k w' A xs := h.keep hb.size (Or.inr fun _ _ hl => hb.block _ hl)
theorem Rd.drew (h : Rd k w A xs) : Rd k w.drew A xs := h
theorem Rd.drewN (h : Rd k w A xs) (n : Nat) : Rd k (w.drewN n) A xs := h
theorem Rd.alloc (h : Rd k w A xs) (o : Obj) : Rd k (w.alloc o) A xs := h.below ((Below.refl _ _).alloc (Nat.le_refl _) o)
theorem Rd.grown (h : Rd k w A xs) {row : Option Nat} (hg : w.grownBy w' row) (ho : ∀ g, row = some g → Off A xs g) : Rd k w' A xs := by
  refine h.keep hg.size ?_
  cases row with
  | none => exact Or.inr fun ad _ hl => hg.block _ hl (by simp)
  | some g =>
    rcases ho g rfl with h0 | h0
    · exact Or.inl h0
    · exact Or.inr fun ad e hl => hg.block _ hl (fun e' => h0 ad e (by injection e'))
theorem Rd.setCell (h : Rd k w A xs) {p : Addr} (hp : Off A xs p.block) (u : Value) : Rd k (w.setCell p u) A xs := by
  refine h.keep (by simp) ?_
  rcases hp with h0 | h0
  · exact Or.inl h0
  · exact Or.inr fun ad e _ => Below.heap_setCell _ _ _ _ (h0 ad e)
theorem Rd.of_blk (h : Blk k w g cs) (off : Nat) (n : Nat) : Rd k w (some ⟨g, off, none⟩) ((cs.drop off).take n) := by
  refine Or.inr ⟨g, off, rfl, h.lt, fun i x hx => h.cell ?_⟩
  rw [List.getElem?_take] at hx
  split at hx
  · rwa [List.getElem?_drop] at hx
  · cases hx
theorem Rd.of_all (h : Blk k w g cs) : Rd k w (some ⟨g, 0, none⟩) cs := by
  refine Or.inr ⟨g, 0, rfl, h.lt, fun i x hx => h.cell ?_⟩
  simpa using hx
theorem Rd.take (h : Rd k w A xs) (n : Nat) : Rd k w A (xs.take n) := by
  rcases h with rfl | ⟨b, off, rfl, hb, hc⟩
  · exact Or.inl (by simp)
  · refine Or.inr ⟨b, off, rfl, hb, fun i x hx => hc i x ?_⟩
    rw [List.getElem?_take] at hx
    split at hx
    · exact hx
    · cases hx
theorem Off.take (h : Off A xs g) (n : Nat) : Off A (xs.take n) g := by
  rcases h with rfl | h
  · exact Or.inl (by simp)
  · exact Or.inr h
theorem Off.of_ne {b off : Nat} (h : b ≠ g) : Off (some ⟨b, off, none⟩) xs g := Or.inr fun ad e => by injection e with e; subst e; exact h
theorem Off.new (h : Rd k w A xs) (hg : w.heap.size ≤ g) : Off A xs g := by
  rcases h with rfl | ⟨b, off, rfl, hb, _⟩
  · exact Or.inl rfl
  · exact Off.of_ne (by omega)
theorem Off.lt (h : Rd k w A xs) (hg : w.heap.size ≤ g) : Off A xs g := Off.new h hg
end

/-- The slice at an address reads as these numbers; they lie in a block from B on, and may be written over. -/
def Own (k : IntKind) (w : World) (B : Nat) (A : Option Addr) (xs : List Nat) : Prop :=
  xs = [] ∨ ∃ g off ds, A = some ⟨g, off, none⟩ ∧ B ≤ g ∧ Blk k w g ds ∧ ∀ (i x : Nat), xs[i]? = some x → ds[off + i]? = some x

section
variable {k : IntKind} {w w' : World} {B g : Nat} {xs cs : List Nat} {A : Option Addr}
theorem Own.nil (k : IntKind) (w : World) (B : Nat) (A : Option Addr) : Own k w B A [] := Or.inl rfl
theorem Own.rd (h : Own k w B A xs) : Rd k w A xs := by
  rcases h with rfl | ⟨g, off, ds, rfl, _, hb, hx⟩
  · exact Rd.nil _ _ _
  · exact Or.inr ⟨g, off, rfl, hb.lt, fun i x h => hb.cell (hx i x h)⟩
theorem Own.below (h : Own k w B A xs) (hb : Below w.heap.size w w') : Own k w' B A xs := by
  rcases h with rfl | ⟨g, off, ds, rfl, hB, hk, hx⟩
  · exact Or.inl rfl
  · exact Or.inr ⟨g, off, ds, rfl, hB, hk.below hb, hx⟩
theorem Own.drewN (h : Own k w B A xs) (n : Nat) : Own k (w.drewN n) B A xs := by
  rcases h with rfl | ⟨g, off, ds, rfl, hB, hk, hx⟩
  · exact Or.inl rfl
  · exact Or.inr ⟨g, off, ds, rfl, hB, hk.drewN n, hx⟩
theorem Own.mono {B' : Nat} (h : Own k w B A xs) (hB : B' ≤ B) : Own k w B' A xs := by
  rcases h with rfl | ⟨g, off, ds, rfl, hB', hk, hx⟩
  · exact Or.inl rfl
  · exact Or.inr ⟨g, off, ds, rfl, Nat.le_trans hB hB', hk, hx⟩
theorem Own.of_blk (h : Blk k w g cs) (hB : B ≤ g) : Own k w B (some ⟨g, 0, none⟩) cs := Or.inr ⟨g, 0, cs, rfl, hB, h, fun i x hx => by simpa using hx⟩
theorem Own.of_blk_at (h : Blk k w g cs) (hB : B ≤ g) (off n : Nat) : Own k w B (some ⟨g, off, none⟩) ((cs.drop off).take n) := Or.inr ⟨g, off, cs, rfl, hB, h, fun i x hx => by
  rw [List.getElem?_take] at hx
  split at hx
  · rwa [List.getElem?_drop] at hx
  · cases hx⟩
theorem Own.take (h : Own k w B A xs) (n : Nat) : Own k w B A (xs.take n) := by
  rcases h with rfl | ⟨g, off, ds, rfl, hB, hk, hx⟩
  · exact Or.inl (by simp)
  · refine Or.inr ⟨g, off, ds, rfl, hB, hk, fun i x h => hx i x ?_⟩
    rw [List.getElem?_take] at h
    split at h
    · exact h
    · cases h
theorem Own.of_row {e : TypeId} {v : Value} {n : Nat} (h : w.ownsRow B e 1 v n (ints k xs)) : ∃ A c, v = .slice A n c ∧ n = xs.length ∧ n ≤ c ∧ c ≤ maxLen ∧ Own k w B A xs := by
  have hn : n = xs.length := by have := h.1; rw [ints_length] at this; omega
  rcases h.2 with ⟨rfl, h0⟩ | ⟨g, cap, cur, rfl, hB, hg, hc, hm, _, ht⟩
  · subst h0
    have : xs = [] := List.eq_nil_of_length_eq_zero hn.symm
    exact ⟨none, 0, rfl, hn, Nat.le_refl _, Nat.zero_le _, Or.inl this⟩
  · refine ⟨_, cap, rfl, hn, hc, hm, Own.of_blk (Blk.of_heap hg fun i x hx => ?_) hB⟩
    have h1 := ints_get (k := k) hx
    rw [← ht, List.getElem?_take] at h1
    split at h1
    · simpa using h1
    · cases h1
end

/-- All numbers of a list are below a bound. -/
def Lim (b : Nat) (xs : List Nat) : Prop := ∀ x ∈ xs, x < b
theorem Lim.get {b : Nat} {xs : List Nat} {i x : Nat} (h : Lim b xs) (hx : xs[i]? = some x) : x < b := h x (List.mem_of_getElem? hx)
theorem Lim.set {b : Nat} {xs : List Nat} {i x : Nat} (h : Lim b xs) (hx : x < b) : Lim b (xs.set i x) := by
  intro y hy
  rcases List.mem_or_eq_of_mem_set hy with hy | rfl
  · exact h y hy
  · exact hx
theorem Lim.take {b : Nat} {xs : List Nat} (h : Lim b xs) (n : Nat) : Lim b (xs.take n) := fun x hx => h x (List.mem_of_mem_take hx)
theorem Lim.drop {b : Nat} {xs : List Nat} (h : Lim b xs) (n : Nat) : Lim b (xs.drop n) := fun x hx => h x (List.mem_of_mem_drop hx)
theorem Lim.append {b : Nat} {xs ys : List Nat} (h : Lim b xs) (h' : Lim b ys) : Lim b (xs ++ ys) := fun x hx => by
  rcases List.mem_append.1 hx with hx | hx
  · exact h x hx
  · exact h' x hx
theorem Lim.nil (b : Nat) : Lim b [] := fun _ h => by cases h
theorem Lim.replicate {b n x : Nat} (h : x < b) : Lim b (List.replicate n x) := fun y hy => by rw [List.eq_of_mem_replicate hy]; exact h
theorem get_of_lt {xs : List Nat} {i : Nat} (h : i < xs.length) : ∃ x, xs[i]? = some x := ⟨xs[i], List.getElem?_eq_getElem h⟩

/-- Only block g, and what is new, has turned. -/
theorem only_set {a w : World} {g : Nat} (h : a.grownBy w (some g)) {p : Addr} (hp : p.block = g ∨ a.heap.size ≤ p.block) (u : Value) : a.grownBy (w.setCell p u) (some g) :=
  ⟨h.os, h.tape, h.output, by simpa [World.setCell] using h.size, fun i hi hne => (Below.heap_setCell w p u i (by
    rintro rfl
    rcases hp with hp | hp
    · exact hne (by rw [hp])
    · omega)).trans (h.block i hi hne)⟩
theorem only_drew {a w : World} {row : Option Nat} (h : a.grownBy w row) : a.grownBy w.drew row := ⟨h.os, h.tape, h.output, h.size, h.block⟩
theorem only_drewN {a w : World} {row : Option Nat} (h : a.grownBy w row) (n : Nat) : a.grownBy (w.drewN n) row := ⟨h.os, h.tape, h.output, h.size, h.block⟩
theorem only_alloc {a w : World} {row : Option Nat} (h : a.grownBy w row) (o : Obj) : a.grownBy (w.alloc o) row :=
  ⟨h.os, h.tape, h.output, Nat.le_trans h.size (by simp), fun i hi hne => (Below.heap_alloc w o i (Nat.lt_of_lt_of_le hi h.size)).trans (h.block i hi hne)⟩
theorem only_refl (w : World) (row : Option Nat) : w.grownBy w row := ⟨rfl, rfl, rfl, Nat.le_refl _, fun _ _ _ => rfl⟩
theorem only_trans {a b c : World} {row : Option Nat} (h : a.grownBy b row) (k : b.grownBy c row) : a.grownBy c row :=
  ⟨k.os.trans h.os, k.tape.trans h.tape, k.output.trans h.output, Nat.le_trans h.size k.size, fun i hi hn => (k.block i (Nat.lt_of_lt_of_le hi h.size) hn).trans (h.block i hi hn)⟩
theorem only_of_below {a w : World} (h : Below a.heap.size a w) (row : Option Nat) : a.grownBy w row := ⟨h.os, h.tape, h.output, h.size, fun i hi _ => h.block i hi⟩
/-- A block from B on has turned, and what is new: below B nothing has. -/
theorem below_only {B : Nat} {a b c : World} {g : Nat} (h : Below B a b) (k : b.grownBy c (some g)) (hB : B ≤ b.heap.size) (hg : B ≤ g) : Below B a c :=
  h.grown k hB (fun j hj => by injection hj with hj; omega)
theorem below_drewN {B : Nat} {a w : World} (h : Below B a w) (n : Nat) : Below B a (w.drewN n) := ⟨h.os, h.tape, h.output, h.size, h.block⟩

end Go.Proofs.Ytfclpieijbgodaa
