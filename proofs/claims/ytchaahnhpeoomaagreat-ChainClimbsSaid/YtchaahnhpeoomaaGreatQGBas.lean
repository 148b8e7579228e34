/-
  Base: Words for memory that all the texts of this claim share: a block that is known whole as a list of numbers, a slice that reads as a list of numbers, and how both are kept from world to world. Hol
-/
import Derived.Below
import Derived.Laws.OwnMore
import Derived.Deep.Draws
import Derived.Laws.Rows
import Derived.Lib.Hide
import Derived.WalkKit
import Derived.Laws.AppendOwnNone
import Derived.Laws.CopyOwn
import Derived.Deep.OwnRows
import Derived.Test.YtchaahnhpeoomaaGreatProg
import Derived.WalkSpells
import Derived.Deep.MidRow
import Derived.Deep.Upon
namespace Go.Proofs.YtchaahnhpeoomaaGreat
set_option linter.unusedVariables false
set_option linter.unusedSimpArgs false
set_option maxRecDepth 20000
open Go.RowKit
theorem ret_int {k : IntKind} {a b : Int} (h : a = b) : Ending.returned (.int k a) = .returned (.int k b) := by rw [h]
theorem ret_bool {a b : Bool} (h : a = b) : Ending.returned (.bool a) = .returned (.bool b) := by rw [h]
def ints (k : IntKind) (xs : List Nat) : List Value := xs.map fun (x : Nat) => Value.int k (x : Int)
theorem ints_length (k : IntKind) (xs : List Nat) : (ints k xs).length = xs.length := by simp [ints]
theorem ints_get {k : IntKind} {xs : List Nat} {i x : Nat} (h : xs[i]? = some x) : (ints k xs)[i]? = some (.int k (x : Int)) := by simp [ints, h]
theorem ints_set (k : IntKind) (xs : List Nat) (i x : Nat) : (ints k xs).set i (.int k (x : Int)) = ints k (xs.set i x) := by simp [ints, List.map_set]
theorem ints_append (k : IntKind) (xs ys : List Nat) : ints k xs ++ ints k ys = ints k (xs ++ ys) := by simp [ints]
theorem ints_take (k : IntKind) (xs : List Nat) (n : Nat) : (ints k xs).take n = ints k (xs.take n) := by simp [ints, List.map_take]
theorem ints_drop (k : IntKind) (xs : List Nat) (n : Nat) : (ints k xs).drop n = ints k (xs.drop n) := by simp [ints, List.map_drop]
theorem ints_one (k : IntKind) (xs : List Nat) : ∀ u ∈ ints k xs, u.oneCell' = true := by
 intro u hu
 simp only [ints, List.mem_map] at hu
 obtain ⟨x, _, rfl⟩ := hu
 rfl
def Blk (k : IntKind) (w : World) (g : Nat) (cs : List Nat) : Prop :=
 g < w.heap.size ∧ ∀ (i x : Nat), cs[i]? = some x → w.cell? ⟨g, i, none⟩ = some (.int k (x : Int)) ∧ w.frozen? ⟨g, i, none⟩ = false
section
variable {k : IntKind} {w w' : World} {g : Nat} {cs : List Nat}
theorem Blk.lt (h : Blk k w g cs) : g < w.heap.size := h.1
theorem Blk.cell {i x : Nat} (h : Blk k w g cs) (hx : cs[i]? = some x) : w.cell? ⟨g, i, none⟩ = some (.int k (x : Int)) := (h.2 i x hx).1
theorem Blk.frozen {i x : Nat} (h : Blk k w g cs) (hx : cs[i]? = some x) : w.frozen? ⟨g, i, none⟩ = false := (h.2 i x hx).2
theorem Blk.keep (h : Blk k w g cs) (hs : w.heap.size ≤ w'.heap.size) (hk : w'.heap[g]? = w.heap[g]?) : Blk k w' g cs :=
 ⟨Nat.lt_of_lt_of_le h.1 hs, fun i x hx => ⟨(World.cell?_of_block (w := w) (a := ⟨g, i, none⟩) hk).trans (h.cell hx), (World.frozen?_of_block (w := w) (a := ⟨g, i, none⟩) hk).trans (h.frozen hx)⟩⟩
theorem Blk.drew (h : Blk k w g cs) : Blk k w.drew g cs := h.keep (Nat.le_refl _) rfl
theorem Blk.drewN (h : Blk k w g cs) (n : Nat) : Blk k (w.drewN n) g cs := h.keep (Nat.le_refl _) rfl
theorem Blk.alloc (h : Blk k w g cs) (o : Obj) : Blk k (w.alloc o) g cs := h.keep (by simp) (Below.heap_alloc w o g h.lt)
theorem Blk.set {i x : Nat} (h : Blk k w g cs) (hx : cs[i]? = some x) (y : Nat) : Blk k (w.setCell ⟨g, i, none⟩ (.int k (y : Int))) g (cs.set i y) := by
 refine ⟨by simpa using h.lt, fun j z hz => ?_⟩
 have hi : i < cs.length := (List.getElem?_eq_some_iff.1 hx).1
 rw [World.frozen?_setCell]
 by_cases e : i = j
 ·subst e
  rw [List.getElem?_set_self hi] at hz
  injection hz with hz
  subst hz
  exact ⟨World.cell?_setCell_same w _ _ (h.cell hx), h.frozen hx⟩
 ·rw [List.getElem?_set_ne e] at hz
  exact ⟨(World.cell?_setCell_other w _ _ _ (by intro h9; injection h9 with _ h9; first | exact e h9 | exact e h9.symm)).trans (h.cell hz), h.frozen hz⟩
theorem Blk.far (h : Blk k w g cs) {p : Addr} (hp : g ≠ p.block) (u : Value) : Blk k (w.setCell p u) g cs := h.keep (by simp) (Below.heap_setCell w p u g hp)
theorem Blk.below (h : Blk k w g cs) (hb : Below w.heap.size w w') : Blk k w' g cs := h.keep hb.size (hb.block g h.lt)
theorem Blk.grown {row : Option Nat} (h : Blk k w g cs) (hb : w.grownBy w' row) (hg : row ≠ some g) : Blk k w' g cs := h.keep hb.size (hb.block g h.lt (fun e => hg e.symm))
theorem Blk.take (h : Blk k w g cs) (n : Nat) : Blk k w g (cs.take n) := ⟨h.1, fun i x hx => h.2 i x (by
 rw [List.getElem?_take] at hx
 split at hx
 ·exact hx
 ·cases hx)⟩
theorem Blk.of_heap {t : TypeId} {cur : Array Value} (h : w.heap[g]? = some (.cells cur t (0, 0))) (hc : ∀ (i x : Nat), cs[i]? = some x → cur[i]? = some (.int k (x : Int))) : Blk k w g cs := by
 refine ⟨?_, fun i x hx => ⟨by rw [cell_of_row w g i cur t (0, 0) h]; exact hc i x hx, by simp [World.frozen?, h]⟩⟩
 rcases Nat.lt_or_ge g w.heap.size with hlt | hge
 ·exact hlt
 ·rw [Array.getElem?_eq_none hge] at h; cases h
end
def Rd (k : IntKind) (w : World) (A : Option Addr) (xs : List Nat) : Prop :=
 xs = [] ∨ ∃ b off, A = some ⟨b, off, none⟩ ∧ b < w.heap.size ∧ ∀ (i x : Nat), xs[i]? = some x → w.cell? ⟨b, off + i, none⟩ = some (.int k (x : Int))
def Off (A : Option Addr) (xs : List Nat) (g : Nat) : Prop := xs = [] ∨ ∀ ad, A = some ad → ad.block ≠ g
section
variable {k : IntKind} {w w' : World} {g : Nat} {xs cs : List Nat} {A : Option Addr}
theorem Rd.nil (k : IntKind) (w : World) (A : Option Addr) : Rd k w A [] := Or.inl rfl
theorem Rd.pos {i x : Nat} (h : Rd k w A xs) (hx : xs[i]? = some x) : ∃ b off, A = some ⟨b, off, none⟩ ∧ b < w.heap.size ∧ ∀ (i x : Nat), xs[i]? = some x → w.cell? ⟨b, off + i, none⟩ = some (.int k (x : Int)) := by
 rcases h with rfl | h
 ·simp at hx
 ·exact h
theorem Rd.keep (h : Rd k w A xs) (hs : w.heap.size ≤ w'.heap.size) (hk : xs = [] ∨ ∀ ad, A = some ad → ad.block < w.heap.size → w'.heap[ad.block]? = w.heap[ad.block]?) : Rd k w' A xs := by
 rcases h with rfl | ⟨b, off, rfl, hb, hc⟩
 ·exact Or.inl rfl
 ·rcases hk with rfl | hk
  ·exact Or.inl rfl
  ·exact Or.inr ⟨b, off, rfl, by omega, fun i x hx => (World.cell?_of_block (w := w) (a := ⟨b, off + i, none⟩) (hk ⟨b, off, none⟩ rfl hb)).trans (hc i x hx)⟩
theorem Rd.below (h : Rd k w A xs) (hb : Below w.heap.size w w') : Rd k w' A xs := h.keep hb.size (Or.inr fun _ _ hl => hb.block _ hl)
theorem Rd.drewN (h : Rd k w A xs) (n : Nat) : Rd k (w.drewN n) A xs := h
theorem Rd.alloc (h : Rd k w A xs) (o : Obj) : Rd k (w.alloc o) A xs := h.below ((Below.refl _ _).alloc (Nat.le_refl _) o)
theorem Rd.grown (h : Rd k w A xs) {row : Option Nat} (hg : w.grownBy w' row) (ho : ∀ g, row = some g → Off A xs g) : Rd k w' A xs := by
 refine h.keep hg.size ?_
 cases row with
 | none => exact Or.inr fun ad _ hl => hg.block _ hl (by simp)
 | some g =>
  rcases ho g rfl with h0 | h0
  ·exact Or.inl h0
  ·exact Or.inr fun ad e hl => hg.block _ hl (fun e' => h0 ad e (by injection e'))
theorem Rd.setCell (h : Rd k w A xs) {p : Addr} (hp : Off A xs p.block) (u : Value) : Rd k (w.setCell p u) A xs := by
 refine h.keep (by simp) ?_
 rcases hp with h0 | h0
 ·exact Or.inl h0
 ·exact Or.inr fun ad e _ => Below.heap_setCell _ _ _ _ (h0 ad e)
theorem Rd.of_blk (h : Blk k w g cs) (off : Nat) (n : Nat) : Rd k w (some ⟨g, off, none⟩) ((cs.drop off).take n) := by
 refine Or.inr ⟨g, off, rfl, h.lt, fun i x hx => h.cell ?_⟩
 rw [List.getElem?_take] at hx
 split at hx
 ·rwa [List.getElem?_drop] at hx
 ·cases hx
theorem Rd.of_all (h : Blk k w g cs) : Rd k w (some ⟨g, 0, none⟩) cs := by
 refine Or.inr ⟨g, 0, rfl, h.lt, fun i x hx => h.cell ?_⟩
 simpa using hx
theorem Rd.take (h : Rd k w A xs) (n : Nat) : Rd k w A (xs.take n) := by
 rcases h with rfl | ⟨b, off, rfl, hb, hc⟩
 ·exact Or.inl (by simp)
 ·refine Or.inr ⟨b, off, rfl, hb, fun i x hx => hc i x ?_⟩
  rw [List.getElem?_take] at hx
  split at hx
  ·exact hx
  ·cases hx
theorem Off.of_ne {b off : Nat} (h : b ≠ g) : Off (some ⟨b, off, none⟩) xs g := Or.inr fun ad e => by injection e with e; subst e; exact h
theorem Off.new (h : Rd k w A xs) (hg : w.heap.size ≤ g) : Off A xs g := by
 rcases h with rfl | ⟨b, off, rfl, hb, _⟩
 ·exact Or.inl rfl
 ·exact Off.of_ne (by omega)
end
def Own (k : IntKind) (w : World) (B : Nat) (A : Option Addr) (xs : List Nat) : Prop :=
 xs = [] ∨ ∃ g off ds, A = some ⟨g, off, none⟩ ∧ B ≤ g ∧ Blk k w g ds ∧ ∀ (i x : Nat), xs[i]? = some x → ds[off + i]? = some x
section
variable {k : IntKind} {w w' : World} {B g : Nat} {xs cs : List Nat} {A : Option Addr}
theorem Own.nil (k : IntKind) (w : World) (B : Nat) (A : Option Addr) : Own k w B A [] := Or.inl rfl
theorem Own.rd (h : Own k w B A xs) : Rd k w A xs := by
 rcases h with rfl | ⟨g, off, ds, rfl, _, hb, hx⟩
 ·exact Rd.nil _ _ _
 ·exact Or.inr ⟨g, off, rfl, hb.lt, fun i x h => hb.cell (hx i x h)⟩
theorem Own.below (h : Own k w B A xs) (hb : Below w.heap.size w w') : Own k w' B A xs := by
 rcases h with rfl | ⟨g, off, ds, rfl, hB, hk, hx⟩
 ·exact Or.inl rfl
 ·exact Or.inr ⟨g, off, ds, rfl, hB, hk.below hb, hx⟩
theorem Own.mono {B' : Nat} (h : Own k w B A xs) (hB : B' ≤ B) : Own k w B' A xs := by
 rcases h with rfl | ⟨g, off, ds, rfl, hB', hk, hx⟩
 ·exact Or.inl rfl
 ·exact Or.inr ⟨g, off, ds, rfl, Nat.le_trans hB hB', hk, hx⟩
theorem Own.of_blk (h : Blk k w g cs) (hB : B ≤ g) : Own k w B (some ⟨g, 0, none⟩) cs := Or.inr ⟨g, 0, cs, rfl, hB, h, fun i x hx => by simpa using hx⟩
theorem Own.take (h : Own k w B A xs) (n : Nat) : Own k w B A (xs.take n) := by
 rcases h with rfl | ⟨g, off, ds, rfl, hB, hk, hx⟩
 ·exact Or.inl (by simp)
 ·refine Or.inr ⟨g, off, ds, rfl, hB, hk, fun i x h => hx i x ?_⟩
  rw [List.getElem?_take] at h
  split at h
  ·exact h
  ·cases h
theorem Own.of_row {e : TypeId} {v : Value} {n : Nat} (h : w.ownsRow B e 1 v n (ints k xs)) : ∃ A c, v = .slice A n c ∧ n = xs.length ∧ n ≤ c ∧ c ≤ maxLen ∧ Own k w B A xs := by
 have hn : n = xs.length := by have := h.1; rw [ints_length] at this; omega
 rcases h.2 with ⟨rfl, h0⟩ | ⟨g, cap, cur, rfl, hB, hg, hc, hm, _, ht⟩
 ·subst h0
  have : xs = [] := List.eq_nil_of_length_eq_zero hn.symm
  exact ⟨none, 0, rfl, hn, Nat.le_refl _, Nat.zero_le _, Or.inl this⟩
 ·refine ⟨_, cap, rfl, hn, hc, hm, Own.of_blk (Blk.of_heap hg fun i x hx => ?_) hB⟩
  have h1 := ints_get (k := k) hx
  rw [← ht, List.getElem?_take] at h1
  split at h1
  ·simpa using h1
  ·cases h1
end
def Lim (b : Nat) (xs : List Nat) : Prop := ∀ x ∈ xs, x < b
theorem Lim.get {b : Nat} {xs : List Nat} {i x : Nat} (h : Lim b xs) (hx : xs[i]? = some x) : x < b := h x (List.mem_of_getElem? hx)
theorem Lim.set {b : Nat} {xs : List Nat} {i x : Nat} (h : Lim b xs) (hx : x < b) : Lim b (xs.set i x) := by
 intro y hy
 rcases List.mem_or_eq_of_mem_set hy with hy | rfl
 ·exact h y hy
 ·exact hx
theorem Lim.take {b : Nat} {xs : List Nat} (h : Lim b xs) (n : Nat) : Lim b (xs.take n) := fun x hx => h x (List.mem_of_mem_take hx)
theorem Lim.drop {b : Nat} {xs : List Nat} (h : Lim b xs) (n : Nat) : Lim b (xs.drop n) := fun x hx => h x (List.mem_of_mem_drop hx)
theorem Lim.append {b : Nat} {xs ys : List Nat} (h : Lim b xs) (h' : Lim b ys) : Lim b (xs ++ ys) := fun x hx => by
 rcases List.mem_append.1 hx with hx | hx
 ·exact h x hx
 ·exact h' x hx
theorem Lim.nil (b : Nat) : Lim b [] := fun _ h => by cases h
theorem Lim.replicate {b n x : Nat} (h : x < b) : Lim b (List.replicate n x) := fun y hy => by rw [List.eq_of_mem_replicate hy]; exact h
theorem get_of_lt {xs : List Nat} {i : Nat} (h : i < xs.length) : ∃ x, xs[i]? = some x := ⟨xs[i], List.getElem?_eq_getElem h⟩
theorem only_set {a w : World} {g : Nat} (h : a.grownBy w (some g)) {p : Addr} (hp : p.block = g ∨ a.heap.size ≤ p.block) (u : Value) : a.grownBy (w.setCell p u) (some g) :=
 ⟨h.os, h.tape, h.output, by simpa [World.setCell] using h.size, fun i hi hne => (Below.heap_setCell w p u i (by
  rintro rfl
  rcases hp with hp | hp
  ·exact hne (by rw [hp])
  ·omega)).trans (h.block i hi hne)⟩
theorem only_drew {a w : World} {row : Option Nat} (h : a.grownBy w row) : a.grownBy w.drew row := ⟨h.os, h.tape, h.output, h.size, h.block⟩
theorem only_drewN {a w : World} {row : Option Nat} (h : a.grownBy w row) (n : Nat) : a.grownBy (w.drewN n) row := ⟨h.os, h.tape, h.output, h.size, h.block⟩
theorem only_alloc {a w : World} {row : Option Nat} (h : a.grownBy w row) (o : Obj) : a.grownBy (w.alloc o) row :=
 ⟨h.os, h.tape, h.output, Nat.le_trans h.size (by simp), fun i hi hne => (Below.heap_alloc w o i (Nat.lt_of_lt_of_le hi h.size)).trans (h.block i hi hne)⟩
theorem only_refl (w : World) (row : Option Nat) : w.grownBy w row := ⟨rfl, rfl, rfl, Nat.le_refl _, fun _ _ _ => rfl⟩
theorem only_trans {a b c : World} {row : Option Nat} (h : a.grownBy b row) (k : b.grownBy c row) : a.grownBy c row :=
 ⟨k.os.trans h.os, k.tape.trans h.tape, k.output.trans h.output, Nat.le_trans h.size k.size, fun i hi hn => (k.block i (Nat.lt_of_lt_of_le hi h.size) hn).trans (h.block i hi hn)⟩
theorem only_of_below {a w : World} (h : Below a.heap.size a w) (row : Option Nat) : a.grownBy w row := ⟨h.os, h.tape, h.output, h.size, fun i hi _ => h.block i hi⟩
theorem below_only {B : Nat} {a b c : World} {g : Nat} (h : Below B a b) (k : b.grownBy c (some g)) (hB : B ≤ b.heap.size) (hg : B ≤ g) : Below B a c :=
 h.grown k hB (fun j hj => by injection hj with hj; omega)
theorem below_drewN {B : Nat} {a w : World} (h : Below B a w) (n : Nat) : Below B a (w.drewN n) := ⟨h.os, h.tape, h.output, h.size, h.block⟩
end Go.Proofs.YtchaahnhpeoomaaGreat
namespace Go.Proofs.YtchaahnhpeoomaaGreat
set_option linter.unusedVariables false
set_option linter.unusedSimpArgs false
set_option maxRecDepth 20000
open Go.RowKit
def Whl (k : IntKind) (t : TypeId) (w : World) (g : Nat) (cs : List Nat) : Prop := w.heap[g]? = some (.cells (ints k cs).toArray t (0, 0))
section
variable {k : IntKind} {t : TypeId} {w w' : World} {g : Nat} {cs : List Nat}
theorem Whl.blk (h : Whl k t w g cs) : Blk k w g cs := Blk.of_heap h fun i x hx => by simpa using ints_get hx
theorem Whl.lt (h : Whl k t w g cs) : g < w.heap.size := h.blk.lt
theorem Whl.keep (h : Whl k t w g cs) (hk : w'.heap[g]? = w.heap[g]?) : Whl k t w' g cs := hk.trans h
theorem Whl.drewN (h : Whl k t w g cs) (n : Nat) : Whl k t (w.drewN n) g cs := h
theorem Whl.alloc (h : Whl k t w g cs) (o : Obj) : Whl k t (w.alloc o) g cs := (Below.heap_alloc w o g h.lt).trans h
theorem Whl.below (h : Whl k t w g cs) (hb : Below w.heap.size w w') : Whl k t w' g cs := (hb.block g h.lt).trans h
theorem Whl.grown {row : Option Nat} (h : Whl k t w g cs) (hb : w.grownBy w' row) (hg : row ≠ some g) : Whl k t w' g cs := (hb.block g h.lt (fun e => hg e.symm)).trans h
theorem Whl.set (h : Whl k t w g cs) (i x : Nat) : Whl k t (w.setCell ⟨g, i, none⟩ (.int k (x : Int))) g (cs.set i x) := by
 unfold Whl at h ⊢
 rw [← ints_set]
 simp [World.setCell, Array.getElem?_modify, h]
theorem Whl.far (h : Whl k t w g cs) {p : Addr} (hp : g ≠ p.block) (u : Value) : Whl k t (w.setCell p u) g cs := (Below.heap_setCell w p u g hp).trans h
end
theorem ints_replicate (k : IntKind) (n : Nat) : ints k (List.replicate n 0) = List.replicate n (Value.int k 0) := by simp [ints]
section
variable {P : Program} (w : World)
theorem wpList_make_ints {ops : Array Oper} {rest : List Oper} {o : Oper} {a : Act} {Q : Exit → Act → World → Prop}
  (hg : o.guard = none) (l c : Operand) (t : TypeId) (hop : o.op = Op.makeSlice t l c) (k : IntKind) (e : TypeId) (bytes : Nat)
  (ht : P.underlying t = some (.slice e)) (hinfo : (P.info? e).map (fun i => (i.zero, i.size, i.bytes)) = some (some (.int k 0), 1, bytes))
  (kl kc : IntKind) (n : Nat) (L C : Int) (hl : a.eval l = .int kl L) (hc : a.eval c = .int kc C) (hL : L = (n : Int)) (hC : C = (n : Int))
  (hbytes : bytes * n ≤ 281474976710656) (h63 : n ≤ 9223372036854775807)
  (hK : ∀ g w', Hid (g = w.heap.size) → Whl k e w' g (List.replicate n 0) → w'.heap.size = w.heap.size + 1 → Below w.heap.size w w' → wpList P ops Q rest (a.put o.dst (.slice (some ⟨g, 0, none⟩) n n)) w') :
  wpList P ops Q (o :: rest) a w := by
 refine wpList_plain hg fun K hK' => ?_
 have hrun := run_make_row' (P := P) t e _ bytes ht hinfo rfl kl kc n hbytes h63 w
 subst hL
 subst hC
 unfold Oper.wp
 simp [execOp, hop, hl, hc, hrun, Result.andThen]
 refine hK' _ _ (hK w.heap.size _ rfl ?_ (by simp) ((Below.refl _ _).alloc (Nat.le_refl _) _))
 unfold Whl
 rw [heap_alloc_new, ints_replicate]
 congr 2
 have := toList_madeCells_one (.int k 0) n
 rw [← this]
theorem run_append_ints (B : Nat) (t ty e : TypeId) (k : IntKind) (bytes : Nat) (ht : P.underlying t = some (.slice e)) (hinfo : (P.info? e).map (fun i => (i.zero, i.size, i.bytes)) = some (some (.int k 0), 1, bytes))
  (v : Value) (n : Nat) (xs : List Nat) (hown : w.ownsRow B e 1 v n (ints k xs)) (A : Option Addr) (m c : Nat) (ys : List Nat) (hm : m = ys.length) (hr : Rd k w A ys)
  (h63 : n + m ≤ maxLen) (hbytes : (n + m) * bytes ≤ 140737488355328) (hbase : B ≤ w.heap.size) :
  ∃ v' w', (Builtin.append_ #[t, t] ty #[v, .slice A m c]).run P w = .ok v' w' ∧ w'.ownsRow B e 1 v' (n + m) (ints k (xs ++ ys)) ∧ w.grownBy w' v.ownBlock ∧ (v ≠ .slice none 0 0 → v' ≠ .slice none 0 0) := by
 obtain ⟨i, hi, hzz⟩ := Option.map_eq_some_iff.1 hinfo
 simp only [Prod.mk.injEq] at hzz
 obtain ⟨hz, hs, hb⟩ := hzz
 rcases A with _ | ad
 ·have h0 : ys = [] := by
   rcases hr with h | ⟨b, off, h, _⟩
   ·exact h
   ·cases h
  subst h0
  subst hm
  refine ⟨v, w, ?_, by simpa using hown, ⟨rfl, rfl, rfl, Nat.le_refl _, fun _ _ _ => rfl⟩, fun h => h⟩
  rcases hown.2 with ⟨rfl, rfl⟩ | ⟨g, cap, cur, rfl, _, _, hnc, _⟩
  ·simp [Builtin.append_, run_underlying ht, sizeOf, typeInfo, hi, Builtin.lenOf, Builtin.firstCells]
  ·simp [Builtin.append_, run_underlying ht, sizeOf, typeInfo, hi, Builtin.lenOf, Builtin.firstCells, hnc, storeCells]
 ·have hcells : ∀ j u, (ints k ys)[j]? = some u → w.cell? (ad.add j) = some u := by
   intro j u hu
   rcases hr with rfl | ⟨b, off, he, hb, hc⟩
   ·simp [ints] at hu
   ·injection he with he
    subst he
    simp only [ints, List.getElem?_map, Option.map_eq_some_iff] at hu
    obtain ⟨x, hx, rfl⟩ := hu
    have h1 : (⟨b, off, none⟩ : Addr).add j = ⟨b, off + j, none⟩ := by
     unfold Addr.add
     split
     ·simp_all
     ·rfl
    rw [h1]
    exact hc j x hx
  obtain ⟨v', w', hrun, h2, h3, h4⟩ := run_append_own (P := P) w B t ty e i _ 1 bytes ht hi hz hs hb rfl (by omega) v n _ hown ad m c (ints k ys) (by rw [ints_length]; omega) hcells (ints_one k ys) h63 hbytes hbase
  rw [ints_append] at h2
  exact ⟨v', w', hrun, h2, h3, fun hv e => hv (h4.1 e).1⟩
theorem wpList_append_ints {ops : Array Oper} {rest : List Oper} {o : Oper} {a : Act} {Q : Exit → Act → World → Prop} (hgd : o.guard = none) (s x : Operand) (t : TypeId)
  (ho : o.op = .call { callee := .builtin .append, args := #[s, x], argTypes := #[t, t] })
  (B : Nat) (e : TypeId) (k : IntKind) (bytes : Nat) (ht : P.underlying t = some (.slice e)) (hinfo : (P.info? e).map (fun i => (i.zero, i.size, i.bytes)) = some (some (.int k 0), 1, bytes))
  (v : Value) (n : Nat) (xs : List Nat) (hs : a.eval s = v) (hown : w.ownsRow B e 1 v n (ints k xs)) (A : Option Addr) (m c : Nat) (ys : List Nat) (hx : a.eval x = .slice A m c) (hm : m = ys.length) (hr : Rd k w A ys)
  (h63 : n + m ≤ maxLen) (hbytes : (n + m) * bytes ≤ 140737488355328) (hbase : B ≤ w.heap.size)
  (h : ∀ v' w', w'.ownsRow B e 1 v' (n + m) (ints k (xs ++ ys)) → w.grownBy w' v.ownBlock → (v ≠ .slice none 0 0 → v' ≠ .slice none 0 0) → wpList P ops Q rest (a.put o.dst v') w') : wpList P ops Q (o :: rest) a w := by
 refine wpList_plain hgd fun K hK => ?_
 obtain ⟨v', w', hrun, h2, h3, h4⟩ := run_append_ints (P := P) w B t o.type e k bytes ht hinfo v n xs hown A m c ys hm hr h63 hbytes hbase
 unfold Oper.wp execOp
 simp only [ho, resolve, invoke, builtin, Sem.run_bind, Sem.run_pure, Result.andThen_ok, List.map_toArray, List.map_cons, List.map_nil, hs, hx, hrun]
 exact hK _ _ (h v' w' h2 h3 h4)
theorem wpList_append_copy {ops : Array Oper} {rest : List Oper} {o : Oper} {a : Act} {Q : Exit → Act → World → Prop} (hgd : o.guard = none) (s x : Operand) (t : TypeId)
  (ho : o.op = .call { callee := .builtin .append, args := #[s, x], argTypes := #[t, t] })
  (w0 : World) (e : TypeId) (k : IntKind) (bytes : Nat) (ht : P.underlying t = some (.slice e)) (hinfo : (P.info? e).map (fun i => (i.zero, i.size, i.bytes)) = some (some (.int k 0), 1, bytes))
  (v : Value) (hs : a.eval s = v) (hown : w.ownsRow w0.heap.size e 1 v 0 []) (A : Option Addr) (m c : Nat) (ys : List Nat) (hx : a.eval x = .slice A m c) (hm : m = ys.length) (hr : Rd k w A ys)
  (hb : Below w0.heap.size w0 w) (hl : m ≤ 70000) (hbytes : bytes ≤ 16)
  (h : ∀ A' c' w', Own k w' w0.heap.size A' ys → m ≤ c' → c' ≤ maxLen → Below w0.heap.size w0 w' → wpList P ops Q rest (a.put o.dst (.slice A' m c')) w') : wpList P ops Q (o :: rest) a w := by
 refine wpList_append_ints w hgd s x t ho w0.heap.size e k bytes ht hinfo v 0 [] hs (by simpa [ints] using hown) A m c ys hx hm hr (by simp only [maxLen]; omega) ?_ hb.size ?_
 ·have := Nat.mul_le_mul hl hbytes
  rw [Nat.zero_add]
  omega
 ·intro v' w' h1 h2 _
  simp only [Nat.zero_add, List.nil_append] at h1
  obtain ⟨A', c', rfl, h3, h4, h5, h6⟩ := Own.of_row h1
  refine h A' c' w' h6 h4 h5 (hb.grown h2 hb.size fun j hj => ?_)
  have := hown.lt j hj
  exact this.1
theorem wpList_append_lit {ops : Array Oper} {rest : List Oper} {o : Oper} {a : Act} {Q : Exit → Act → World → Prop} (hgd : o.guard = none) (s x : Operand) (t : TypeId)
  (ho : o.op = .call { callee := .builtin .append, args := #[s, x], argTypes := #[t, t] })
  (w0 : World) (e : TypeId) (k : IntKind) (bytes : Nat) (ht : P.underlying t = some (.slice e)) (hinfo : (P.info? e).map (fun i => (i.zero, i.size, i.bytes)) = some (some (.int k 0), 1, bytes))
  (gl cl : Nat) (hs : a.eval s = .slice (some ⟨gl, 0, none⟩) 0 cl) (hown : w.ownsRow w0.heap.size e 1 (.slice (some ⟨gl, 0, none⟩) 0 cl) 0 []) (A : Option Addr) (m c : Nat) (ys : List Nat) (hx : a.eval x = .slice A m c) (hm : m = ys.length) (hr : Rd k w A ys)
  (hb : Below w0.heap.size w0 w) (hl : m ≤ 70000) (hbytes : bytes ≤ 16)
  (h : ∀ g c' w', w0.heap.size ≤ g → Blk k w' g ys → m ≤ c' → c' ≤ maxLen → Below w0.heap.size w0 w' → wpList P ops Q rest (a.put o.dst (.slice (some ⟨g, 0, none⟩) m c')) w') : wpList P ops Q (o :: rest) a w := by
 refine wpList_append_ints w hgd s x t ho w0.heap.size e k bytes ht hinfo _ 0 [] hs (by simpa [ints] using hown) A m c ys hx hm hr (by simp only [maxLen]; omega) ?_ hb.size ?_
 ·have := Nat.mul_le_mul hl hbytes
  rw [Nat.zero_add]
  omega
 ·intro v' w' h1 h2 h3
  simp only [Nat.zero_add, List.nil_append] at h1
  have hne := h3 (by simp)
  have hbel : Below w0.heap.size w0 w' := hb.grown h2 hb.size fun j hj => (hown.lt j hj).1
  have hn : m = ys.length := hm
  rcases h1.2 with ⟨e0, _⟩ | ⟨g, cap, cur, rfl, hB, hg, hc, hmx, _, htk⟩
  ·exact absurd e0 hne
  ·refine h g cap w' hB (Blk.of_heap hg fun i x hx => ?_) hc hmx hbel
   have h5 := ints_get (k := k) hx
   rw [← htk, List.getElem?_take] at h5
   split at h5
   ·simpa using h5
   ·cases h5
theorem rd_cells {k : IntKind} {w : World} {A : Option Addr} {ys : List Nat} (hr : Rd k w A ys) (hp : 0 < ys.length) : ∃ ad, A = some ad ∧ ∀ j u, (ints k ys)[j]? = some u → w.cell? (ad.add j) = some u := by
 rcases hr with rfl | ⟨b, off, he, hb, hc⟩
 ·simp at hp
 ·refine ⟨_, he, fun j u hu => ?_⟩
  simp only [ints, List.getElem?_map, Option.map_eq_some_iff] at hu
  obtain ⟨x, hx, rfl⟩ := hu
  have h1 : (⟨b, off, none⟩ : Addr).add j = ⟨b, off + j, none⟩ := by
   unfold Addr.add
   split
   ·simp_all
   ·rfl
  rw [h1]
  exact hc j x hx
theorem wpList_copy_ints {ops : Array Oper} {rest : List Oper} {o : Oper} {a : Act} {Q : Exit → Act → World → Prop} (hgd : o.guard = none) (d s : Operand) (dT sT : TypeId)
  (ho : o.op = .call { callee := .builtin .copy, args := #[d, s], argTypes := #[dT, sT] }) (k : IntKind) (e : TypeId) (bytes : Nat) (ht : P.underlying dT = some (.slice e)) (hinfo : (P.info? e).map (fun i => (i.zero, i.size, i.bytes)) = some (some (.int k 0), 1, bytes))
  (g off dLen dCap sCap : Nat) (sp : Option Addr) (m : Nat) (hd : a.eval d = .slice (some ⟨g, off, none⟩) dLen dCap) (hs : a.eval s = .slice sp m sCap) (ds ys : List Nat) (hw : Whl k e w g ds) (hr : Rd k w sp ys)
  (hm : m = ys.length) (hle : m ≤ dLen) (hfit : off + m ≤ ds.length) (B : Nat) (w0 : World) (hb : Below B w0 w) (hBg : B ≤ g)
  (h : ∀ w', Whl k e w' g (ds.take off ++ ys ++ ds.drop (off + m)) → Below B w0 w' → w.grownBy w' (some g) → wpList P ops Q rest (a.put o.dst (goInt m)) w') :
  wpList P ops Q (o :: rest) a w := by
 subst hm
 have hsz : (P.info? e).map (·.size) = some 1 := by
  obtain ⟨i, hi, hzz⟩ := Option.map_eq_some_iff.1 hinfo
  simp only [Prod.mk.injEq] at hzz
  rw [hi]
  simp [hzz.2.1]
 have hl : (ints k ys).length = ys.length := ints_length k ys
 have hB2 : ∃ B0, B0 = B := ⟨B, rfl⟩
 by_cases h0 : ys.length = 0
 ·obtain rfl : ys = [] := List.eq_nil_of_length_eq_zero h0
  refine wpList_copy_nothing hgd d s dT sT ho e ht hsz _ sp dLen dCap _ sCap hd hs (by simp) ?_
  exact h w (by simpa using hw) hb ⟨rfl, rfl, rfl, Nat.le_refl _, fun _ _ _ => rfl⟩
 ·obtain ⟨ad, rfl, hsrc⟩ := rd_cells hr (by omega)
  refine wpList_copy_own hgd d s dT sT ho e ht hsz g off dLen dCap ad ys.length sCap hd hs (ints k ds).toArray e hw (ints k ys) (by rw [hl]; exact (Nat.min_eq_left hle).symm) hsrc (by simpa [ints_length] using hfit) (ints_one k ys) ?_
  rw [hl]
  refine h _ ?_ (below_setRow hb hBg _) ?_
  ·unfold Whl
   rw [setRow_heap w g _ _ e _ hw]
   simp [ints_append, ints_take, ints_drop, hl]
  ·exact ⟨rfl, rfl, rfl, by simp [World.setRow], fun i _ hi => by
    simp only [World.setRow, Array.getElem?_modify]
    rw [if_neg (fun e => hi (by rw [e]))]⟩
end
end Go.Proofs.YtchaahnhpeoomaaGreat
namespace Go.Proofs.YtchaahnhpeoomaaGreat
set_option linter.unusedVariables false
set_option linter.unusedSimpArgs false
set_option maxRecDepth 20000
open Go.RowKit
def Quiet (v : Value) (w : World) (e : Ending) (w' : World) : Prop := e = .returned v ∧ ∃ n, w' = w.drewN n
theorem Quiet.mk {v v' : Value} {w : World} (h : v = v') (n : Nat) : Quiet v' w (.returned v) (w.drewN n) := ⟨by rw [h], n, rfl⟩
theorem Quiet.mk2 {v v' : Value} {w : World} (h : v = v') (n m : Nat) : Quiet v' w (.returned v) ((w.drewN n).drewN m) := ⟨by rw [h], n + m, World.drewN_drewN _ _ _⟩
theorem Quiet.mk3 {v v' : Value} {w : World} (h : v = v') (n m k : Nat) : Quiet v' w (.returned v) (((w.drewN n).drewN m).drewN k) := ⟨by rw [h], n + m + k, by rw [World.drewN_drewN, World.drewN_drewN, Nat.add_assoc]⟩
theorem Quiet.mk0 {v v' : Value} {w : World} (h : v = v') : Quiet v' w (.returned v) w := ⟨by rw [h], 0, rfl⟩
theorem info_u32 : (Tryz.prog.info? 129).map (fun i => (i.zero, i.size, i.bytes)) = some (some (.int .u32 0), 1, 4) := by kernel_rfl
theorem info_u8 : (Tryz.prog.info? 5).map (fun i => (i.zero, i.size, i.bytes)) = some (some (.int .u8 0), 1, 1) := by kernel_rfl
def Gives (k : IntKind) (xs : List Nat) (w : World) (e : Ending) (w' : World) : Prop :=
 ∃ A c, e = .returned (.slice A xs.length c) ∧ xs.length ≤ c ∧ c ≤ maxLen ∧ Own k w' w.heap.size A xs ∧ Below w.heap.size w w'
def Box (w : World) (b : Nat) (v : Value) : Prop := w.cell? ⟨b, 0, none⟩ = some v ∧ w.frozen? ⟨b, 0, none⟩ = false ∧ b < w.heap.size
theorem Box.new (w : World) (v : Value) (t : TypeId) : Box (w.alloc (.cells #[v] t)) w.heap.size v := ⟨by simp, by simp, by simp⟩
theorem blk_lit {k : IntKind} {t : TypeId} (w : World) (xs : List Nat) (cur : Array Value) (h : cur = (ints k xs).toArray) : Blk k (w.alloc (.cells cur t)) w.heap.size xs := by
 subst h
 exact Blk.of_heap (heap_alloc_new w _) fun i x hx => by simpa using ints_get hx
theorem lim_small {b : Nat} {xs : List Nat} (h : xs.all (· < b) = true) : Lim b xs := fun x hx => by
 have := List.all_eq_true.1 h x hx
 simpa using this
end Go.Proofs.YtchaahnhpeoomaaGreat
namespace Go.Proofs.YtchaahnhpeoomaaGreat
set_option linter.unusedVariables false
set_option linter.unusedSimpArgs false
set_option maxRecDepth 20000
def val : List Nat → Nat
 | [] => 0
 | x :: xs => x + 4294967296 * val xs
def limbsF : Nat → Nat → List Nat
 | 0, _ => []
 | f + 1, n => if n = 0 then [] else n % 4294967296 :: limbsF f (n / 4294967296)
def limbs (n : Nat) : List Nat := limbsF n n
theorem limbsF_fuel (f g n : Nat) (hf : n ≤ f) (hg : n ≤ g) : limbsF f n = limbsF g n := by
 induction f generalizing g n with
 | zero =>
  obtain rfl : n = 0 := by omega
  cases g <;> simp [limbsF]
 | succ f ih =>
  cases g with
  | zero =>
   obtain rfl : n = 0 := by omega
   simp [limbsF]
  | succ g =>
   simp only [limbsF]
   split
   ·rfl
   ·rw [ih g (n / 4294967296) (by omega) (by omega)]
theorem limbs_zero : limbs 0 = [] := rfl
theorem limbs_pos {n : Nat} (h : n ≠ 0) : limbs n = n % 4294967296 :: limbs (n / 4294967296) := by
 unfold limbs
 obtain ⟨m, rfl⟩ : ∃ m, n = m + 1 := ⟨n - 1, by omega⟩
 rw [limbsF, if_neg h, limbsF_fuel m _ _ (by omega) (Nat.le_refl _)]
theorem val_limbs (n : Nat) : val (limbs n) = n := by
 induction n using Nat.strongRecOn with
 | ind n ih =>
  rcases Nat.eq_zero_or_pos n with rfl | h
  ·rfl
  ·rw [limbs_pos (by omega), val, ih _ (by omega)]
   omega
theorem limbs_lim (n : Nat) : Lim 4294967296 (limbs n) := by
 induction n using Nat.strongRecOn with
 | ind n ih =>
  rcases Nat.eq_zero_or_pos n with rfl | h
  ·exact Lim.nil _
  ·rw [limbs_pos (by omega)]
   intro x hx
   rcases List.mem_cons.1 hx with rfl | hx
   ·exact Nat.mod_lt _ (by omega)
   ·exact ih _ (by omega) x hx
def Canon (xs : List Nat) : Prop := Lim 4294967296 xs ∧ xs.getLast? ≠ some 0
theorem val_pos_of_last {xs : List Nat} {x : Nat} (h : xs.getLast? = some x) (hx : x ≠ 0) : val xs ≠ 0 := by
 induction xs with
 | nil => simp at h
 | cons y ys ih =>
  cases ys with
  | nil => simp at h; subst h; simp [val]; exact hx
  | cons z zs =>
   have := ih (by simpa using h)
   rw [val]
   omega
theorem canon_limbs (n : Nat) : Canon (limbs n) := by
 refine ⟨limbs_lim n, ?_⟩
 induction n using Nat.strongRecOn with
 | ind n ih =>
  rcases Nat.eq_zero_or_pos n with rfl | h
  ·simp [limbs_zero]
  ·rw [limbs_pos (by omega)]
   rcases Nat.eq_zero_or_pos (n / 4294967296) with h0 | h0
   ·rw [h0, limbs_zero]
    simp
    omega
   ·have h1 := ih (n / 4294967296) (by omega)
    rw [limbs_pos (n := n / 4294967296) (by omega)] at h1 ⊢
    simpa using h1
theorem limbs_val {xs : List Nat} (h : Canon xs) : limbs (val xs) = xs := by
 obtain ⟨hl, hz⟩ := h
 induction xs with
 | nil => rfl
 | cons x xs ih =>
  have hx : x < 4294967296 := hl x (by simp)
  have hne : val (x :: xs) ≠ 0 := by
   cases hq : (x :: xs).getLast? with
   | none => simp at hq
   | some y => exact val_pos_of_last hq (by rintro rfl; exact hz hq)
  rw [limbs_pos hne]
  have e1 : val (x :: xs) % 4294967296 = x := by rw [val]; omega
  have e2 : val (x :: xs) / 4294967296 = val xs := by rw [val]; omega
  rw [e1, e2, ih (fun y hy => hl y (by simp [hy]))]
  intro h
  cases xs with
  | nil => simp at h
  | cons z zs => exact hz (by simpa using h)
theorem val_append (xs ys : List Nat) : val (xs ++ ys) = val xs + 4294967296 ^ xs.length * val ys := by
 induction xs with
 | nil => simp [val]
 | cons x xs ih =>
  simp only [List.cons_append, val, ih, List.length_cons, Nat.pow_succ]
  rw [Nat.mul_add, ← Nat.mul_assoc, Nat.mul_comm 4294967296 (4294967296 ^ xs.length)]
  omega
theorem val_lt {xs : List Nat} (h : Lim 4294967296 xs) : val xs < 4294967296 ^ xs.length := by
 induction xs with
 | nil => simp [val]
 | cons x xs ih =>
  have hx : x < 4294967296 := h x (by simp)
  have := ih (fun y hy => h y (by simp [hy]))
  rw [val, List.length_cons, Nat.pow_succ]
  omega
theorem val_replicate (n : Nat) : val (List.replicate n 0) = 0 := by
 induction n with
 | zero => rfl
 | succ n ih => simp [List.replicate_succ, val, ih]
theorem val_take {xs : List Nat} {n : Nat} (h : ∀ i x, n ≤ i → xs[i]? = some x → x = 0) : val (xs.take n) = val xs := by
 have hd : xs.drop n = List.replicate (xs.drop n).length 0 := by
  refine List.eq_replicate_iff.2 ⟨rfl, fun x hx => ?_⟩
  obtain ⟨i, hi⟩ := List.mem_iff_getElem?.1 hx
  rw [List.getElem?_drop] at hi
  exact h _ _ (by omega) hi
 have := val_append (xs.take n) (xs.drop n)
 rw [List.take_append_drop, hd, val_replicate, Nat.mul_zero, Nat.add_zero] at this
 exact this.symm
theorem take_limbs {xs : List Nat} {n : Nat} (hl : Lim 4294967296 xs) (hn : n ≤ xs.length) (h0 : ∀ i x, n ≤ i → xs[i]? = some x → x = 0) (h1 : n = 0 ∨ xs[n - 1]? ≠ some 0) :
  xs.take n = limbs (val xs) := by
 rw [← val_take h0]
 refine (limbs_val ⟨hl.take n, ?_⟩).symm
 rcases h1 with rfl | h1
 ·simp
 ·rcases Nat.eq_zero_or_pos n with rfl | hp
  ·simp
  ·rw [List.getLast?_eq_getElem?, List.length_take, Nat.min_eq_left hn, List.getElem?_take, if_pos (by omega)]
   exact h1
theorem limbs_length_le {n k : Nat} (h : n < 4294967296 ^ k) : (limbs n).length ≤ k := by
 induction k generalizing n with
 | zero =>
      obtain rfl : n = 0 := by simpa using h
      simp [limbs_zero]
 | succ k ih =>
  rcases Nat.eq_zero_or_pos n with rfl | hp
  ·simp [limbs_zero]
  ·rw [limbs_pos (by omega), List.length_cons]
   have := ih (n := n / 4294967296) (by rw [Nat.pow_succ] at h; exact Nat.div_lt_of_lt_mul (by rw [Nat.mul_comm]; exact h))
   omega
theorem lt_of_limbs_length {n k : Nat} (h : (limbs n).length ≤ k) : n < 4294967296 ^ k := by
 have h1 := val_lt (limbs_lim n)
 rw [val_limbs] at h1
 exact Nat.lt_of_lt_of_le h1 (Nat.pow_le_pow_right (by omega) h)
def isRight (xs : List Nat) : Bool := decide (xs.length ≤ 256) && (xs.getLast? != some 0)
theorem isRight_canon {xs : List Nat} (hl : Lim 4294967296 xs) (h : isRight xs = true) : Canon xs := by
 simp [isRight] at h
 exact ⟨hl, h.2⟩
theorem isRight_len {xs : List Nat} (h : isRight xs = true) : xs.length ≤ 256 := by
 simp [isRight] at h
 exact h.1
theorem isRight_of {xs : List Nat} (h : Canon xs) (hl : xs.length ≤ 256) : isRight xs = true := by
 simp [isRight, hl, h.2]
theorem isRight_limbs {n : Nat} (h : (limbs n).length ≤ 256) : isRight (limbs n) = true := isRight_of (canon_limbs n) h
def cmpN (a b : Nat) : Int := if a < b then -1 else if b < a then 1 else 0
theorem val_drop_succ {xs : List Nat} {i x : Nat} (h : xs[i]? = some x) : val (xs.drop i) = x + 4294967296 * val (xs.drop (i + 1)) := by
 have hi : i < xs.length := (List.getElem?_eq_some_iff.1 h).1
 rw [List.drop_eq_getElem_cons hi, val]
 rw [List.getElem?_eq_getElem hi] at h
 injection h with h
 rw [h]
theorem val_split (xs : List Nat) (n : Nat) (h : n ≤ xs.length) : val xs = val (xs.take n) + 4294967296 ^ n * val (xs.drop n) := by
 have := val_append (xs.take n) (xs.drop n)
 rw [List.take_append_drop, List.length_take, Nat.min_eq_left h] at this
 exact this
theorem val_lt_of {xs ys : List Nat} {i x y : Nat} (hx : Lim 4294967296 xs) (hgx : xs[i]? = some x) (hgy : ys[i]? = some y) (he : xs.drop (i + 1) = ys.drop (i + 1)) (hlt : x < y) : val xs < val ys := by
 have hix : i < xs.length := (List.getElem?_eq_some_iff.1 hgx).1
 have hiy : i < ys.length := (List.getElem?_eq_some_iff.1 hgy).1
 have h1 := val_split xs i (by omega)
 have h2 := val_split ys i (by omega)
 rw [val_drop_succ hgx] at h1
 rw [val_drop_succ hgy, ← he] at h2
 have h3 : val (xs.take i) < 4294967296 ^ i := by
  have := val_lt (hx.take i)
  rwa [List.length_take, Nat.min_eq_left (by omega)] at this
 generalize val (xs.drop (i + 1)) = d at *
 generalize 4294967296 ^ i = p at *
 have h4 : p * (x + 1 + 4294967296 * d) ≤ p * (y + 4294967296 * d) := Nat.mul_le_mul_left _ (by omega)
 have h5 : p * (x + 1 + 4294967296 * d) = p * (x + 4294967296 * d) + p := by rw [show x + 1 + 4294967296 * d = x + 4294967296 * d + 1 from by omega, Nat.mul_succ]
 omega
theorem val_lt_of_len {xs ys : List Nat} (hx : Lim 4294967296 xs) (hy : Canon ys) (h : xs.length < ys.length) : val xs < val ys := by
 have h1 := val_lt hx
 rcases Nat.lt_or_ge (val xs) (val ys) with h2 | h2
 ·exact h2
 ·have h3 : (limbs (val ys)).length ≤ xs.length := limbs_length_le (Nat.lt_of_le_of_lt h2 h1)
  rw [limbs_val hy] at h3
  omega
theorem cmpN_lt {a b : Nat} (h : a < b) : cmpN a b = -1 := by simp [cmpN, h]
theorem cmpN_gt {a b : Nat} (h : b < a) : cmpN a b = 1 := by simp [cmpN, h, show ¬ a < b from by omega]
theorem cmpN_self (a : Nat) : cmpN a a = 0 := by simp [cmpN]
theorem cmpN_pos {a b : Nat} : 0 < cmpN a b ↔ b < a := by
 unfold cmpN
 split
 ·omega
 ·split <;> omega
theorem cmpN_neg {a b : Nat} : cmpN a b < 0 ↔ a < b := by
 unfold cmpN
 split
 ·omega
 ·split <;> omega
theorem cmpN_bd (a b : Nat) : -1 ≤ cmpN a b ∧ cmpN a b ≤ 1 := by
 unfold cmpN
 split
 ·omega
 ·split <;> omega
end Go.Proofs.YtchaahnhpeoomaaGreat
namespace Go.Proofs.YtchaahnhpeoomaaGreat
set_option linter.unusedVariables false
set_option linter.unusedSimpArgs false
set_option maxRecDepth 20000
def foldTo (cs : List Nat) (off : Nat) (ys : List Nat) (a : Nat) : Nat → List Nat × Nat
 | 0 => (cs, 0)
 | k + 1 =>
  let p := foldTo cs off ys a k
  let t := a * ys.getD k 0 + p.1.getD (off + k) 0 + p.2
  (p.1.set (off + k) (t % 4294967296), t / 4294967296)
theorem foldTo_length (cs : List Nat) (off : Nat) (ys : List Nat) (a k : Nat) : (foldTo cs off ys a k).1.length = cs.length := by
 induction k with
 | zero => rfl
 | succ k ih => simp [foldTo, ih]
theorem foldTo_lim (cs : List Nat) (off : Nat) (ys : List Nat) (a k : Nat) (lc : Lim 4294967296 cs) : Lim 4294967296 (foldTo cs off ys a k).1 := by
 induction k with
 | zero => exact lc
 | succ k ih => exact ih.set (Nat.mod_lt _ (by omega))
theorem mul_lim {a b : Nat} (ha : a < 4294967296) (hb : b < 4294967296) : a * b ≤ 18446744065119617025 := Nat.mul_le_mul (show a ≤ 4294967295 by omega) (show b ≤ 4294967295 by omega)
theorem getD_lim {b : Nat} {xs : List Nat} (h : Lim b xs) (hb : 0 < b) (i : Nat) : xs.getD i 0 < b := by
 rw [List.getD_eq_getElem?_getD]
 cases hx : xs[i]? with
 | none => simpa using hb
 | some x => simpa using h.get hx
theorem foldTo_carry (cs : List Nat) (off : Nat) (ys : List Nat) (a k : Nat) (ha : a < 4294967296) (lc : Lim 4294967296 cs) (ly : Lim 4294967296 ys) : (foldTo cs off ys a k).2 < 4294967296 := by
 induction k with
 | zero => show 0 < 4294967296; omega
 | succ k ih =>
  have h1 := mul_lim ha (getD_lim ly (by omega) k)
  have h2 := getD_lim (foldTo_lim cs off ys a k lc) (by omega) (off + k)
  show (a * ys.getD k 0 + (foldTo cs off ys a k).1.getD (off + k) 0 + (foldTo cs off ys a k).2) / 4294967296 < 4294967296
  omega
theorem foldTo_succ {cs : List Nat} {off : Nat} {ys : List Nat} {a k y x c : Nat} {ds : List Nat} (hy : ys[k]? = some y) (hd : foldTo cs off ys a k = (ds, c)) (hx : ds[off + k]? = some x) :
  foldTo cs off ys a (k + 1) = (ds.set (off + k) ((a * y + x + c) % 4294967296), (a * y + x + c) / 4294967296) := by
 simp [foldTo, hd, List.getD_eq_getElem?_getD, hy, hx]
theorem val_take_succ {xs : List Nat} {k x : Nat} (h : xs.getD k 0 = x) : val (xs.take (k + 1)) = val (xs.take k) + 4294967296 ^ k * x := by
 rw [List.getD_eq_getElem?_getD] at h
 rcases Nat.lt_or_ge k xs.length with hk | hk
 ·rw [List.getElem?_eq_getElem hk] at h
  simp at h
  rw [List.take_succ_eq_append_getElem hk, val_append, List.length_take, Nat.min_eq_left (by omega), h]
  simp [val]
 ·rw [List.getElem?_eq_none hk] at h
  simp at h
  subst h
  rw [List.take_of_length_le (by omega), List.take_of_length_le (by omega)]
  simp
theorem val_set {xs : List Nat} {i x : Nat} (h : xs[i]? = some x) (y : Nat) : val (xs.set i y) + 4294967296 ^ i * x = val xs + 4294967296 ^ i * y := by
 induction xs generalizing i with
 | nil => simp at h
 | cons z zs ih =>
  cases i with
  | zero => simp at h; subst h; simp [val]; omega
  | succ i =>
   have := ih (i := i) (by simpa using h)
   simp only [List.set_cons_succ, val, Nat.pow_succ]
   rw [Nat.mul_comm (4294967296 ^ i) 4294967296, Nat.mul_assoc, Nat.mul_assoc]
   omega
theorem foldTo_val {cs ys : List Nat} {off a k : Nat} (h : off + k ≤ cs.length) :
  val (foldTo cs off ys a k).1 + 4294967296 ^ (off + k) * (foldTo cs off ys a k).2 = val cs + 4294967296 ^ off * (a * val (ys.take k)) := by
 induction k with
 | zero => simp [foldTo, val]
 | succ k ih =>
  have ih := ih (by omega)
  obtain ⟨ds, c, hd⟩ : ∃ ds c, foldTo cs off ys a k = (ds, c) := ⟨_, _, rfl⟩
  have hlen := foldTo_length cs off ys a k
  rw [hd] at ih hlen
  simp only at ih hlen
  obtain ⟨x, hx⟩ := get_of_lt (xs := ds) (i := off + k) (by omega)
  have hs : foldTo cs off ys a (k + 1) = (ds.set (off + k) ((a * ys.getD k 0 + x + c) % 4294967296), (a * ys.getD k 0 + x + c) / 4294967296) := by
   simp [foldTo, hd, List.getD_eq_getElem?_getD, hx]
  rw [hs, val_take_succ rfl]
  simp only
  generalize ys.getD k 0 = y
  have h1 := val_set hx ((a * y + x + c) % 4294967296)
  have h2 : 4294967296 ^ (off + (k + 1)) * ((a * y + x + c) / 4294967296) = 4294967296 ^ (off + k) * (4294967296 * ((a * y + x + c) / 4294967296)) := by
   rw [← Nat.add_assoc, Nat.pow_succ, Nat.mul_assoc]
  have h3 : 4294967296 ^ (off + k) * ((a * y + x + c) % 4294967296) + 4294967296 ^ (off + k) * (4294967296 * ((a * y + x + c) / 4294967296)) = 4294967296 ^ (off + k) * (a * y) + 4294967296 ^ (off + k) * x + 4294967296 ^ (off + k) * c := by
   rw [← Nat.mul_add, Nat.mod_add_div, Nat.mul_add, Nat.mul_add]
  have h4 : 4294967296 ^ off * (a * (val (ys.take k) + 4294967296 ^ k * y)) = 4294967296 ^ off * (a * val (ys.take k)) + 4294967296 ^ (off + k) * (a * y) := by
   rw [Nat.mul_add, Nat.mul_add, Nat.pow_add]
   congr 1
   rw [Nat.mul_assoc]
   congr 1
   rw [Nat.mul_left_comm]
  rw [h2, h4]
  omega
def mulTo (xs ys : List Nat) : Nat → List Nat
 | 0 => List.replicate (xs.length + ys.length) 0
 | i + 1 =>
  let p := foldTo (mulTo xs ys i) i ys (xs.getD i 0) ys.length
  p.1.set (i + ys.length) p.2
theorem mulTo_length (xs ys : List Nat) (i : Nat) : (mulTo xs ys i).length = xs.length + ys.length := by
 induction i with
 | zero => simp [mulTo]
 | succ i ih => simp [mulTo, foldTo_length, ih]
theorem foldTo_get {cs ys : List Nat} {off a k i : Nat} (h : i < off ∨ off + k ≤ i) : (foldTo cs off ys a k).1[i]? = cs[i]? := by
 induction k with
 | zero => rfl
 | succ k ih =>
  simp only [foldTo]
  rw [List.getElem?_set_ne (by omega)]
  exact ih (by omega)
theorem mulTo_ok {xs ys : List Nat} (lx : Lim 4294967296 xs) (ly : Lim 4294967296 ys) {i : Nat} (hi : i ≤ xs.length) :
  val (mulTo xs ys i) = val (xs.take i) * val ys ∧ Lim 4294967296 (mulTo xs ys i) ∧ ∀ j z, i + ys.length ≤ j → (mulTo xs ys i)[j]? = some z → z = 0 := by
 induction i with
 | zero =>
  refine ⟨by simp [mulTo, val_replicate, val], Lim.replicate (by omega), fun j z _ hz => ?_⟩
  rw [mulTo, List.getElem?_replicate] at hz
  split at hz
  ·injection hz with hz; exact hz.symm
  ·cases hz
 | succ i ih =>
  obtain ⟨h1, h2, h3⟩ := ih (by omega)
  have hlen := mulTo_length xs ys i
  have ha := getD_lim lx (by omega) i
  have hfl := foldTo_length (mulTo xs ys i) i ys (xs.getD i 0) ys.length
  have hfv := foldTo_val (cs := mulTo xs ys i) (off := i) (ys := ys) (a := xs.getD i 0) (k := ys.length) (by omega)
  have hfm := foldTo_lim (mulTo xs ys i) i ys (xs.getD i 0) ys.length h2
  have hfc := foldTo_carry (mulTo xs ys i) i ys (xs.getD i 0) ys.length ha h2 ly
  rw [List.take_length] at hfv
  obtain ⟨z, hz⟩ := get_of_lt (xs := (foldTo (mulTo xs ys i) i ys (xs.getD i 0) ys.length).1) (i := i + ys.length) (by omega)
  have hz0 : z = 0 := by
   rw [foldTo_get (.inr (Nat.le_refl _))] at hz
   exact h3 _ z (Nat.le_refl _) hz
  subst hz0
  refine ⟨?_, ?_, fun j z hj hzj => ?_⟩
  ·have h5 := val_set hz (foldTo (mulTo xs ys i) i ys (xs.getD i 0) ys.length).2
   show val ((foldTo (mulTo xs ys i) i ys (xs.getD i 0) ys.length).1.set (i + ys.length) (foldTo (mulTo xs ys i) i ys (xs.getD i 0) ys.length).2) = _
   rw [val_take_succ (xs := xs) (k := i) rfl, Nat.add_mul, ← h1]
   rw [Nat.mul_zero, Nat.add_zero] at h5
   rw [h5, hfv]
   congr 1
   rw [← Nat.mul_assoc]
  ·exact hfm.set hfc
  ·simp only [mulTo] at hzj
   rw [List.getElem?_set_ne (by omega), foldTo_get (.inr (by omega))] at hzj
   exact h3 j z (by omega) hzj
theorem mulTo_succ {xs ys : List Nat} {i a : Nat} (h : xs[i]? = some a) : mulTo xs ys (i + 1) = (foldTo (mulTo xs ys i) i ys a ys.length).1.set (i + ys.length) (foldTo (mulTo xs ys i) i ys a ys.length).2 := by
 have e : xs.getD i 0 = a := by rw [List.getD_eq_getElem?_getD, h]; rfl
 simp only [mulTo, e]
end Go.Proofs.YtchaahnhpeoomaaGreat
namespace Go.Proofs.YtchaahnhpeoomaaGreat
set_option linter.unusedVariables false
set_option linter.unusedSimpArgs false
set_option maxRecDepth 20000
open Go.RowKit
set_option maxHeartbeats 400000 in
theorem fold_any (cs ys : List Nat) (g off n cap m c : Nat) (A : Option Addr) (a : Nat) (w : World) (hb : Blk .u32 w g cs) (hy : Rd .u32 w A ys) (ho : Off A ys g)
  (hm : m = ys.length) (hl : m ≤ 70000) (hn : m ≤ n) (hoff : off + m ≤ cs.length) (ha : a < 4294967296) (lc : Lim 4294967296 cs) (ly : Lim 4294967296 ys) :
  Calls Tryz.prog 175 #[.slice (some ⟨g, off, none⟩) n cap, .slice A m c, .int .u32 (a : Int)] w fun e w' =>
   e = .returned (.int .u32 ((foldTo cs off ys a m).2 : Int)) ∧ Blk .u32 w' g (foldTo cs off ys a m).1 ∧ w.grownBy w' (some g) := by
 subst hm
 go_enter Tryz.func175, Tryz.ntmps175
 go_wp2
 go_loopw [7, 13] (fun c i wr => ∃ k cy : Nat, ∃ ds, k ≤ ys.length ∧ i = .int .i64 k ∧ c = .int .u64 cy ∧ Hid (foldTo cs off ys a k = (ds, cy)) ∧ Blk .u32 wr g ds ∧ w.grownBy wr (some g)) (fun _ i _ => ys.length - (intOf i).toNat)
 case atStart => exact ⟨0, 0, cs, Nat.zero_le _, rfl, rfl, rfl, hb, only_refl _ _⟩
 case round =>
  obtain ⟨k, cy, ds, hk, rfl, rfl, hf, hbr, hgr⟩ := hrel
  have hcy : cy < 4294967296 := by have := foldTo_carry cs off ys a k ha lc ly; rwa [hf.out] at this
  by_cases hlt : k < ys.length
  ·obtain ⟨y, hgy⟩ := get_of_lt hlt
   have hdl : off + k < ds.length := by have := foldTo_length cs off ys a k; rw [hf.out] at this; simp at this; omega
   obtain ⟨x, hgx⟩ := get_of_lt hdl
   have hyb := ly.get hgy
   have hxb : x < 4294967296 := by have := foldTo_lim cs off ys a k lc; rw [hf.out] at this; exact this.get hgx
   obtain ⟨b, o, rfl, hbw, hcy0⟩ := (hy.grown hgr (fun _ e => by injection e with e; subst e; exact ho)).pos hgy
   have hcell := hcy0 k y hgy
   have hcx := hbr.cell hgx
   have hfx := hbr.frozen hgx
   have hml := mul_lim ha hyb
   have hstep := Lib.hid (foldTo_succ hgy hf.out hgx)
   have hset := Lib.hid (hbr.set hgx ((a * y + x + cy) % 4294967296))
   clear hcy0 hgy hgx
   go_wp2
   go_roundw
   case rel => exact ⟨k + 1, _, _, by omega, by go_num, by go_num, hstep.out, hset.out, only_set hgr (.inl rfl) _⟩
   case measure => simp [intOf]; omega
  ·obtain rfl : k = ys.length := by omega
   have hend := Lib.hid hf.out
   go_wp2
   go_ret
   rw [hend.out]
   exact ⟨rfl, hbr, hgr⟩
end Go.Proofs.YtchaahnhpeoomaaGreat
namespace Go.Proofs.YtchaahnhpeoomaaGreat
set_option linter.unusedVariables false
set_option linter.unusedSimpArgs false
set_option maxRecDepth 20000
open Go.RowKit
def Cut (w : World) (g o : Nat) (vs : List Value) : Prop := g < w.heap.size ∧ ∀ (i : Nat) (v : Value), vs[i]? = some v → w.cell? ⟨g, o + i, none⟩ = some v ∧ w.frozen? ⟨g, o + i, none⟩ = false
section
variable {w w' : World} {g o : Nat} {vs us : List Value}
theorem Cut.lt (h : Cut w g o vs) : g < w.heap.size := h.1
theorem Cut.cell {i : Nat} {v : Value} (h : Cut w g o vs) (hv : vs[i]? = some v) : w.cell? ⟨g, o + i, none⟩ = some v := (h.2 i v hv).1
theorem Cut.frozen {i : Nat} {v : Value} (h : Cut w g o vs) (hv : vs[i]? = some v) : w.frozen? ⟨g, o + i, none⟩ = false := (h.2 i v hv).2
theorem Cut.keep (h : Cut w g o vs) (hs : w.heap.size ≤ w'.heap.size) (hk : w'.heap[g]? = w.heap[g]?) : Cut w' g o vs :=
 ⟨Nat.lt_of_lt_of_le h.1 hs, fun i x hx => ⟨(World.cell?_of_block (w := w) (a := ⟨g, o + i, none⟩) hk).trans (h.cell hx), (World.frozen?_of_block (w := w) (a := ⟨g, o + i, none⟩) hk).trans (h.frozen hx)⟩⟩
theorem Cut.drew (h : Cut w g o vs) : Cut w.drew g o vs := h.keep (Nat.le_refl _) rfl
theorem Cut.alloc (h : Cut w g o vs) (ob : Obj) : Cut (w.alloc ob) g o vs := h.keep (by simp) (Below.heap_alloc w ob g h.lt)
theorem Cut.below (h : Cut w g o vs) (hb : Below w.heap.size w w') : Cut w' g o vs := h.keep hb.size (hb.block g h.lt)
theorem Cut.grown {row : Option Nat} (h : Cut w g o vs) (hb : w.grownBy w' row) (hg : row ≠ some g) : Cut w' g o vs := h.keep hb.size (hb.block g h.lt (fun e => hg e.symm))
theorem Cut.far (h : Cut w g o vs) {p : Addr} (hp : g ≠ p.block) (u : Value) : Cut (w.setCell p u) g o vs := h.keep (by simp) (Below.heap_setCell w p u g hp)
theorem Cut.apart (h : Cut w g o vs) {p : Addr} (hp : g ≠ p.block ∨ p.off < o ∨ o + vs.length ≤ p.off) (u : Value) : Cut (w.setCell p u) g o vs := by
 refine ⟨by simpa using h.lt, fun i x hx => ?_⟩
 have hi : i < vs.length := (List.getElem?_eq_some_iff.1 hx).1
 rw [World.frozen?_setCell]
 refine ⟨(World.cell?_setCell_other w _ _ _ ?_).trans (h.cell hx), h.frozen hx⟩
 rintro rfl
 rcases hp with hp | hp | hp
 ·exact hp rfl
 ·simp at hp; omega
 ·simp at hp; omega
theorem Cut.set {i : Nat} {v : Value} (h : Cut w g o vs) (hx : vs[i]? = some v) (u : Value) : Cut (w.setCell ⟨g, o + i, none⟩ u) g o (vs.set i u) := by
 refine ⟨by simpa using h.lt, fun j z hz => ?_⟩
 have hi : i < vs.length := (List.getElem?_eq_some_iff.1 hx).1
 rw [World.frozen?_setCell]
 by_cases e : i = j
 ·subst e
  rw [List.getElem?_set_self hi] at hz
  injection hz with hz
  subst hz
  exact ⟨World.cell?_setCell_same w _ _ (h.cell hx), h.frozen hx⟩
 ·rw [List.getElem?_set_ne e] at hz
  exact ⟨(World.cell?_setCell_other w _ _ _ (by simp [e])).trans (h.cell hz), h.frozen hz⟩
theorem Cut.range (h : Cut w g o vs) : w.rangeAt g o vs := fun _ _ hv => h.cell hv
theorem Cut.there (h : Cut w g o vs) : w.there g o vs.length := fun j hj => by
 have := h.2 j _ (List.getElem?_eq_getElem hj)
 exact ⟨by rw [this.1]; rfl, this.2⟩
theorem Cut.of_blk {k : IntKind} {cs : List Nat} (h : Blk k w g cs) : Cut w g 0 (ints k cs) := ⟨h.lt, fun i v hv => by
 simp only [ints, List.getElem?_map, Option.map_eq_some_iff] at hv
 obtain ⟨x, hx, rfl⟩ := hv
 rw [Nat.zero_add]
 exact h.2 i x hx⟩
theorem Cut.of_heap {t : TypeId} {C : Array Value} (h : w.heap[g]? = some (.cells C t (0, 0))) (hc : ∀ (i : Nat) (v : Value), vs[i]? = some v → C[o + i]? = some v) : Cut w g o vs := by
 refine ⟨?_, fun i x hx => ⟨by rw [cell_of_row w g _ C t (0, 0) h]; exact hc i x hx, by simp [World.frozen?, h]⟩⟩
 rcases Nat.lt_or_ge g w.heap.size with hlt | hge
 ·exact hlt
 ·rw [Array.getElem?_eq_none hge] at h; cases h
theorem size_setCells (b : Nat) : ∀ (vs : List Value) (o : Nat) (w : World), (w.setCells b o vs).heap.size = w.heap.size
 | [], _, _ => rfl
 | v :: r, o, w => by rw [World.setCells, size_setCells b r]; simp
theorem grown_setCells (b : Nat) : ∀ (vs : List Value) (o : Nat) (w : World), w.grownBy (w.setCells b o vs) (some b)
 | [], _, w => only_refl w _
 | v :: r, o, w => by
  rw [World.setCells]
  exact only_trans (only_set (only_refl w (some b)) (p := ⟨b, o, none⟩) (Or.inl rfl) v) (grown_setCells b r (o + 1) _)
def Stored (w : World) (g o : Nat) (vs : List Value) (w' : World) : Prop :=
 w.grownBy w' (some g) ∧ w'.heap.size = w.heap.size ∧ Cut w' g o vs ∧ ∀ o' us, Cut w g o' us → (o' + us.length ≤ o ∨ o + vs.length ≤ o') → Cut w' g o' us
theorem stored_setCells (h : Cut w g o us) (hl : vs.length = us.length) : Stored w g o vs (w.setCells g o vs) := by
 have ht := h.there
 rw [← hl] at ht
 refine ⟨grown_setCells g vs o w, size_setCells g vs o w, ⟨by rw [size_setCells]; exact h.lt, fun i v hv => ⟨World.rangeAt_setCells_same w g o vs ht i v hv, ?_⟩⟩, fun o' cs hc hap => ⟨by rw [size_setCells]; exact hc.lt, fun i v hv => ⟨World.rangeAt_setCells_apart hc.range g o vs (Or.inr hap) i v hv, ?_⟩⟩⟩
 ·rw [World.frozen?_setCells]
  exact (ht i (List.getElem?_eq_some_iff.1 hv).1).2
 ·rw [World.frozen?_setCells]
  exact hc.frozen hv
end
theorem ints_toArray_size (k : IntKind) (cs : List Nat) : (ints k cs).toArray.size = cs.length := by simp [ints]
theorem ints_all_one (k : IntKind) (cs : List Nat) : (ints k cs).toArray.all (·.oneCell') = true := all_oneCell_toArray (ints_one k cs)
section
variable {P : Program} {ops : Array Oper} {rest : List Oper} {op : Oper} {a : Act} {w : World} {Q : Exit → Act → World → Prop}
theorem wpList_load_cut (hgd : op.guard = none) (ty : TypeId) (x : Operand) (ho : op.op = .load ty x)
  (g o : Nat) (hx : a.eval x = .pointer (some ⟨g, o, none⟩)) (vs : List Value) (hc : Cut w g o vs) (d : TypeDesc)
  (hu : P.underlying ty = some d) (hd : d.isRow = true) (hi : (P.info? ty).map (·.size) = some vs.length)
  (h : wpList P ops Q rest (a.put op.dst (.agg vs.toArray)) w) : wpList P ops Q (op :: rest) a w :=
 wpList_load_mid hgd ty x ho g o hx vs d hc.range hu hd hi h
theorem wpList_store_cut (hgd : op.guard = none) (ty : TypeId) (x y : Operand) (ho : op.op = .store ty x y)
  (g o : Nat) (vs us : List Value) (hx : a.eval x = .pointer (some ⟨g, o, none⟩)) (hy : a.eval y = .agg vs.toArray) (hc : Cut w g o us) (hl : vs.length = us.length)
  (hi : (P.info? ty).map (·.size) = some vs.length) (h1 : ∀ v ∈ vs, v.oneCell' = true)
  (h : ∀ w', Stored w g o vs w' → wpList P ops Q rest (a.put op.dst undef) w') : wpList P ops Q (op :: rest) a w := by
 have ht := hc.there
 rw [← hl] at ht
 exact wpList_store_mid hgd ty x y ho g o vs.toArray hx hy (by simpa using ht) (by simpa using hi) (all_oneCell_toArray h1) (by simpa using h _ (stored_setCells hc hl))
theorem wpList_load_whl (hgd : op.guard = none) (ty : TypeId) (x : Operand) (ho : op.op = .load ty x)
  (g : Nat) (hx : a.eval x = .pointer (some ⟨g, 0, none⟩)) (k : IntKind) (e : TypeId) (cs : List Nat) (hw : Whl k e w g cs) (d : TypeDesc)
  (hu : P.underlying ty = some d) (hd : d.isRow = true) (hi : (P.info? ty).map (·.size) = some cs.length)
  (h : wpList P ops Q rest (a.put op.dst (.agg (ints k cs).toArray)) w) : wpList P ops Q (op :: rest) a w :=
 wpList_load_cut hgd ty x ho g 0 hx (ints k cs) (Cut.of_blk hw.blk) d hu hd (by rw [hi, ints_length]) h
theorem wpList_store_whl (hgd : op.guard = none) (ty : TypeId) (x y : Operand) (ho : op.op = .store ty x y)
  (g : Nat) (k : IntKind) (e : TypeId) (cs ds : List Nat) (hx : a.eval x = .pointer (some ⟨g, 0, none⟩)) (hy : a.eval y = .agg (ints k ds).toArray) (hw : Whl k e w g cs) (hl : ds.length = cs.length)
  (hi : (P.info? ty).map (·.size) = some cs.length)
  (h : ∀ w', Whl k e w' g ds → w.grownBy w' (some g) → w'.heap.size = w.heap.size → wpList P ops Q rest (a.put op.dst undef) w') : wpList P ops Q (op :: rest) a w := by
 have hsz : (ints k cs).toArray.size = (ints k ds).toArray.size := by rw [ints_toArray_size, ints_toArray_size, hl]
 refine wpList_store_row hgd ty x y ho g (ints k ds).toArray hx hy e (ints k cs).toArray hw (by rw [hi, ints_toArray_size, hl]) hsz (ints_all_one k ds) (h _ (setRow_heap w g _ _ e (0, 0) hw) ?_ (by simp))
 exact ⟨rfl, rfl, rfl, by simp, fun i _ hi => setRow_other w g i _ (fun e => hi (by rw [e]))⟩
theorem results_whl {fn : Func} {p : Tmp} {ty : TypeId} (h : fn.results = #[.cell p ty]) (tmps : Array Value) (w : World) (g : Nat) (k : IntKind) (e : TypeId) (cs : List Nat) (d : TypeDesc)
  (hp : tmps.getD p undef = .pointer (some ⟨g, 0, none⟩)) (hw : Whl k e w g cs) (hu : P.underlying ty = some d) (hd : d.isRow = true) (hi : (P.info? ty).map (·.size) = some cs.length) :
  (results fn tmps).run P w = .ok (.agg (ints k cs).toArray) w :=
 results_cell_row h tmps w g e _ (0, 0) d hp hw hu (by cases d <;> simp_all) (by rw [hi, ints_toArray_size])
end
theorem whl_new0 {k : IntKind} {t : TypeId} (w : World) (xs : List Nat) : Whl k t (w.alloc (.cells (ints k xs).toArray t)) w.heap.size xs := heap_alloc_new w _
section
variable {P : Program} {ops : Array Oper} {o : Oper} {a : Act} {w : World} {K : Act → World → Prop} {Q : Exit → Act → World → Prop} {E : Prop}
theorem step_alloc_arr (hgd : o.guard = none) (ty : TypeId) (ho : o.op = .alloc ty) (k : IntKind) (n : Nat) (hz : (P.info? ty).map (fun i => i.zero) = some (some (.agg (ints k (List.replicate n 0)).toArray)))
  (h : ∀ g w', Hid (g = w.heap.size) → Whl k ty w' g (List.replicate n 0) → w'.heap.size = w.heap.size + 1 → Below w.heap.size w w' → K (a.put o.dst (.pointer (some ⟨g, 0, none⟩))) w') :
  if Region.wanted o (yielded ops a.tmps) = true then Oper.wp P o a w K Q else E := by
 have hw : Region.wanted o (yielded ops a.tmps) = true := by simp [Region.wanted, hgd]
 rw [if_pos hw]
 obtain ⟨i, hi, hzz⟩ := Option.map_eq_some_iff.1 hz
 have hzero : (zeroValue ty).run P w = .ok (.agg (ints k (List.replicate n 0)).toArray) w := by simp [zeroValue, typeInfo, hi, hzz]
 unfold Oper.wp execOp
 simp only [ho, Instr.alloc, Sem.run_bind, Sem.run_pure, hzero, Result.andThen, newVar, run_newObj_alloc]
 exact h w.heap.size _ rfl (whl_new0 w _) (by simp) ((Below.refl _ _).alloc (Nat.le_refl _) _)
theorem step_store_whl (hgd : o.guard = none) (ty : TypeId) (x y : Operand) (ho : o.op = .store ty x y)
  (g : Nat) (k : IntKind) (e : TypeId) (cs ds : List Nat) (hx : a.eval x = .pointer (some ⟨g, 0, none⟩)) (hy : a.eval y = .agg (ints k ds).toArray) (hwl : Whl k e w g cs) (hl : ds.length = cs.length)
  (hi : (P.info? ty).map (·.size) = some cs.length)
  (h : ∀ w', Whl k e w' g ds → w.grownBy w' (some g) → w'.heap.size = w.heap.size → K (a.put o.dst undef) w') :
  if Region.wanted o (yielded ops a.tmps) = true then Oper.wp P o a w K Q else E := by
 have hw : Region.wanted o (yielded ops a.tmps) = true := by simp [Region.wanted, hgd]
 rw [if_pos hw]
 have hsz : (ints k cs).toArray.size = (ints k ds).toArray.size := by rw [ints_toArray_size, ints_toArray_size, hl]
 refine wp_store_row ty x y ho g (ints k ds).toArray hx hy e (ints k cs).toArray hwl (by rw [hi, ints_toArray_size, hl]) hsz (ints_all_one k ds) (h _ (setRow_heap w g _ _ e (0, 0) hwl) ?_ (by simp))
 exact ⟨rfl, rfl, rfl, by simp, fun i _ hi => setRow_other w g i _ (fun e => hi (by rw [e]))⟩
theorem step_store_cut (hgd : o.guard = none) (ty : TypeId) (x y : Operand) (ho : o.op = .store ty x y)
  (g off : Nat) (vs us : List Value) (hx : a.eval x = .pointer (some ⟨g, off, none⟩)) (hy : a.eval y = .agg vs.toArray) (hc : Cut w g off us) (hl : vs.length = us.length)
  (hi : (P.info? ty).map (·.size) = some vs.length) (h1 : ∀ v ∈ vs, v.oneCell' = true)
  (h : ∀ w', Stored w g off vs w' → K (a.put o.dst undef) w') :
  if Region.wanted o (yielded ops a.tmps) = true then Oper.wp P o a w K Q else E := by
 have hw : Region.wanted o (yielded ops a.tmps) = true := by simp [Region.wanted, hgd]
 rw [if_pos hw]
 have ht := hc.there
 rw [← hl] at ht
 exact wp_store_mid ty x y ho g off vs.toArray hx hy (by simpa using ht) (by simpa using hi) (all_oneCell_toArray h1) (by simpa using h _ (stored_setCells hc hl))
end
theorem whl_new {k : IntKind} {t : TypeId} (w : World) (xs : List Nat) (cur : Array Value) (h : cur = (ints k xs).toArray) : Whl k t (w.alloc (.cells cur t)) w.heap.size xs := by
 subst h
 exact heap_alloc_new w _
def GivesArr (k : IntKind) (xs : List Nat) (w : World) (e : Ending) (w' : World) : Prop := e = .returned (.agg (ints k xs).toArray) ∧ Below w.heap.size w w'
end Go.Proofs.YtchaahnhpeoomaaGreat
