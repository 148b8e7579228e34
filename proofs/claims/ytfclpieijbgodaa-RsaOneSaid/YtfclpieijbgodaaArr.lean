/-
  Arrays by value: out of and into a block that is known whole, and a stretch of cells inside a block. Holds without any condition.
-/
import Derived.Test.YtfclpieijbgodaaLaws
import Derived.Deep.MidRow
import Derived.Deep.Upon
namespace Go.Proofs.Ytfclpieijbgodaa
set_option linter.unusedVariables false
set_option linter.unusedSimpArgs false
open Go.RowKit

/-- These cells lie in block g from offset o on, and may be written over. -/
def Cut (w : World) (g o : Nat) (vs : List Value) : Prop := g < w.heap.size ∧ ∀ (i : Nat) (v : Value), vs[i]? = some v → w.cell? ⟨g, o + i, none⟩ = some v ∧ w.frozen? ⟨g, o + i, none⟩ = false

section
variable {w w' : World} {g o : Nat} {vs us : List Value}
theorem Cut.lt (h : Cut w g o vs) : g < w.heap.size := h.1
theorem Cut.cell {i : Nat} {v : Value} (h : Cut w g o vs) (hv : vs[i]? = some v) : w.cell? ⟨g, o + i, none⟩ = some v := (h.2 i v hv).1
theorem Cut.frozen {i : Nat} {v : Value} (h : Cut w g o vs) (hv : vs[i]? = some v) : w.frozen? ⟨g, o + i, none⟩ = false := (h.2 i v hv).2
theorem Cut.keep (h : Cut w g o vs) (hs : w.heap.size ≤ w'.heap.size) (hk : w'.heap[g]? = w.heap[g]?) : Cut w' g o vs :=
  ⟨Nat.lt_of_lt_of_le h.1 hs, fun i x hx => ⟨(World.cell?_of_block (w := w) (a := ⟨g, o + i, none⟩) hk).trans (h.cell hx), (World.frozen?_of_block (w := w) (a := ⟨g, o + i, none⟩) hk).trans (h.frozen hx)⟩⟩
theorem Cut.drew (h : Cut w g o vs) : Cut w.drew g o vs := h.keep (Nat.le_refl _) rfl
theorem Cut.drewN (h : Cut w g o vs) (n : Nat) : Cut (w.drewN n) g o vs := h.keep (Nat.le_refl _) rfl
theorem Cut.alloc (h : Cut w g o vs) (ob : Obj) : Cut (w.alloc ob) g o vs := h.keep (by simp) (Below.heap_alloc w ob g h.lt)
theorem Cut.below (h : Cut w g o vs) (hb : Below w.heap.size w w') : Cut w' g o vs := h.keep hb.size (hb.block g h.lt)
theorem Cut.grown {row : Option Nat} (h : Cut w g o vs) (hb : w.grownBy w' row) (hg : row ≠ some g) : Cut w' g o vs := h.keep hb.size (hb.block g h.lt (fun e => hg e.symm))
theorem Cut.far (h : Cut w g o vs) {p : Addr} (hp : g ≠ p.block) (u : Value) : Cut (w.setCell p u) g o vs := h.keep (by simp) (Below.heap_setCell w p u g hp)
/-- A store beside it, in the same block or elsewhere. -/
theorem Cut.apart (h : Cut w g o vs) {p : Addr} (hp : g ≠ p.block ∨ p.off < o ∨ o + vs.length ≤ p.off) (u : Value) : Cut (w.setCell p u) g o vs := by
  refine ⟨by simpa using h.lt, fun i x hx => ?_⟩
  have hi : i < vs.length := (List.getElem?_eq_some_iff.1 hx).1
  rw [World.frozen?_setCell]
  refine ⟨(World.cell?_setCell_other w _ _ _ ?_).trans (h.cell hx), h.frozen hx⟩
  rintro rfl
  rcases hp with hp | hp | hp
  · exact hp rfl
  · simp at hp; omega
  · simp at hp; omega
theorem Cut.set {i : Nat} {v : Value} (h : Cut w g o vs) (hx : vs[i]? = some v) (u : Value) : Cut (w.setCell ⟨g, o + i, none⟩ u) g o (vs.set i u) := by
  refine ⟨by simpa using h.lt, fun j z hz => ?_⟩
  have hi : i < vs.length := (List.getElem?_eq_some_iff.1 hx).1
  rw [World.frozen?_setCell]
  by_cases e : i = j
  · subst e
    rw [List.getElem?_set_self hi] at hz
    injection hz with hz
    subst hz
    exact ⟨World.cell?_setCell_same w _ _ (h.cell hx), h.frozen hx⟩
  · rw [List.getElem?_set_ne e] at hz
    exact ⟨(World.cell?_setCell_other w _ _ _ (by simp [e])).trans (h.cell hz), h.frozen hz⟩
theorem Cut.range (h : Cut w g o vs) : w.rangeAt g o vs := fun _ _ hv => h.cell hv
theorem Cut.there (h : Cut w g o vs) : w.there g o vs.length := fun j hj => by
  have := h.2 j _ (List.getElem?_eq_getElem hj)
  exact ⟨by rw [this.1]; rfl, this.2⟩
theorem Cut.of_blk {k : IntKind} {cs : List Nat} (h : Blk k w g cs) : Cut w g 0 (ints k cs) := ⟨h.lt, fun i v hv => by
  simp only [ints, List.getElem?_map, Option.map_eq_some_iff] at hv
  obtain ⟨x, hx, rfl⟩ := hv
  rw [Nat.zero_add]
  exact h.2 i x hx⟩
/-- Some cells of a block that is known whole. -/
theorem Cut.of_heap {t : TypeId} {C : Array Value} (h : w.heap[g]? = some (.cells C t (0, 0))) (hc : ∀ (i : Nat) (v : Value), vs[i]? = some v → C[o + i]? = some v) : Cut w g o vs := by
  refine ⟨?_, fun i x hx => ⟨by rw [cell_of_row w g _ C t (0, 0) h]; exact hc i x hx, by simp [World.frozen?, h]⟩⟩
  rcases Nat.lt_or_ge g w.heap.size with hlt | hge
  · exact hlt
  · rw [Array.getElem?_eq_none hge] at h; cases h
theorem size_setCells (b : Nat) : ∀ (vs : List Value) (o : Nat) (w : World), (w.setCells b o vs).heap.size = w.heap.size
  | [], _, _ => rfl
  | v :: r, o, w => by rw [World.setCells, size_setCells b r]; simp
theorem grown_setCells (b : Nat) : ∀ (vs : List Value) (o : Nat) (w : World), w.grownBy (w.setCells b o vs) (some b)
  | [], _, w => only_refl w _
  | v :: r, o, w => by
    rw [World.setCells]
    exact only_trans (only_set (only_refl w (some b)) (p := ⟨b, o, none⟩) (Or.inl rfl) v) (grown_setCells b r (o + 1) _)
/-- What may be told of a store of many cells. -/
def Stored (w : World) (g o : Nat) (vs : List Value) (w' : World) : Prop :=
  w.grownBy w' (some g) ∧ w'.heap.size = w.heap.size ∧ Cut w' g o vs ∧ ∀ o' us, Cut w g o' us → (o' + us.length ≤ o ∨ o + vs.length ≤ o') → Cut w' g o' us
theorem stored_setCells (h : Cut w g o us) (hl : vs.length = us.length) : Stored w g o vs (w.setCells g o vs) := by
  have ht := h.there
  rw [← hl] at ht
  refine ⟨grown_setCells g vs o w, size_setCells g vs o w, ⟨by rw [size_setCells]; exact h.lt, fun i v hv => ⟨World.rangeAt_setCells_same w g o vs ht i v hv, ?_⟩⟩, fun o' cs hc hap => ⟨by rw [size_setCells]; exact hc.lt, fun i v hv => ⟨World.rangeAt_setCells_apart hc.range g o vs (Or.inr hap) i v hv, ?_⟩⟩⟩
  · rw [World.frozen?_setCells]
    exact (ht i (List.getElem?_eq_some_iff.1 hv).1).2
  · rw [World.frozen?_setCells]
    exact hc.frozen hv
end

theorem ints_toArray_size (k : IntKind) (cs : List Nat) : (ints k cs).toArray.size = cs.length := by simp [ints]
theorem ints_all_one (k : IntKind) (cs : List Nat) : (ints k cs).toArray.all (·.oneCell') = true := all_oneCell_toArray (ints_one k cs)

section
variable {P : Program} {ops : Array Oper} {rest : List Oper} {op : Oper} {a : Act} {w : World} {Q : Exit → Act → World → Prop}
theorem wpList_load_cut (hgd : op.guard = none) (ty : TypeId) (x : Operand) (ho : op.op = .load ty x)
    (g o : Nat) (hx : a.eval x = .pointer (some ⟨g, o, none⟩)) (vs : List Value) (hc : Cut w g o vs) (d : TypeDesc)
    (hu : P.underlying ty = some d) (hd : d.isRow = true) (hi : (P.info? ty).map (·.size) = some vs.length)
    (h : wpList P ops Q rest (a.put op.dst (.agg vs.toArray)) w) : wpList P ops Q (op :: rest) a w :=
  wpList_load_mid hgd ty x ho g o hx vs d hc.range hu hd hi h
theorem wpList_store_cut (hgd : op.guard = none) (ty : TypeId) (x y : Operand) (ho : op.op = .store ty x y)
    (g o : Nat) (vs us : List Value) (hx : a.eval x = .pointer (some ⟨g, o, none⟩)) (hy : a.eval y = .agg vs.toArray) (hc : Cut w g o us) (hl : vs.length = us.length)
    (hi : (P.info? ty).map (·.size) = some vs.length) (h1 : ∀ v ∈ vs, v.oneCell' = true)
    (h : ∀ w', Stored w g o vs w' → wpList P ops Q rest (a.put op.dst undef) w') : wpList P ops Q (op :: rest) a w := by
  have ht := hc.there
  rw [← hl] at ht
  exact wpList_store_mid hgd ty x y ho g o vs.toArray hx hy (by simpa using ht) (by simpa using hi) (all_oneCell_toArray h1) (by simpa using h _ (stored_setCells hc hl))
theorem wpList_load_whl (hgd : op.guard = none) (ty : TypeId) (x : Operand) (ho : op.op = .load ty x)
    (g : Nat) (hx : a.eval x = .pointer (some ⟨g, 0, none⟩)) (k : IntKind) (e : TypeId) (cs : List Nat) (hw : Whl k e w g cs) (d : TypeDesc)
    (hu : P.underlying ty = some d) (hd : d.isRow = true) (hi : (P.info? ty).map (·.size) = some cs.length)
    (h : wpList P ops Q rest (a.put op.dst (.agg (ints k cs).toArray)) w) : wpList P ops Q (op :: rest) a w :=
  wpList_load_cut hgd ty x ho g 0 hx (ints k cs) (Cut.of_blk hw.blk) d hu hd (by rw [hi, ints_length]) h
theorem wpList_store_whl (hgd : op.guard = none) (ty : TypeId) (x y : Operand) (ho : op.op = .store ty x y)
    (g : Nat) (k : IntKind) (e : TypeId) (cs ds : List Nat) (hx : a.eval x = .pointer (some ⟨g, 0, none⟩)) (hy : a.eval y = .agg (ints k ds).toArray) (hw : Whl k e w g cs) (hl : ds.length = cs.length)
    (hi : (P.info? ty).map (·.size) = some cs.length)
    (h : ∀ w', Whl k e w' g ds → w.grownBy w' (some g) → w'.heap.size = w.heap.size → wpList P ops Q rest (a.put op.dst undef) w') : wpList P ops Q (op :: rest) a w := by
  have hsz : (ints k cs).toArray.size = (ints k ds).toArray.size := by rw [ints_toArray_size, ints_toArray_size, hl]
  refine wpList_store_row hgd ty x y ho g (ints k ds).toArray hx hy e (ints k cs).toArray hw (by rw [hi, ints_toArray_size, hl]) hsz (ints_all_one k ds) (h _ (setRow_heap w g _ _ e (0, 0) hw) ?_ (by simp))
  exact ⟨rfl, rfl, rfl, by simp, fun i _ hi => setRow_other w g i _ (fun e => hi (by rw [e]))⟩
theorem results_whl {fn : Func} {p : Tmp} {ty : TypeId} (h : fn.results = #[.cell p ty]) (tmps : Array Value) (w : World) (g : Nat) (k : IntKind) (e : TypeId) (cs : List Nat) (d : TypeDesc)
    (hp : tmps.getD p undef = .pointer (some ⟨g, 0, none⟩)) (hw : Whl k e w g cs) (hu : P.underlying ty = some d) (hd : d.isRow = true) (hi : (P.info? ty).map (·.size) = some cs.length) :
    (results fn tmps).run P w = .ok (.agg (ints k cs).toArray) w :=
  results_cell_row h tmps w g e _ (0, 0) d hp hw hu (by cases d <;> simp_all) (by rw [hi, ints_toArray_size])
end
theorem whl_new0 {k : IntKind} {t : TypeId} (w : World) (xs : List Nat) : Whl k t (w.alloc (.cells (ints k xs).toArray t)) w.heap.size xs := heap_alloc_new w _
/-! ### One operation of a region that draws its order: a new array; a whole array stored -/
section
variable {P : Program} {ops : Array Oper} {o : Oper} {a : Act} {w : World} {K : Act → World → Prop} {Q : Exit → Act → World → Prop} {E : Prop}
theorem step_alloc_arr (hgd : o.guard = none) (ty : TypeId) (ho : o.op = .alloc ty) (k : IntKind) (n : Nat) (hz : (P.info? ty).map (fun i => i.zero) = some (some (.agg (ints k (List.replicate n 0)).toArray)))
    (h : ∀ g w', Hid (g = w.heap.size) → Whl k ty w' g (List.replicate n 0) → w'.heap.size = w.heap.size + 1 → Below w.heap.size w w' → K (a.put o.dst (.pointer (some ⟨g, 0, none⟩))) w') :
    if Region.wanted o (yielded ops a.tmps) = true then Oper.wp P o a w K Q else E := by
  have hw : Region.wanted o (yielded ops a.tmps) = true := by simp [Region.wanted, hgd]
  rw [if_pos hw]
  obtain ⟨i, hi, hzz⟩ := Option.map_eq_some_iff.1 hz
  have hzero : (zeroValue ty).run P w = .ok (.agg (ints k (List.replicate n 0)).toArray) w := by simp [zeroValue, typeInfo, hi, hzz]
  unfold Oper.wp execOp
  simp only [ho, Instr.alloc, Sem.run_bind, Sem.run_pure, hzero, Result.andThen, newVar, run_newObj_alloc]
  exact h w.heap.size _ rfl (whl_new0 w _) (by simp) ((Below.refl _ _).alloc (Nat.le_refl _) _)
theorem step_store_whl (hgd : o.guard = none) (ty : TypeId) (x y : Operand) (ho : o.op = .store ty x y)
    (g : Nat) (k : IntKind) (e : TypeId) (cs ds : List Nat) (hx : a.eval x = .pointer (some ⟨g, 0, none⟩)) (hy : a.eval y = .agg (ints k ds).toArray) (hwl : Whl k e w g cs) (hl : ds.length = cs.length)
    (hi : (P.info? ty).map (·.size) = some cs.length)
    (h : ∀ w', Whl k e w' g ds → w.grownBy w' (some g) → w'.heap.size = w.heap.size → K (a.put o.dst undef) w') :
    if Region.wanted o (yielded ops a.tmps) = true then Oper.wp P o a w K Q else E := by
  have hw : Region.wanted o (yielded ops a.tmps) = true := by simp [Region.wanted, hgd]
  rw [if_pos hw]
  have hsz : (ints k cs).toArray.size = (ints k ds).toArray.size := by rw [ints_toArray_size, ints_toArray_size, hl]
  refine wp_store_row ty x y ho g (ints k ds).toArray hx hy e (ints k cs).toArray hwl (by rw [hi, ints_toArray_size, hl]) hsz (ints_all_one k ds) (h _ (setRow_heap w g _ _ e (0, 0) hwl) ?_ (by simp))
  exact ⟨rfl, rfl, rfl, by simp, fun i _ hi => setRow_other w g i _ (fun e => hi (by rw [e]))⟩
theorem step_store_cut (hgd : o.guard = none) (ty : TypeId) (x y : Operand) (ho : o.op = .store ty x y)
    (g off : Nat) (vs us : List Value) (hx : a.eval x = .pointer (some ⟨g, off, none⟩)) (hy : a.eval y = .agg vs.toArray) (hc : Cut w g off us) (hl : vs.length = us.length)
    (hi : (P.info? ty).map (·.size) = some vs.length) (h1 : ∀ v ∈ vs, v.oneCell' = true)
    (h : ∀ w', Stored w g off vs w' → K (a.put o.dst undef) w') :
    if Region.wanted o (yielded ops a.tmps) = true then Oper.wp P o a w K Q else E := by
  have hw : Region.wanted o (yielded ops a.tmps) = true := by simp [Region.wanted, hgd]
  rw [if_pos hw]
  have ht := hc.there
  rw [← hl] at ht
  exact wp_store_mid ty x y ho g off vs.toArray hx hy (by simpa using ht) (by simpa using hi) (all_oneCell_toArray h1) (by simpa using h _ (stored_setCells hc hl))
end
/-- A new block that is known whole. -/
theorem whl_new {k : IntKind} {t : TypeId} (w : World) (xs : List Nat) (cur : Array Value) (h : cur = (ints k xs).toArray) : Whl k t (w.alloc (.cells cur t)) w.heap.size xs := by
  subst h
  exact heap_alloc_new w _
/-- It returns an array of these numbers; nothing that was there has turned. -/
def GivesArr (k : IntKind) (xs : List Nat) (w : World) (e : Ending) (w' : World) : Prop := e = .returned (.agg (ints k xs).toArray) ∧ Below w.heap.size w w'
end Go.Proofs.Ytfclpieijbgodaa
