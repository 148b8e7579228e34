/-
  Laws of the walk for make and append on rows of numbers, in this claim's own words for memory. No condition.
-/
import Derived.Test.YtfclpieijbgodaaBase
import Derived.WalkKit
import Derived.Laws.AppendOwnNone
import Derived.Laws.CopyOwn
import Derived.Deep.OwnRows
namespace Go.Proofs.Ytfclpieijbgodaa
set_option linter.unusedVariables false
set_option linter.unusedSimpArgs false
open Go.RowKit

/-- Block g holds just these numbers, whole. -/
def Whl (k : IntKind) (t : TypeId) (w : World) (g : Nat) (cs : List Nat) : Prop := w.heap[g]? = some (.cells (ints k cs).toArray t (0, 0))
section
variable {k : IntKind} {t : TypeId} {w w' : World} {g : Nat} {cs : List Nat}
theorem Whl.blk (h : Whl k t w g cs) : Blk k w g cs := Blk.of_heap h fun i x hx => by simpa using ints_get hx
theorem Whl.lt (h : Whl k t w g cs) : g < w.heap.size := h.blk.lt
theorem Whl.keep (h : Whl k t w g cs) (hk : w'.heap[g]? = w.heap[g]?) : Whl k t w' g cs := hk.trans h
theorem Whl.drewN (h : Whl k t w g cs) (n : Nat) : Whl k t (w.drewN n) g cs := h
theorem Whl.alloc (h : Whl k t w g cs) (o : Obj) : Whl k t (w.alloc o) g cs := (Below.heap_alloc w o g h.lt).trans h
theorem Whl.below (h : Whl k t w g cs) (hb : Below w.heap.size w w') : Whl k t w' g cs := (hb.block g h.lt).trans h
theorem Whl.grown {row : Option Nat} (h : Whl k t w g cs) (hb : w.grownBy w' row) (hg : row ≠ some g) : Whl k t w' g cs := (hb.block g h.lt (fun e => hg e.symm)).trans h
theorem Whl.set (h : Whl k t w g cs) (i x : Nat) : Whl k t (w.setCell ⟨g, i, none⟩ (.int k (x : Int))) g (cs.set i x) := by
  unfold Whl at h ⊢
  rw [← ints_set]
  simp [World.setCell, Array.getElem?_modify, h]
theorem Whl.far (h : Whl k t w g cs) {p : Addr} (hp : g ≠ p.block) (u : Value) : Whl k t (w.setCell p u) g cs := (Below.heap_setCell w p u g hp).trans h
end

theorem ints_replicate (k : IntKind) (n : Nat) : ints k (List.replicate n 0) = List.replicate n (Value.int k 0) := by simp [ints]

section
variable {P : Program} (w : World)

theorem wpList_make_ints {ops : Array Oper} {rest : List Oper} {o : Oper} {a : Act} {Q : Exit → Act → World → Prop}
    (hg : o.guard = none) (l c : Operand) (t : TypeId) (hop : o.op = Op.makeSlice t l c) (k : IntKind) (e : TypeId) (bytes : Nat)
    (ht : P.underlying t = some (.slice e)) (hinfo : (P.info? e).map (fun i => (i.zero, i.size, i.bytes)) = some (some (.int k 0), 1, bytes))
    (kl kc : IntKind) (n : Nat) (L C : Int) (hl : a.eval l = .int kl L) (hc : a.eval c = .int kc C) (hL : L = (n : Int)) (hC : C = (n : Int))
    (hbytes : bytes * n ≤ 281474976710656) (h63 : n ≤ 9223372036854775807)
    (hK : ∀ g w', Hid (g = w.heap.size) → Whl k e w' g (List.replicate n 0) → w'.heap.size = w.heap.size + 1 → Below w.heap.size w w' → wpList P ops Q rest (a.put o.dst (.slice (some ⟨g, 0, none⟩) n n)) w') :
    wpList P ops Q (o :: rest) a w := by
  refine wpList_plain hg fun K hK' => ?_
  have hrun := run_make_row' (P := P) t e _ bytes ht hinfo rfl kl kc n hbytes h63 w
  subst hL
  subst hC
  unfold Oper.wp
  simp [execOp, hop, hl, hc, hrun, Result.andThen]
  refine hK' _ _ (hK w.heap.size _ rfl ?_ (by simp) ((Below.refl _ _).alloc (Nat.le_refl _) _))
  unfold Whl
  rw [heap_alloc_new, ints_replicate]
  congr 2
  have := toList_madeCells_one (.int k 0) n
  rw [← this]

theorem run_append_ints (B : Nat) (t ty e : TypeId) (k : IntKind) (bytes : Nat) (ht : P.underlying t = some (.slice e)) (hinfo : (P.info? e).map (fun i => (i.zero, i.size, i.bytes)) = some (some (.int k 0), 1, bytes))
    (v : Value) (n : Nat) (xs : List Nat) (hown : w.ownsRow B e 1 v n (ints k xs)) (A : Option Addr) (m c : Nat) (ys : List Nat) (hm : m = ys.length) (hr : Rd k w A ys)
    (h63 : n + m ≤ maxLen) (hbytes : (n + m) * bytes ≤ 140737488355328) (hbase : B ≤ w.heap.size) :
    ∃ v' w', (Builtin.append_ #[t, t] ty #[v, .slice A m c]).run P w = .ok v' w' ∧ w'.ownsRow B e 1 v' (n + m) (ints k (xs ++ ys)) ∧ w.grownBy w' v.ownBlock ∧ (v ≠ .slice none 0 0 → v' ≠ .slice none 0 0) := by
  obtain ⟨i, hi, hzz⟩ := Option.map_eq_some_iff.1 hinfo
  simp only [Prod.mk.injEq] at hzz
  obtain ⟨hz, hs, hb⟩ := hzz
  rcases A with _ | ad
  · have h0 : ys = [] := by
      rcases hr with h | ⟨b, off, h, _⟩
      · exact h
      · cases h
    subst h0
    subst hm
    refine ⟨v, w, ?_, by simpa using hown, ⟨rfl, rfl, rfl, Nat.le_refl _, fun _ _ _ => rfl⟩, fun h => h⟩
    rcases hown.2 with ⟨rfl, rfl⟩ | ⟨g, cap, cur, rfl, _, _, hnc, _⟩
    · simp [Builtin.append_, run_underlying ht, sizeOf, typeInfo, hi, Builtin.lenOf, Builtin.firstCells]
    · simp [Builtin.append_, run_underlying ht, sizeOf, typeInfo, hi, Builtin.lenOf, Builtin.firstCells, hnc, storeCells]
  · have hcells : ∀ j u, (ints k ys)[j]? = some u → w.cell? (ad.add j) = some u := by
      intro j u hu
      rcases hr with rfl | ⟨b, off, he, hb, hc⟩
      · simp [ints] at hu
      · injection he with he
        subst he
        simp only [ints, List.getElem?_map, Option.map_eq_some_iff] at hu
        obtain ⟨x, hx, rfl⟩ := hu
        have h1 : (⟨b, off, none⟩ : Addr).add j = ⟨b, off + j, none⟩ := by
          unfold Addr.add
          split
          · simp_all
          · rfl
        rw [h1]
        exact hc j x hx
    obtain ⟨v', w', hrun, h2, h3, h4⟩ := run_append_own (P := P) w B t ty e i _ 1 bytes ht hi hz hs hb rfl (by omega) v n _ hown ad m c (ints k ys) (by rw [ints_length]; omega) hcells (ints_one k ys) h63 hbytes hbase
    rw [ints_append] at h2
    exact ⟨v', w', hrun, h2, h3, fun hv e => hv (h4.1 e).1⟩

theorem wpList_append_ints {ops : Array Oper} {rest : List Oper} {o : Oper} {a : Act} {Q : Exit → Act → World → Prop} (hgd : o.guard = none) (s x : Operand) (t : TypeId)
    (ho : o.op = .call { callee := .builtin .append, args := #[s, x], argTypes := #[t, t] })
    (B : Nat) (e : TypeId) (k : IntKind) (bytes : Nat) (ht : P.underlying t = some (.slice e)) (hinfo : (P.info? e).map (fun i => (i.zero, i.size, i.bytes)) = some (some (.int k 0), 1, bytes))
    (v : Value) (n : Nat) (xs : List Nat) (hs : a.eval s = v) (hown : w.ownsRow B e 1 v n (ints k xs)) (A : Option Addr) (m c : Nat) (ys : List Nat) (hx : a.eval x = .slice A m c) (hm : m = ys.length) (hr : Rd k w A ys)
    (h63 : n + m ≤ maxLen) (hbytes : (n + m) * bytes ≤ 140737488355328) (hbase : B ≤ w.heap.size)
    (h : ∀ v' w', w'.ownsRow B e 1 v' (n + m) (ints k (xs ++ ys)) → w.grownBy w' v.ownBlock → (v ≠ .slice none 0 0 → v' ≠ .slice none 0 0) → wpList P ops Q rest (a.put o.dst v') w') : wpList P ops Q (o :: rest) a w := by
  refine wpList_plain hgd fun K hK => ?_
  obtain ⟨v', w', hrun, h2, h3, h4⟩ := run_append_ints (P := P) w B t o.type e k bytes ht hinfo v n xs hown A m c ys hm hr h63 hbytes hbase
  unfold Oper.wp execOp
  simp only [ho, resolve, invoke, builtin, Sem.run_bind, Sem.run_pure, Result.andThen_ok, List.map_toArray, List.map_cons, List.map_nil, hs, hx, hrun]
  exact hK _ _ (h v' w' h2 h3 h4)

/-- append onto an empty literal or nil: what is owned is a copy. Asked of the world in which the call began: its number of blocks. -/
theorem wpList_append_copy {ops : Array Oper} {rest : List Oper} {o : Oper} {a : Act} {Q : Exit → Act → World → Prop} (hgd : o.guard = none) (s x : Operand) (t : TypeId)
    (ho : o.op = .call { callee := .builtin .append, args := #[s, x], argTypes := #[t, t] })
    (w0 : World) (e : TypeId) (k : IntKind) (bytes : Nat) (ht : P.underlying t = some (.slice e)) (hinfo : (P.info? e).map (fun i => (i.zero, i.size, i.bytes)) = some (some (.int k 0), 1, bytes))
    (v : Value) (hs : a.eval s = v) (hown : w.ownsRow w0.heap.size e 1 v 0 []) (A : Option Addr) (m c : Nat) (ys : List Nat) (hx : a.eval x = .slice A m c) (hm : m = ys.length) (hr : Rd k w A ys)
    (hb : Below w0.heap.size w0 w) (hl : m ≤ 70000) (hbytes : bytes ≤ 16)
    (h : ∀ A' c' w', Own k w' w0.heap.size A' ys → m ≤ c' → c' ≤ maxLen → Below w0.heap.size w0 w' → wpList P ops Q rest (a.put o.dst (.slice A' m c')) w') : wpList P ops Q (o :: rest) a w := by
  refine wpList_append_ints w hgd s x t ho w0.heap.size e k bytes ht hinfo v 0 [] hs (by simpa [ints] using hown) A m c ys hx hm hr (by simp only [maxLen]; omega) ?_ hb.size ?_
  · have := Nat.mul_le_mul hl hbytes
    rw [Nat.zero_add]
    omega
  · intro v' w' h1 h2 _
    simp only [Nat.zero_add, List.nil_append] at h1
    obtain ⟨A', c', rfl, h3, h4, h5, h6⟩ := Own.of_row h1
    refine h A' c' w' h6 h4 h5 (hb.grown h2 hb.size fun j hj => ?_)
    have := hown.lt j hj
    exact this.1

/-- append onto an empty literal: the copy lies at the head of a block of its own. -/
theorem wpList_append_lit {ops : Array Oper} {rest : List Oper} {o : Oper} {a : Act} {Q : Exit → Act → World → Prop} (hgd : o.guard = none) (s x : Operand) (t : TypeId)
    (ho : o.op = .call { callee := .builtin .append, args := #[s, x], argTypes := #[t, t] })
    (w0 : World) (e : TypeId) (k : IntKind) (bytes : Nat) (ht : P.underlying t = some (.slice e)) (hinfo : (P.info? e).map (fun i => (i.zero, i.size, i.bytes)) = some (some (.int k 0), 1, bytes))
    (gl cl : Nat) (hs : a.eval s = .slice (some ⟨gl, 0, none⟩) 0 cl) (hown : w.ownsRow w0.heap.size e 1 (.slice (some ⟨gl, 0, none⟩) 0 cl) 0 []) (A : Option Addr) (m c : Nat) (ys : List Nat) (hx : a.eval x = .slice A m c) (hm : m = ys.length) (hr : Rd k w A ys)
    (hb : Below w0.heap.size w0 w) (hl : m ≤ 70000) (hbytes : bytes ≤ 16)
    (h : ∀ g c' w', w0.heap.size ≤ g → Blk k w' g ys → m ≤ c' → c' ≤ maxLen → Below w0.heap.size w0 w' → wpList P ops Q rest (a.put o.dst (.slice (some ⟨g, 0, none⟩) m c')) w') : wpList P ops Q (o :: rest) a w := by
  refine wpList_append_ints w hgd s x t ho w0.heap.size e k bytes ht hinfo _ 0 [] hs (by simpa [ints] using hown) A m c ys hx hm hr (by simp only [maxLen]; omega) ?_ hb.size ?_
  · have := Nat.mul_le_mul hl hbytes
    rw [Nat.zero_add]
    omega
  · intro v' w' h1 h2 h3
    simp only [Nat.zero_add, List.nil_append] at h1
    have hne := h3 (by simp)
    have hbel : Below w0.heap.size w0 w' := hb.grown h2 hb.size fun j hj => (hown.lt j hj).1
    have hn : m = ys.length := hm
    rcases h1.2 with ⟨e0, _⟩ | ⟨g, cap, cur, rfl, hB, hg, hc, hmx, _, htk⟩
    · exact absurd e0 hne
    · refine h g cap w' hB (Blk.of_heap hg fun i x hx => ?_) hc hmx hbel
      have h5 := ints_get (k := k) hx
      rw [← htk, List.getElem?_take] at h5
      split at h5
      · simpa using h5
      · cases h5

theorem rd_cells {k : IntKind} {w : World} {A : Option Addr} {ys : List Nat} (hr : Rd k w A ys) (hp : 0 < ys.length) : ∃ ad, A = some ad ∧ ∀ j u, (ints k ys)[j]? = some u → w.cell? (ad.add j) = some u := by
  rcases hr with rfl | ⟨b, off, he, hb, hc⟩
  · simp at hp
  · refine ⟨_, he, fun j u hu => ?_⟩
    simp only [ints, List.getElem?_map, Option.map_eq_some_iff] at hu
    obtain ⟨x, hx, rfl⟩ := hu
    have h1 : (⟨b, off, none⟩ : Addr).add j = ⟨b, off + j, none⟩ := by
      unfold Addr.add
      split
      · simp_all
      · rfl
    rw [h1]
    exact hc j x hx

/-- copy of a whole source into a block that is known whole. -/
theorem wpList_copy_ints {ops : Array Oper} {rest : List Oper} {o : Oper} {a : Act} {Q : Exit → Act → World → Prop} (hgd : o.guard = none) (d s : Operand) (dT sT : TypeId)
    (ho : o.op = .call { callee := .builtin .copy, args := #[d, s], argTypes := #[dT, sT] }) (k : IntKind) (e : TypeId) (bytes : Nat) (ht : P.underlying dT = some (.slice e)) (hinfo : (P.info? e).map (fun i => (i.zero, i.size, i.bytes)) = some (some (.int k 0), 1, bytes))
    (g off dLen dCap sCap : Nat) (sp : Option Addr) (m : Nat) (hd : a.eval d = .slice (some ⟨g, off, none⟩) dLen dCap) (hs : a.eval s = .slice sp m sCap) (ds ys : List Nat) (hw : Whl k e w g ds) (hr : Rd k w sp ys)
    (hm : m = ys.length) (hle : m ≤ dLen) (hfit : off + m ≤ ds.length) (B : Nat) (w0 : World) (hb : Below B w0 w) (hBg : B ≤ g)
    (h : ∀ w', Whl k e w' g (ds.take off ++ ys ++ ds.drop (off + m)) → Below B w0 w' → w.grownBy w' (some g) → wpList P ops Q rest (a.put o.dst (goInt m)) w') :
    wpList P ops Q (o :: rest) a w := by
  subst hm
  have hsz : (P.info? e).map (·.size) = some 1 := by
    obtain ⟨i, hi, hzz⟩ := Option.map_eq_some_iff.1 hinfo
    simp only [Prod.mk.injEq] at hzz
    rw [hi]
    simp [hzz.2.1]
  have hl : (ints k ys).length = ys.length := ints_length k ys
  have hB2 : ∃ B0, B0 = B := ⟨B, rfl⟩
  by_cases h0 : ys.length = 0
  · obtain rfl : ys = [] := List.eq_nil_of_length_eq_zero h0
    refine wpList_copy_nothing hgd d s dT sT ho e ht hsz _ sp dLen dCap _ sCap hd hs (by simp) ?_
    exact h w (by simpa using hw) hb ⟨rfl, rfl, rfl, Nat.le_refl _, fun _ _ _ => rfl⟩
  · obtain ⟨ad, rfl, hsrc⟩ := rd_cells hr (by omega)
    refine wpList_copy_own hgd d s dT sT ho e ht hsz g off dLen dCap ad ys.length sCap hd hs (ints k ds).toArray e hw (ints k ys) (by rw [hl]; exact (Nat.min_eq_left hle).symm) hsrc (by simpa [ints_length] using hfit) (ints_one k ys) ?_
    rw [hl]
    refine h _ ?_ (below_setRow hb hBg _) ?_
    · unfold Whl
      rw [setRow_heap w g _ _ e _ hw]
      simp [ints_append, ints_take, ints_drop, hl]
    · exact ⟨rfl, rfl, rfl, by simp [World.setRow], fun i _ hi => by
        simp only [World.setRow, Array.getElem?_modify]
        rw [if_neg (fun e => hi (by rw [e]))]⟩
end
end Go.Proofs.Ytfclpieijbgodaa
