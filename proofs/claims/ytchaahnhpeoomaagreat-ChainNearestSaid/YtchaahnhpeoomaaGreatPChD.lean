/-
 Eight rows of ints in an array: what they hold, where they lie, and how one of them is put in.
-/
import Derived.Test.YtchaahnhpeoomaaGreatPChC
import Derived.Maps.AppendAt
namespace Go.Proofs.YtchaahnhpeoomaaGreat
set_option linter.unusedVariables false
set_option linter.unusedSimpArgs false
set_option maxRecDepth 20000
open Go.RowKit
theorem bs1_int {o : Oper} {x : Operand} {n : Int} (ho : o.op = .buildSlice 97 1 #[(0, x)]) (a : Act) (w : World) (hv : a.eval x = .int .i64 n) :
  (execOp a.eval o).run Tryz.prog w = .ok (.value (.slice (some ⟨w.heap.size, 0, none⟩) 1 1)) (w.alloc (.cells #[.int .i64 n] 3)) := by
 obtain ⟨ie, hie, hq⟩ := Option.map_eq_some_iff.1 (show (Tryz.prog.info? 3).map (fun i => (i.zero, i.size)) = some (some (.int .i64 0), 1) by kernel_rfl)
 simp only [Prod.mk.injEq] at hq
 unfold execOp
 have h := run_buildSlice (P := Tryz.prog) w 97 3 1 #[((0 : Nat), Value.int .i64 n)] #[Value.int .i64 n] ie (.int .i64 0) Tryz.underlying97 hie hq.1 (by rw [hq.2]; decide) (by rw [hq.2]; decide) (by rw [hq.2]; exact Great.fill_flat [Value.int .i64 n] _ (fun v hv => by simp at hv; rw [hv]; rfl) (by simp [Value.cells]))
 simp only [ho, List.map_toArray, List.map_cons, List.map_nil, hv, Sem.run_bind, Sem.run_pure, h, Result.andThen_ok]
theorem app_int {o : Oper} {s x : Operand} {B n g : Nat} {v : Value} {xs : List Value} {y : Int} (ho : o.op = .call { callee := .builtin .append, args := #[s, x], argTypes := #[97, 97] }) (a : Act) (w : World)
  (hs : a.eval s = v) (hx : a.eval x = .slice (some ⟨g, 0, none⟩) 1 1) (hown : w.ownsRow B 3 1 v n xs) (hc : w.cell? ⟨g, 0, none⟩ = some (.int .i64 y)) (hn : n ≤ 1000) (hB : B ≤ w.heap.size) :
  ∃ v' w', (execOp a.eval o).run Tryz.prog w = .ok (.value v') w' ∧ w'.ownsRow B 3 1 v' (n + 1) (xs ++ [.int .i64 y]) ∧ w.grownBy w' v.ownBlock ∧ (v'.ownBlock = v.ownBlock ∨ v'.ownBlock = some w.heap.size) := by
 obtain ⟨i0, hi, hq⟩ := Option.map_eq_some_iff.1 (show (Tryz.prog.info? 3).map (fun i => (i.zero, i.size, i.bytes)) = some (some (.int .i64 0), 1, 8) by kernel_rfl)
 simp only [Prod.mk.injEq] at hq
 obtain ⟨v', w', hr, h2, h3, _, h5⟩ := run_append_own_at (P := Tryz.prog) w B 97 o.type 3 i0 (.int .i64 0) 1 8 Tryz.underlying97 hi hq.1 hq.2.1 hq.2.2 rfl (by decide) v n xs hown ⟨g, 0, none⟩ 1 1 [.int .i64 y] rfl (fun j u hj => by
  match j, hj with
  | 0, hj =>
   cases hj
   exact hc) (fun u hu => by simp at hu; rw [hu]; rfl) (by simp only [maxLen]; omega) (by omega) hB
 refine ⟨v', w', ?_, h2, h3, h5⟩
 unfold execOp
 simp only [ho, resolve, invoke, builtin, Sem.run_bind, Sem.run_pure, Result.andThen_ok, List.map_toArray, List.map_cons, List.map_nil, hs, hx, hr]
theorem step_store_sl {o : Oper} {ops : Array Oper} {a : Act} {w : World} {Q : Exit → Act → World → Prop} {K : Act → World → Prop} {E : Prop} (hgd : o.guard = none) (x y : Operand) (ho : o.op = .store 97 x y)
  (g i : Nat) (vs : List Value) (v : Value) (hx : a.eval x = .pointer (some ⟨g, i, none⟩)) (hy : a.eval y = v) (hv : ∃ A n c, v = .slice A n c) (hc : Cut w g 0 vs) (hi : i < vs.length)
  (h : ∀ w', w.grownBy w' (some g) → w'.heap.size = w.heap.size → Cut w' g 0 (vs.set i v) → K (a.put o.dst undef) w') : if Region.wanted o (yielded ops a.tmps) = true then Oper.wp Tryz.prog o a w K Q else E := by
 obtain ⟨A, n, c, rfl⟩ := hv
 rw [if_pos (wanted_free hgd _)]
 have hu : vs[i]? = some vs[i] := List.getElem?_eq_getElem hi
 have k := hc.cell hu
 have f := hc.frozen hu
 rw [Nat.zero_add] at k f
 have hrun : (Instr.storeAt 97 (.pointer (some ⟨g, i, none⟩)) (.slice A n c)).run Tryz.prog w = .ok () (w.setCell ⟨g, i, none⟩ (.slice A n c)) := by go_simp
 unfold Oper.wp execOp
 simp only [ho, hx, hy, Sem.run_bind, Sem.run_pure, hrun, Result.andThen_ok]
 have hs := hc.set hu (.slice A n c)
 rw [Nat.zero_add] at hs
 exact h _ (only_set (only_refl w _) (.inl rfl) _) (by simp) hs
structure Lv (W : World) (B g2 : Nat) (V : Nat → Value) (L : Nat → List Int) : Prop where
 arr : Cut W g2 0 ((List.range 8).map V)
 own : ∀ j, j < 8 → W.ownsRow B 3 1 (V j) (L j).length ((L j).map intV)
 apart : ∀ i j, i < 8 → j < 8 → i ≠ j → (V i).ownBlock = none ∨ (V i).ownBlock ≠ (V j).ownBlock
 gB : g2 < B
def put1 {α : Type} (V : Nat → α) (k : Nat) (v : α) : Nat → α := fun j => if j = k then v else V j
section
variable {W W' W1 W2 : World} {B g2 : Nat} {V : Nat → Value} {L : Nat → List Int}
theorem Lv.kept (h : Lv W B g2 V L) {r : Option Nat} (hg : W.grownBy W' r) (hr : ∀ b, r = some b → b < B ∧ b ≠ g2) : Lv W' B g2 V L :=
 ⟨h.arr.grown hg (fun e => (hr g2 e).2 rfl), fun j hj => (h.own j hj).kept hg (by
  cases e : (V j).ownBlock with
  | none => exact .inl rfl
  | some b =>
   refine .inr fun e2 => ?_
   have h1 := ((h.own j hj).lt b e).1
   have h2 := (hr b e2.symm).1
   omega), h.apart, h.gB⟩
theorem Lv.below (h : Lv W B g2 V L) (hb : Below W.heap.size W W') : Lv W' B g2 V L := h.kept (only_of_below hb none) (fun b e => by cases e)
theorem map_set8 (V : Nat → Value) (v : Value) {k : Nat} (hk : k < 8) : ((List.range 8).map V).set k v = (List.range 8).map (put1 V k v) := by
 apply List.ext_getElem?
 intro j
 rw [List.getElem?_set]
 by_cases hj : j < 8
 ·by_cases hkj : k = j
  ·subst hkj
   simp [put1, hj]
  ·simp [put1, hj, hkj, Ne.symm hkj]
 ·rw [if_neg (by omega), List.getElem?_eq_none (by simp; omega), List.getElem?_eq_none (by simp; omega)]
theorem Lv.put (h : Lv W B g2 V L) {k : Nat} (hk : k < 8) {v : Value} {l : List Int} (hown : W1.ownsRow B 3 1 v l.length (l.map intV)) (hg : W.grownBy W1 (V k).ownBlock) (hloc : v.ownBlock = (V k).ownBlock ∨ v.ownBlock = some W.heap.size)
  (hg2 : W1.grownBy W2 (some g2)) (hcut : Cut W2 g2 0 (((List.range 8).map V).set k v)) : Lv W2 B g2 (put1 V k v) (put1 L k l) := by
 rw [map_set8 V v hk] at hcut
 have hne : ∀ j, j < 8 → j ≠ k → (V j).ownBlock = none ∨ (V j).ownBlock ≠ v.ownBlock := fun j hj hjk => by
  rcases hloc with e | e
  ·rw [e]; exact h.apart j k hj hk hjk
  ·cases e2 : (V j).ownBlock with
   | none => exact .inl rfl
   | some b =>
    refine .inr fun e3 => ?_
    rw [e] at e3
    have h1 := ((h.own j hj).lt b e2).2
    cases e3
    omega
 have hlast : ∀ {v : Value} {n : Nat} {xs : List Value}, W1.ownsRow B 3 1 v n xs → W2.ownsRow B 3 1 v n xs := fun {v n xs} ho => ho.kept hg2 (by
  cases e : v.ownBlock with
  | none => exact .inl rfl
  | some b =>
   refine .inr fun e2 => ?_
   have h1 := (ho.lt b e).1
   have h2 := h.gB
   cases e2
   omega)
 refine ⟨hcut, fun j hj => ?_, fun i j hi hj hij => ?_, h.gB⟩
 ·by_cases hjk : j = k
  ·subst hjk
   simpa [put1] using hlast hown
  ·simp only [put1, if_neg hjk]
   exact hlast ((h.own j hj).kept hg (h.apart j k hj hk hjk))
 ·simp only [put1]
  by_cases hik : i = k
  ·by_cases hjk : j = k
   ·exact absurd (hik.trans hjk.symm) hij
   ·rw [if_pos hik, if_neg hjk]
    rcases hne j hj hjk with e | e
    ·cases e2 : v.ownBlock with
     | none => exact .inl rfl
     | some b => exact .inr (by rw [e]; simp)
    ·cases e2 : v.ownBlock with
     | none => exact .inl rfl
     | some b => exact .inr fun e3 => e (by rw [e2, ← e3])
  ·by_cases hjk : j = k
   ·rw [if_neg hik, if_pos hjk]
    exact hne i hi hik
   ·rw [if_neg hik, if_neg hjk]
    exact h.apart i j hi hj hij
theorem own_rd {v : Value} {l : List Int} (h : W.ownsRow B 3 1 v l.length (l.map intV)) : ∃ A c, v = .slice A l.length c ∧ l.length ≤ c ∧ c ≤ maxLen ∧ RdI W A l := by
 rcases h.2 with ⟨h1, h2⟩ | ⟨g, cap, cur, h1, _, h3, h4, h5, h6, h7⟩
 ·obtain rfl : l = [] := List.eq_nil_of_length_eq_zero h2
  exact ⟨none, 0, h1, Nat.le_refl _, Nat.zero_le _, .inl rfl⟩
 ·refine ⟨some ⟨g, 0, none⟩, cap, h1, h4, h5, .inr ⟨g, 0, rfl, heap_lt h3, fun i u hu => ?_⟩⟩
  have hi : i < l.length := by simpa using (List.getElem?_eq_some_iff.1 hu).1
  rw [← h7, List.getElem?_take_of_lt (by omega)] at hu
  rw [Nat.zero_add]
  simp [World.cell?, h3, by simpa using hu]
theorem Lv.at (h : Lv W B g2 V L) {j : Nat} (hj : j < 8) : W.cell? ⟨g2, j, none⟩ = some (V j) := by
 have := h.arr.cell (i := j) (v := V j) (by simp [hj])
 rwa [Nat.zero_add] at this
theorem Lv.none (hc : Cut W g2 0 ((List.range 8).map fun _ => Value.slice none 0 0)) (hB : g2 < B) : Lv W B g2 (fun _ => .slice none 0 0) (fun _ => []) :=
 ⟨hc, fun j _ => World.ownsRow_nil _ _ _ _, fun _ _ _ _ _ => .inl rfl, hB⟩
end
end Go.Proofs.YtchaahnhpeoomaaGreat
