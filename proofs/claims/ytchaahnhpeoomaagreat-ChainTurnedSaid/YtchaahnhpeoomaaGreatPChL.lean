/-
 chain.Reach: all certificates that stand in some row.
-/
import Derived.Test.YtchaahnhpeoomaaGreatPChK
namespace Go.Proofs.YtchaahnhpeoomaaGreat
set_option linter.unusedVariables false
set_option linter.unusedSimpArgs false
set_option maxRecDepth 20000
open Go.RowKit
theorem fresh_snoc (s l : List Int) (x : Int) : Chn.fresh s (l ++ [x]) = if x ∈ s ∨ x ∈ l then Chn.fresh s l else Chn.fresh s l ++ [x] := by
 induction l generalizing s with
 | nil =>
  simp only [List.nil_append, Chn.fresh, List.not_mem_nil, or_false]
 | cons a l ih =>
  rw [List.cons_append, Chn.fresh, Chn.fresh]
  by_cases ha : a ∈ s
  ·rw [if_pos ha, if_pos ha, ih]
   by_cases hx : x ∈ s ∨ x ∈ l
   ·rw [if_pos hx, if_pos (hx.imp id fun h => List.mem_cons_of_mem _ h)]
   ·rw [if_neg hx, if_neg]
    rintro (h | h)
    ·exact hx (.inl h)
    ·rcases List.mem_cons.1 h with rfl | h
     ·exact hx (.inl ha)
     ·exact hx (.inr h)
  ·rw [if_neg ha, if_neg ha, ih]
   by_cases hx : x ∈ a :: s ∨ x ∈ l
   ·rw [if_pos hx, if_pos]
    rcases hx with h | h
    ·rcases List.mem_cons.1 h with rfl | h
     ·exact .inr (by simp)
     ·exact .inl h
    ·exact .inr (List.mem_cons_of_mem _ h)
   ·rw [if_neg hx, if_neg]
    ·rfl
    ·rintro (h | h)
     ·exact hx (.inl (List.mem_cons_of_mem _ h))
     ·rcases List.mem_cons.1 h with rfl | h
      ·exact hx (.inl (by simp))
      ·exact hx (.inr h)
def LeftM (W : World) (b n : Nat) (S : Int → Bool) : Prop := ∃ D : DataW Unit, W.ownsMap Tryz.prog 3 unitElem b n D ∧ Maps.IsMap D ∧ ∀ i : Int, (Lit.int .i64 i).wf = true → Maps.has D (.int .i64 i) = S i
theorem int_und : Tryz.prog.underlying 3 = some (.int .i64) := by kernel_rfl
theorem left_und : Tryz.prog.underlying 108 = some (.map 3 109) := by kernel_rfl
theorem int_law : Maps.Keyed Tryz.prog 3 := Maps.int_keyed int_und
theorem zero_unit (W : World) : (zeroValue 109).run Tryz.prog W = .ok (.agg #[]) W := by kernel_rfl
section
variable {W W' : World} {b n : Nat} {S : Int → Bool}
theorem LeftM.lt (h : LeftM W b n S) : b < W.heap.size := by
 obtain ⟨D, h1, _⟩ := h
 exact h1.lt
theorem LeftM.kept (h : LeftM W b n S) {r : Option Nat} (g : W.grownBy W' r) (hr : some b ≠ r) : LeftM W' b n S := by
 obtain ⟨D, h1, h2, h3⟩ := h
 exact ⟨D, h1.kept g hr, h2, h3⟩
theorem LeftM.below (h : LeftM W b n S) (g : Below W.heap.size W W') : LeftM W' b n S := h.kept (only_of_below g none) (by simp)
theorem LeftM.made (W : World) : LeftM (W.alloc (.map #[] 0)) W.heap.size 0 (fun _ => false) := ⟨.map [], World.ownsMap_made _ _ _ _, Maps.isMap_empty, fun i _ => rfl⟩
theorem LeftM.ext (h : LeftM W b n S) {S' : Int → Bool} (hS : ∀ i, S i = S' i) : LeftM W b n S' := by
 obtain ⟨D, h1, h2, h3⟩ := h
 exact ⟨D, h1, h2, fun i hi => (h3 i hi).trans (hS i)⟩
end
section
variable {ops : Array Oper} {rest : List Oper} {o : Oper} {a : Act} {w : World} {Q : Exit → Act → World → Prop} {b n : Nat} {S : Int → Bool} {x : Int}
theorem wpList_left_put (hg : o.guard = none) (m k v : Operand) (hop : o.op = .mapUpdate 108 m k v) (hm : a.eval m = .map (some b)) (hk : a.eval k = .int .i64 x) (hv : a.eval v = .agg #[]) (h : LeftM w b n S) (hn : n ≤ 1000) (hx : (Lit.int .i64 x).wf = true)
  (hK : ∀ w', LeftM w' b (n + 1) (fun i => if i = x then true else S i) → w.grownBy w' (some b) → wpList Tryz.prog ops Q rest (a.put o.dst undef) w') : wpList Tryz.prog ops Q (o :: rest) a w := by
 obtain ⟨D, h1, h2, h3⟩ := h
 refine wpList_mapUpdate_own w hg m k v 108 hop 3 109 int_law left_und unitElem b n D hm h1 (by unfold maxLen; omega) (.int .i64 x) (.agg #[]) (.int .i64 x) hk hv (Maps.keyOf_int_mk int_und hx) (.agg []) [] unitElem_mk fun w' o1 g1 => hK w' ⟨_, o1, h2.put _ _, fun i hi => ?_⟩ g1
 dsimp only
 by_cases e : i = x
 ·subst e
  rw [if_pos rfl]
  exact Maps.has_put_same h2 (int_law.key (Maps.keyOf_int_mk int_und hx)) _
 ·rw [if_neg e, Maps.has_put_other (fun h => e (by simpa using h))]
  exact h3 i hi
theorem wpList_left_get (hg : o.guard = none) (m k : Operand) (hop : o.op = .lookup 108 m k true) (hm : a.eval m = .map (some b)) (hk : a.eval k = .int .i64 x) (h : LeftM w b n S) (hx : (Lit.int .i64 x).wf = true) (q : Bool) (hq : S x = q)
  (hK : wpList Tryz.prog ops Q rest (a.put o.dst (.tuple #[.agg #[], .bool q])) w) : wpList Tryz.prog ops Q (o :: rest) a w := by
 obtain ⟨D, h1, h2, h3⟩ := h
 refine wpList_lookup_own_unit w hg m k 108 hop 3 109 int_law left_und (zero_unit _) b n D hm h1 (.int .i64 x) (.int .i64 x) hk (Maps.keyOf_int_mk int_und hx) ?_
 rw [h3 x hx, hq]
 exact hK
theorem wpList_left_del (hg : o.guard = none) (m k : Operand) (hop : o.op = .call { callee := .builtin .delete, args := #[m, k], argTypes := #[108, 3] }) (hm : a.eval m = .map (some b)) (hk : a.eval k = .int .i64 x) (h : LeftM w b n S) (hx : (Lit.int .i64 x).wf = true)
  (hK : ∀ w', LeftM w' b n (fun i => if i = x then false else S i) → w.grownBy w' (some b) → wpList Tryz.prog ops Q rest (a.put o.dst (.tuple #[])) w') : wpList Tryz.prog ops Q (o :: rest) a w := by
 obtain ⟨D, h1, h2, h3⟩ := h
 refine wpList_delete_own w hg m k 108 3 hop 109 int_law left_und unitElem b n D hm h1 (.int .i64 x) (.int .i64 x) hk (Maps.keyOf_int_mk int_und hx) fun w' o1 g1 => hK w' ⟨_, o1, h2.del _, fun i hi => ?_⟩ g1.grown
 dsimp only
 by_cases e : i = x
 ·subst e
  rw [if_pos rfl]
  exact Maps.has_del_same
 ·rw [if_neg e, Maps.has_del_other (fun h => e (by simpa using h))]
  exact h3 i hi
end
end Go.Proofs.YtchaahnhpeoomaaGreat
