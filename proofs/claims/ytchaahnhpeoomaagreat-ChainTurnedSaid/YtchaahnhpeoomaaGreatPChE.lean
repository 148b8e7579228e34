/-
 Laws at operations that chain's walks want; what a closure keeps; levels$1.
-/
import Derived.Test.YtchaahnhpeoomaaGreatPChD
import Derived.Test.YtchaahnhpeoomaaGreatPChnP
namespace Go.Proofs.YtchaahnhpeoomaaGreat
set_option linter.unusedVariables false
set_option linter.unusedSimpArgs false
set_option maxRecDepth 20000
open Go.RowKit
section
variable {ops : Array Oper} {rest : List Oper} {o : Oper} {a : Act} {w : World} {Q : Exit → Act → World → Prop}
theorem wpList_bs1 {n : Int} (hgd : o.guard = none) (x : Operand) (ho : o.op = .buildSlice 97 1 #[(0, x)]) (hv : a.eval x = .int .i64 n)
  (h : ∀ g w', Hid (g = w.heap.size) → w'.heap[g]? = some (.cells #[.int .i64 n] 3 (0, 0)) → w'.heap.size = w.heap.size + 1 → Below w.heap.size w w' → wpList Tryz.prog ops Q rest (a.put o.dst (.slice (some ⟨g, 0, none⟩) 1 1)) w') : wpList Tryz.prog ops Q (o :: rest) a w := by
 refine wpList_plain hgd fun K hK => ?_
 unfold Oper.wp
 rw [bs1_int ho a w hv]
 exact hK _ _ (h w.heap.size _ rfl (heap_alloc_new _ _) (by simp) ((Below.refl _ _).alloc (Nat.le_refl _) _))
theorem wpList_store_sl (hgd : o.guard = none) (x y : Operand) (ho : o.op = .store 97 x y) (g i : Nat) (vs : List Value) (v : Value) (hx : a.eval x = .pointer (some ⟨g, i, none⟩)) (hy : a.eval y = v) (hv : ∃ A n c, v = .slice A n c) (hc : Cut w g 0 vs) (hi : i < vs.length)
  (h : ∀ w', w.grownBy w' (some g) → w'.heap.size = w.heap.size → Cut w' g 0 (vs.set i v) → wpList Tryz.prog ops Q rest (a.put o.dst undef) w') : wpList Tryz.prog ops Q (o :: rest) a w :=
 wpList_step fun K hK => step_store_sl hgd x y ho g i vs v hx hy hv hc hi fun w' a b c => hK _ _ (h w' a b c)
theorem wpList_alloc_one (hgd : o.guard = none) (ty : TypeId) (ho : o.op = .alloc ty) (z : Value) (hz1 : z.cells = #[z]) (hz : (Tryz.prog.info? ty).map (fun i => i.zero) = some (some z))
  (h : ∀ g w', Hid (g = w.heap.size) → Cut w' g 0 [z] → w'.heap.size = w.heap.size + 1 → Below w.heap.size w w' → wpList Tryz.prog ops Q rest (a.put o.dst (.pointer (some ⟨g, 0, none⟩))) w') : wpList Tryz.prog ops Q (o :: rest) a w := by
 refine wpList_plain hgd fun K hK => ?_
 unfold Oper.wp
 rw [run_alloc_op ho hz a w]
 refine hK _ _ (h w.heap.size _ rfl ?_ (by simp) ((Below.refl _ _).alloc (Nat.le_refl _) _))
 rw [hz1]
 exact Cut.of_heap (heap_alloc_new w _) fun i v hv => by simpa using hv
theorem wpList_store_int (hgd : o.guard = none) (x y : Operand) (ho : o.op = .store 3 x y) (g : Nat) (n : Int) (u : Value) (hx : a.eval x = .pointer (some ⟨g, 0, none⟩)) (hy : a.eval y = .int .i64 n) (hc : Cut w g 0 [u])
  (h : ∀ w', w.grownBy w' (some g) → w'.heap.size = w.heap.size → Cut w' g 0 [.int .i64 n] → wpList Tryz.prog ops Q rest (a.put o.dst undef) w') : wpList Tryz.prog ops Q (o :: rest) a w := by
 refine wpList_plain hgd fun K hK => ?_
 have k := hc.cell (i := 0) rfl
 have f := hc.frozen (i := 0) rfl
 rw [Nat.zero_add] at k f
 have hrun : (Instr.storeAt 3 (.pointer (some ⟨g, 0, none⟩)) (.int .i64 n)).run Tryz.prog w = .ok () (w.setCell ⟨g, 0, none⟩ (.int .i64 n)) := by go_simp
 unfold Oper.wp execOp
 simp only [ho, hx, hy, Sem.run_bind, Sem.run_pure, hrun, Result.andThen_ok]
 have hs := hc.set (i := 0) rfl (.int .i64 n)
 rw [Nat.zero_add] at hs
 exact hK _ _ (h _ (only_set (only_refl w _) (.inl rfl) _) (by simp) hs)
end
theorem zero_int : (Tryz.prog.info? 3).map (fun i => i.zero) = some (some (.int .i64 0)) := by kernel_rfl
theorem zero_lv : (Tryz.prog.info? 98).map (fun i => i.zero) = some (some (.agg ((List.range 8).map fun _ => Value.slice none 0 0).toArray)) := by kernel_rfl
theorem sz_lv : (Tryz.prog.info? 98).map (·.size) = some 8 := by kernel_rfl
def hse (lf : Crt) (cs : List Crt) : Chn.House Crt := { leaf := lf, pool := cs, sg := sgB, fit := fun c k => decide (c.path < 0) || decide ((k : Int) - 1 ≤ c.path) }
theorem hse_at (lf : Crt) (cs : List Crt) (i : Int) : (hse lf cs).at i = atC lf cs i := rfl
theorem spot_lvl {lf : Crt} {cs : List Crt} {k : Nat} {i : Int} (h : i ∈ (hse lf cs).lvl k) : Spot cs i := by
 by_cases hi : i = -1
 ·exact .inl hi
 ·exact .inr (Chn.lvl_range _ h hi)
theorem lvl_len (lf : Crt) (cs : List Crt) (hl : cs.length ≤ 16) (k : Nat) : ((hse lf cs).lvl k).length ≤ 16 := by
 cases k with
 | zero => simp [Chn.House.lvl]
 | succ k =>
  rw [Chn.House.lvl]
  refine Nat.le_trans (List.length_filter_le _ _) ?_
  simp [Chn.House.idx, hse]
  exact hl
structure CloI (sg : Int → Int → Bool) (mb : Nat) (wc U : World) : Prop where
 g : wc.grownBy U (some mb)
 t : Tbl sg U mb
section
variable {w0 wc U U' : World} {lf : Crt} {cs : List Crt} {pA : Option Addr} {pc gp op hb mb : Nat}
theorem CloI.hm (h : CloI (sgAt lf cs) mb wc U) (H : Hm w0 lf cs pA pc hb mb wc) : Hm w0 lf cs pA pc hb mb U := H.step h.g h.t
theorem CloI.row {sg : Int → Int → Bool} {g o : Nat} {vs : List Value} (h : CloI sg mb wc U) (r : Row wc g o vs) (hn : g ≠ mb) : Row U g o vs := r.keep h.g.size (h.g.block g r.1 (fun e => hn (by simpa using e)))
theorem CloI.refl {sg : Int → Int → Bool} (t : Tbl sg wc mb) : CloI sg mb wc wc := ⟨only_refl _ _, t⟩
theorem CloI.next {sg : Int → Int → Bool} {b : Bool} {e : Ending} (h : CloI sg mb wc U) (q : HsPost sg b mb U e U') : e = .returned (.bool b) ∧ CloI sg mb wc U' := ⟨q.1, only_trans h.g q.2.1, q.2.2⟩
theorem CloI.below {sg : Int → Int → Bool} (h : CloI sg mb wc U) (q : Below U.heap.size U U') : CloI sg mb wc U' := ⟨only_trans h.g (only_of_below q _), h.t.below q⟩
set_option maxRecDepth 100000 in
theorem levels1_any (P : Pool w0 lf cs pA pc gp op) (h : Hm w0 lf cs pA pc hb mb U) {g1 g4 : Nat} {x i : Int} (r1 : Row U g1 0 [.pointer (some ⟨hb, 0, none⟩)]) (r4 : Row U g4 0 [.int .i64 i]) (hx : Spot cs x) (hi : Spot cs i) :
  Calls Tryz.prog 78 #[.int .i64 x, .pointer (some ⟨g1, 0, none⟩), .pointer (some ⟨g4, 0, none⟩)] U (HsPost (sgAt lf cs) (sgAt lf cs x i) mb U) := by
 have k1 : U.cell? ⟨g1, 0, none⟩ = some (.pointer (some ⟨hb, 0, none⟩)) := r1.2 0 _ rfl
 have k4 : U.cell? ⟨g4, 0, none⟩ = some (.int .i64 i) := r4.2 0 _ rfl
 go_enter Tryz.func78, Tryz.ntmps78
 go_wp2_with fail
 refine (hsigned_any P h hx hi).mono ?_
 rintro e U' ⟨rfl, h1, h2⟩
 go_wp2_with fail
 go_ret
 exact ⟨rfl, h1, h2⟩
end
end Go.Proofs.YtchaahnhpeoomaaGreat
