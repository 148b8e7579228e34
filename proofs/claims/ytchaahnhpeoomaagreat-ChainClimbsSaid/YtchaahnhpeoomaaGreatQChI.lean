/-
  What chain.Find keeps while it goes on; laws at its operations.
-/
import Derived.Test.YtchaahnhpeoomaaGreatQChD
import Derived.Test.YtchaahnhpeoomaaGreatQChnP
import Derived.Maps.RangeWalk
import Derived.Test.YtchaahnhpeoomaaGreatQOpnS
namespace Go.Proofs.YtchaahnhpeoomaaGreat
set_option linter.unusedVariables false
set_option linter.unusedSimpArgs false
set_option maxRecDepth 20000
open Go.RowKit
section
variable {ops : Array Oper} {rest : List Oper} {o : Oper} {a : Act} {w : World} {Q : Exit → Act → World → Prop}
theorem wpList_bs1 {n : Int} (hgd : o.guard = none) (x : Operand) (ho : o.op = .buildSlice 97 1 #[(0, x)]) (hv : a.eval x = .int .i64 n)
  (h : ∀ g w', Hid (g = w.heap.size) → w'.heap[g]? = some (.cells #[.int .i64 n] 3 (0, 0)) → w'.heap.size = w.heap.size + 1 → Below w.heap.size w w' → wpList Tryz.prog ops Q rest (a.put o.dst (.slice (some ⟨g, 0, none⟩) 1 1)) w') : wpList Tryz.prog ops Q (o :: rest) a w := by
 refine wpList_plain hgd fun K hK => ?_
 unfold Oper.wp
 rw [bs1_int ho a w hv]
 exact hK _ _ (h w.heap.size _ rfl (heap_alloc_new _ _) (by simp) ((Below.refl _ _).alloc (Nat.le_refl _) _))
theorem wpList_store_sl (hgd : o.guard = none) (x y : Operand) (ho : o.op = .store 97 x y) (g i : Nat) (vs : List Value) (v : Value) (hx : a.eval x = .pointer (some ⟨g, i, none⟩)) (hy : a.eval y = v) (hv : ∃ A n c, v = .slice A n c) (hc : Cut w g 0 vs) (hi : i < vs.length)
  (h : ∀ w', w.grownBy w' (some g) → w'.heap.size = w.heap.size → Cut w' g 0 (vs.set i v) → wpList Tryz.prog ops Q rest (a.put o.dst undef) w') : wpList Tryz.prog ops Q (o :: rest) a w :=
 wpList_step fun K hK => step_store_sl hgd x y ho g i vs v hx hy hv hc hi fun w' a b c => hK _ _ (h w' a b c)
theorem wpList_alloc_one (hgd : o.guard = none) (ty : TypeId) (ho : o.op = .alloc ty) (z : Value) (hz1 : z.cells = #[z]) (hz : (Tryz.prog.info? ty).map (fun i => i.zero) = some (some z))
  (h : ∀ g w', Hid (g = w.heap.size) → Cut w' g 0 [z] → w'.heap.size = w.heap.size + 1 → Below w.heap.size w w' → wpList Tryz.prog ops Q rest (a.put o.dst (.pointer (some ⟨g, 0, none⟩))) w') : wpList Tryz.prog ops Q (o :: rest) a w := by
 refine wpList_plain hgd fun K hK => ?_
 unfold Oper.wp
 rw [run_alloc_op ho hz a w]
 refine hK _ _ (h w.heap.size _ rfl ?_ (by simp) ((Below.refl _ _).alloc (Nat.le_refl _) _))
 rw [hz1]
 exact Cut.of_heap (heap_alloc_new w _) fun i v hv => by simpa using hv
theorem wpList_store_int (hgd : o.guard = none) (x y : Operand) (ho : o.op = .store 3 x y) (g : Nat) (n : Int) (u : Value) (hx : a.eval x = .pointer (some ⟨g, 0, none⟩)) (hy : a.eval y = .int .i64 n) (hc : Cut w g 0 [u])
  (h : ∀ w', w.grownBy w' (some g) → w'.heap.size = w.heap.size → Cut w' g 0 [.int .i64 n] → wpList Tryz.prog ops Q rest (a.put o.dst undef) w') : wpList Tryz.prog ops Q (o :: rest) a w := by
 refine wpList_plain hgd fun K hK => ?_
 have k := hc.cell (i := 0) rfl
 have f := hc.frozen (i := 0) rfl
 rw [Nat.zero_add] at k f
 have hrun : (Instr.storeAt 3 (.pointer (some ⟨g, 0, none⟩)) (.int .i64 n)).run Tryz.prog w = .ok () (w.setCell ⟨g, 0, none⟩ (.int .i64 n)) := by go_simp
 unfold Oper.wp execOp
 simp only [ho, hx, hy, Sem.run_bind, Sem.run_pure, hrun, Result.andThen_ok]
 have hs := hc.set (i := 0) rfl (.int .i64 n)
 rw [Nat.zero_add] at hs
 exact hK _ _ (h _ (only_set (only_refl w _) (.inl rfl) _) (by simp) hs)
end
theorem zero_int : (Tryz.prog.info? 3).map (fun i => i.zero) = some (some (.int .i64 0)) := by kernel_rfl
theorem zero_lv : (Tryz.prog.info? 98).map (fun i => i.zero) = some (some (.agg ((List.range 8).map fun _ => Value.slice none 0 0).toArray)) := by kernel_rfl
theorem sz_lv : (Tryz.prog.info? 98).map (·.size) = some 8 := by kernel_rfl
def hse (lf : Crt) (cs : List Crt) : Chn.House Crt := { leaf := lf, pool := cs, sg := sgB, fit := fun c k => decide (c.path < 0) || decide ((k : Int) - 1 ≤ c.path) }
theorem hse_at (lf : Crt) (cs : List Crt) (i : Int) : (hse lf cs).at i = atC lf cs i := rfl
theorem spot_lvl {lf : Crt} {cs : List Crt} {k : Nat} {i : Int} (h : i ∈ (hse lf cs).lvl k) : Spot cs i := by
 by_cases hi : i = -1
 ·exact .inl hi
 ·exact .inr (Chn.lvl_range _ h hi)
theorem lvl_len (lf : Crt) (cs : List Crt) (hl : cs.length ≤ 16) (k : Nat) : ((hse lf cs).lvl k).length ≤ 16 := by
 cases k with
 | zero => simp [Chn.House.lvl]
 | succ k =>
  rw [Chn.House.lvl]
  refine Nat.le_trans (List.length_filter_le _ _) ?_
  simp [Chn.House.idx, hse]
  exact hl
structure CloI (sg : Int → Int → Bool) (mb : Nat) (wc U : World) : Prop where
 g : wc.grownBy U (some mb)
 t : Tbl sg U mb
section
variable {w0 wc U U' : World} {lf : Crt} {cs : List Crt} {pA : Option Addr} {pc gp op hb mb : Nat}
theorem CloI.hm (h : CloI (sgAt lf cs) mb wc U) (H : Hm w0 lf cs pA pc hb mb wc) : Hm w0 lf cs pA pc hb mb U := H.step h.g h.t
theorem CloI.row {sg : Int → Int → Bool} {g o : Nat} {vs : List Value} (h : CloI sg mb wc U) (r : Row wc g o vs) (hn : g ≠ mb) : Row U g o vs := r.keep h.g.size (h.g.block g r.1 (fun e => hn (by simpa using e)))
theorem CloI.refl {sg : Int → Int → Bool} (t : Tbl sg wc mb) : CloI sg mb wc wc := ⟨only_refl _ _, t⟩
theorem CloI.next {sg : Int → Int → Bool} {b : Bool} {e : Ending} (h : CloI sg mb wc U) (q : HsPost sg b mb U e U') : e = .returned (.bool b) ∧ CloI sg mb wc U' := ⟨q.1, only_trans h.g q.2.1, q.2.2⟩
theorem CloI.below {sg : Int → Int → Bool} (h : CloI sg mb wc U) (q : Below U.heap.size U U') : CloI sg mb wc U' := ⟨only_trans h.g (only_of_below q _), h.t.below q⟩
set_option maxRecDepth 100000 in
theorem levels1_any (P : Pool w0 lf cs pA pc gp op) (h : Hm w0 lf cs pA pc hb mb U) {g1 g4 : Nat} {x i : Int} (r1 : Row U g1 0 [.pointer (some ⟨hb, 0, none⟩)]) (r4 : Row U g4 0 [.int .i64 i]) (hx : Spot cs x) (hi : Spot cs i) :
  Calls Tryz.prog 78 #[.int .i64 x, .pointer (some ⟨g1, 0, none⟩), .pointer (some ⟨g4, 0, none⟩)] U (HsPost (sgAt lf cs) (sgAt lf cs x i) mb U) := by
 have k1 : U.cell? ⟨g1, 0, none⟩ = some (.pointer (some ⟨hb, 0, none⟩)) := r1.2 0 _ rfl
 have k4 : U.cell? ⟨g4, 0, none⟩ = some (.int .i64 i) := r4.2 0 _ rfl
 go_enter Tryz.func78, Tryz.ntmps78
 go_wp2_with fail
 refine (hsigned_any P h hx hi).mono ?_
 rintro e U' ⟨rfl, h1, h2⟩
 go_wp2_with fail
 go_ret
 exact ⟨rfl, h1, h2⟩
end
theorem cf_lv1 (vs : Array Value) (w : World) : (callFunc 78 vs).run Tryz.prog w = .ok (.enter 78 vs) w := by kernel_rfl
structure Fr (W0 w0 : World) (lf : Crt) (cs : List Crt) (pA : Option Addr) (pc hb mb g1 : Nat) (U : World) : Prop where
 hm : Hm w0 lf cs pA pc hb mb U
 r1 : Row U g1 0 [.pointer (some ⟨hb, 0, none⟩)]
 gr : W0.grownBy U (some mb)
section
variable {W0 w0 U U' : World} {lf : Crt} {cs : List Crt} {pA : Option Addr} {pc hb mb g1 : Nat}
theorem grown_fresh {W U U' : World} {mb : Nat} {r : Option Nat} (h : W.grownBy U (some mb)) (g : U.grownBy U' r) (hr : ∀ b, r = some b → W.heap.size ≤ b) : W.grownBy U' (some mb) :=
 ⟨g.os.trans h.os, g.tape.trans h.tape, g.output.trans h.output, Nat.le_trans h.size g.size, fun k hk hne => (g.block k (Nat.lt_of_lt_of_le hk h.size) (fun e => by have := hr k e.symm; omega)).trans (h.block k hk hne)⟩
theorem Fr.new (h : Fr W0 w0 lf cs pA pc hb mb g1 U) (hbW : hb < W0.heap.size) (mbW : mb < W0.heap.size) {r : Option Nat} (g : U.grownBy U' r) (hr : ∀ b, r = some b → W0.heap.size ≤ b ∧ b ≠ g1) : Fr W0 w0 lf cs pA pc hb mb g1 U' := by
 refine ⟨⟨?_, h.hm.row.keep g.size (g.block hb h.hm.row.1 (fun e => by have := (hr hb e.symm).1; omega)), h.hm.hn, h.hm.mn, h.hm.ne, h.hm.tbl.kept (g.block mb h.hm.tbl.lt (fun e => by have := (hr mb e.symm).1; omega))⟩, h.r1.keep g.size (g.block g1 h.r1.1 (fun e => (hr g1 e.symm).2 rfl)), grown_fresh h.gr g fun b e => (hr b e).1⟩
 have h1 := h.hm.below
 have h2 := h.hm.mn
 exact ⟨g.os.trans h1.os, g.tape.trans h1.tape, g.output.trans h1.output, Nat.le_trans h1.size g.size, fun k hk => (g.block k (Nat.lt_of_lt_of_le hk h1.size) (fun e => by have := (hr k e.symm).1; omega)).trans (h1.block k hk)⟩
theorem Fr.clo (h : Fr W0 w0 lf cs pA pc hb mb g1 U) (hn : g1 ≠ mb) (q : CloI (sgAt lf cs) mb U U') : Fr W0 w0 lf cs pA pc hb mb g1 U' := ⟨q.hm h.hm, q.row h.r1 hn, only_trans h.gr q.g⟩
end
def lvlP (lf : Crt) (cs : List Crt) (m ix : Nat) : List Int := ((hse lf cs).idx.take ix).filter fun i => (hse lf cs).fit ((hse lf cs).at i) (m + 1) && ((hse lf cs).lvl m).any fun c => (hse lf cs).sg ((hse lf cs).at c) ((hse lf cs).at i)
theorem idx_take (lf : Crt) (cs : List Crt) {ix : Nat} (h : ix < cs.length) : (hse lf cs).idx.take (ix + 1) = (hse lf cs).idx.take ix ++ [(ix : Int)] := by
 rw [List.take_add_one]
 congr 1
 have : (hse lf cs).pool = cs := rfl
 simp [Chn.House.idx, this, h]
theorem lvlP_no {lf : Crt} {cs : List Crt} {m ix : Nat} (h : ix < cs.length) (hf : ((hse lf cs).fit ((hse lf cs).at (ix : Int)) (m + 1) && ((hse lf cs).lvl m).any fun c => (hse lf cs).sg ((hse lf cs).at c) ((hse lf cs).at (ix : Int))) = false) : lvlP lf cs m (ix + 1) = lvlP lf cs m ix := by
 unfold lvlP
 rw [idx_take lf cs h, List.filter_append]
 simp [hf]
theorem lvlP_yes {lf : Crt} {cs : List Crt} {m ix : Nat} (h : ix < cs.length) (hf : ((hse lf cs).fit ((hse lf cs).at (ix : Int)) (m + 1) && ((hse lf cs).lvl m).any fun c => (hse lf cs).sg ((hse lf cs).at c) ((hse lf cs).at (ix : Int))) = true) : lvlP lf cs m (ix + 1) = lvlP lf cs m ix ++ [(ix : Int)] := by
 unfold lvlP
 rw [idx_take lf cs h, List.filter_append]
 simp [hf]
theorem lvlP_all {lf : Crt} {cs : List Crt} {m : Nat} : lvlP lf cs m cs.length = (hse lf cs).lvl (m + 1) := by
 unfold lvlP
 rw [Chn.House.lvl, List.take_of_length_le (by simp [Chn.House.idx, hse])]
theorem slice_of {w : World} {B : Nat} {e : TypeId} {s : Nat} {v : Value} {n : Nat} {xs : List Value} (h : w.ownsRow B e s v n xs) : ∃ A n c, v = .slice A n c := by
 rcases h.2 with ⟨h1, _⟩ | ⟨g, cap, cur, h1, _⟩
 ·exact ⟨_, _, _, h1⟩
 ·exact ⟨_, _, _, h1⟩
theorem own_base {w : World} {B B' : Nat} {e : TypeId} {s : Nat} {v : Value} {n : Nat} {xs : List Value} (h : w.ownsRow B e s v n xs) (hB : B' ≤ B) : w.ownsRow B' e s v n xs := by
 refine ⟨h.1, h.2.imp id ?_⟩
 rintro ⟨g, cap, cur, h1, h2, h3⟩
 exact ⟨g, cap, cur, h1, Nat.le_trans hB h2, h3⟩
theorem lv_one {W : World} {B g2 : Nat} {V : Nat → Value} {L : Nat → List Int} (h : Lv W B g2 V L) (u : Value) (hu : u ∈ (List.range 8).map V) : u.oneCell' = true := by
 obtain ⟨j, hj, rfl⟩ := List.mem_map.1 hu
 obtain ⟨A, n, c, e⟩ := slice_of (h.own j (List.mem_range.1 hj))
 rw [e]
 rfl
theorem lit_cell (W : World) (v : Value) (t : TypeId) : (W.alloc (.cells #[v] t)).cell? ⟨W.heap.size, 0, none⟩ = some v := by
 have h := heap_alloc_new W (.cells #[v] t)
 unfold World.cell?
 rw [show (W.alloc (.cells #[v] t)).heap[(⟨W.heap.size, 0, none⟩ : Addr).block]? = _ from h]
 rfl
theorem ia_lv (g m : Nat) (hm : m + 1 < 8) (W : World) : (Instr.indexAt 98 (.pointer (some ⟨g, 0, none⟩)) (.int .i64 ((m : Int) + 1))).run Tryz.prog W = .ok (.pointer (some ⟨g, m + 1, none⟩)) W := by
 have h1 : (0 : Int) ≤ (m : Int) + 1 ∧ (m : Int) + 1 < 8 := by omega
 have h2 : (m : Int) + 1 < 8 := by omega
 have h3 : (0 : Int) ≤ (m : Int) + 1 := by omega
 have h4 : ((m : Int) + 1).toNat = m + 1 := by omega
 go_simp
theorem ld_isl (p : Addr) (v : Value) : ∀ W : World, W.cell? p = some v → (Instr.loadAt 97 (.pointer (some p))).run Tryz.prog W = .ok v W := fun W h => by go_simp
def LevPost (W : World) (mb : Nat) (lf : Crt) (cs : List Crt) (e : Ending) (W' : World) : Prop := ∃ V : Nat → Value, e = .returned (.agg ((List.range 8).map V).toArray) ∧ W.grownBy W' (some mb) ∧ Tbl (sgAt lf cs) W' mb ∧
 ∀ j, j < 8 → W'.ownsRow W.heap.size 3 1 (V j) ((hse lf cs).lvl j).length (((hse lf cs).lvl j).map intV)
def lvT (g2 g7 m : Nat) (ix : Int) (vk : Value) : Nat → Tg
 | 0 => tv (.int .i64 ((m : Int) + 1))
 | 1 => tv (.int .i64 ((m : Int) + 1))
 | 2 => tv (.pointer (some ⟨g2, m + 1, none⟩))
 | 3 => tv vk
 | 4 => tv (.int .i64 ix)
 | 5 => tv (.slice (some ⟨g7, 0, none⟩) 1 1)
 | 7 => tv (.pointer (some ⟨g2, m + 1, none⟩))
 | _ => fun _ _ => True
theorem stat_lv (g2 g7 m : Nat) (ix : Int) (vk : Value) : Static (lvT g2 g7 m ix vk) := fun j x W W' h => by
 unfold lvT at *
 split at h <;> exact h
def lvG (W0 w0 : World) (lf : Crt) (cs : List Crt) (pA : Option Addr) (pc hb mb g1 g2 g7 m : Nat) (ix : Int) (V : Nat → Value) (L : Nat → List Int) (w9 : World) (d : Nat → Bool) (v : Nat → Value) (W : World) : Prop := match d 5, d 6, d 8 with
 | false, false, false => Below w9.heap.size w9 W ∧ W.heap.size = g7
 | true, false, false => Below w9.heap.size w9 W ∧ W.cell? ⟨g7, 0, none⟩ = some (.int .i64 ix)
 | true, true, false => ∃ U, Below w9.heap.size w9 U ∧ W.ownsRow (g2 + 1) 3 1 (v 6) (L (m + 1) ++ [ix]).length ((L (m + 1) ++ [ix]).map intV) ∧ U.grownBy W (V (m + 1)).ownBlock ∧ ((v 6).ownBlock = (V (m + 1)).ownBlock ∨ (v 6).ownBlock = some U.heap.size)
 | true, true, true => Lv W (g2 + 1) g2 (put1 V (m + 1) (v 6)) (put1 L (m + 1) (L (m + 1) ++ [ix])) ∧ Fr W0 w0 lf cs pA pc hb mb g1 W
 | _, _, _ => False
theorem lvG_g {W0 w0 : World} {lf : Crt} {cs : List Crt} {pA : Option Addr} {pc hb mb g1 g2 g7 m : Nat} {ix : Int} {V : Nat → Value} {L : Nat → List Int} {w9 W : World} {d : Nat → Bool} {v : Nat → Value} (h6 : d 6 = false)
  (h : lvG W0 w0 lf cs pA pc hb mb g1 g2 g7 m ix V L w9 d v W) : Below w9.heap.size w9 W := by
 unfold lvG at h
 rw [h6] at h
 cases h5 : d 5 <;> cases h8 : d 8 <;> rw [h5, h8] at h
 ·exact h.1
 ·exact h.elim
 ·exact h.1
 ·exact h.elim
theorem lvG_f {W0 w0 : World} {lf : Crt} {cs : List Crt} {pA : Option Addr} {pc hb mb g1 g2 g7 m : Nat} {ix : Int} {V : Nat → Value} {L : Nat → List Int} {w9 W : World} {d : Nat → Bool} {v : Nat → Value} (h5 : d 5 = false)
  (h : lvG W0 w0 lf cs pA pc hb mb g1 g2 g7 m ix V L w9 d v W) : Below w9.heap.size w9 W ∧ W.heap.size = g7 := by
 unfold lvG at h
 rw [h5] at h
 cases h6 : d 6 <;> cases h8 : d 8 <;> rw [h6, h8] at h
 ·exact h
 ·exact h.elim
 ·exact h.elim
 ·exact h.elim
set_option maxRecDepth 100000 in
set_option maxHeartbeats 4000000 in
theorem levels_any {w0 : World} {lf : Crt} {cs : List Crt} {pA : Option Addr} {pc gp op hb mb : Nat} {W : World} (P : Pool w0 lf cs pA pc gp op) (H : Hm w0 lf cs pA pc hb mb W) :
  Calls Tryz.prog 47 #[.pointer (some ⟨hb, 0, none⟩)] W (LevPost W mb lf cs) := by
 obtain ⟨w1, hw1⟩ : ∃ u, u = W.alloc (.cells #[.pointer (some ⟨hb, 0, none⟩)] 95) := ⟨_, rfl⟩
 obtain ⟨g1, hg1⟩ : ∃ g, g = W.heap.size := ⟨_, rfl⟩
 have e1 : Below W.heap.size W w1 := by rw [hw1]; exact (Below.refl _ _).alloc (Nat.le_refl _) _
 have z1 : w1.heap.size = g1 + 1 := by rw [hw1, hg1]; simp
 have R1 : Row w1 g1 0 [.pointer (some ⟨hb, 0, none⟩)] := by rw [hw1, hg1]; exact row_new _
 have hbW := H.row.1
 have mbW := H.tbl.lt
 have hlen := P.len
 go_enter Tryz.func47, Tryz.ntmps47
 go_upto_region 1 with ((with_reducible refine wpList_alloc_row ?_ 98 ?_ ((List.range 8).map fun _ => Value.slice none 0 0) zero_lv ?_); (· rfl); (· rfl); intro g2 w2 hg2 V2 z2 e2)
 rw [← hw1] at hg2 e2 z2
 rw [← hg1]
 clear hw1
 have hg2' : g2 = g1 + 1 := by rw [hg2.out, z1]
 replace hg1 := Lib.hid hg1
 replace hg2' := Lib.hid hg2'
 have lv2 : Lv w2 (g2 + 1) g2 (fun _ => .slice none 0 0) (fun _ => []) := Lv.none V2 (Nat.lt_succ_self _)
 go_upto_region 2 with (first
  | (refine wpList_bs1 rfl (.const (.int .i64 (-1))) rfl rfl ?_; intro g3 w3 hg3 hh3 z3 e3)
  | (refine wpList_store_sl rfl (.tmp 8) (.tmp 7) rfl g2 0 _ (.slice (some ⟨g3, 0, none⟩) 1 1) rfl rfl ⟨_, _, _, rfl⟩ (V2.below e3) (by simp) ?_; intro w4 gr4 z4 V4))
 have own3 : w3.ownsRow (g2 + 1) 3 1 (.slice (some ⟨g3, 0, none⟩) 1 1) [(-1 : Int)].length ([(-1 : Int)].map intV) := ⟨rfl, .inr ⟨g3, 1, #[.int .i64 (-1)], rfl, by have := hg3.out; have := hg2.out; omega, hh3, Nat.le_refl _, by decide, rfl, rfl⟩⟩
 have lv4 := lv2.put (k := 0) (by omega) own3 (only_of_below e3 _) (.inr (by show some g3 = _; rw [hg3.out])) gr4 V4
 have fr1 : Fr W w0 lf cs pA pc hb mb g1 w1 := ⟨H.grow e1, R1, only_of_below e1 _⟩
 have fr4 : Fr W w0 lf cs pA pc hb mb g1 w4 := ((fr1.new hbW mbW (only_of_below e2 none) (fun b e => by cases e)).new hbW mbW (only_of_below e3 none) (fun b e => by cases e)).new hbW mbW gr4 (fun b e => by cases e; exact ⟨by have := hg1.out; have := hg2'.out; omega, by have := hg2'.out; omega⟩)
 clear fr1 lv2 own3 gr4 V4 hh3 hg3 z3 e3 z4 V2 hg2 z2 e2 R1 e1 z1
 go_wp2_with fail
 go_loopw [3] (fun t wr => ∃ (m : Nat) (V : Nat → Value) (L : Nat → List Int), t = .int .i64 ((m : Int) + 1) ∧ m ≤ 7 ∧ (∀ j, j ≤ m → L j = (hse lf cs).lvl j) ∧ (∀ j, m < j → L j = []) ∧ Lv wr (g2 + 1) g2 V L ∧ Fr W w0 lf cs pA pc hb mb g1 wr) (fun t _ => 9 - (intOf t).toNat)
 case atStart => exact ⟨0, _, _, rfl, by omega, fun j hj => by obtain rfl : j = 0 := by { omega }; rfl, fun j hj => by simp [put1, Nat.pos_iff_ne_zero.1 hj], lv4, fr4⟩
 case round =>
  obtain ⟨m, V, L, rfl, hm, hL, hN, lv, fr⟩ := hrel
  have z6 : (m : Int) ≤ 7 := by omega
  by_cases hlt : m < 7
  ·have z7 : (m : Int) + 1 < 8 := by omega
   have k1 : wr.cell? ⟨g1, 0, none⟩ = some (.pointer (some ⟨hb, 0, none⟩)) := fr.r1.2 0 _ rfl
   have kp := fr.hm.pool
   go_wp2_with fail
   clear k1 kp
   go_loopw [18] (fun t wr => ∃ (ix : Nat) (V : Nat → Value) (L : Nat → List Int), t = .int .i64 (ix : Int) ∧ ix ≤ cs.length ∧ (∀ j, j ≤ m → L j = (hse lf cs).lvl j) ∧ (∀ j, m + 1 < j → L j = []) ∧ L (m + 1) = lvlP lf cs m ix ∧ Lv wr (g2 + 1) g2 V L ∧ Fr W w0 lf cs pA pc hb mb g1 wr) (fun t _ => cs.length - (intOf t).toNat)
   case atStart => exact ⟨0, V, L, rfl, Nat.zero_le _, hL, fun j hj => hN j (by omega), by rw [hN _ (by omega)]; rfl, lv, fr⟩
   case round =>
    clear lv fr hL hN V L
    obtain ⟨ix, V, L, rfl, hi, hL, hN, hP, lv, fr⟩ := hrel
    have z8 : (ix : Int) ≤ 16 := by omega
    by_cases hix : ix < cs.length
    ·have z9 : (ix : Int) < (cs.length : Int) := by omega
     obtain ⟨c, hc⟩ : ∃ c, cs[ix]? = some c := ⟨_, List.getElem?_eq_getElem hix⟩
     have hA := P.A.resolve_left (by rintro rfl; simp at hix)
     have Rc := crt_row (P.row.below fr.hm.below) hc
     have kc := Rc.rng
     subst hA
     go_upto_region 8 with (first
      | ((with_reducible refine wpList_load_mid ?_ 30 (.tmp 21) ?_ gp (op + ix * 24) ?_ c.cells _ kc Tryz.underlying30 ?_ (sz_crt _) ?_); (· rfl); (· rfl); (· rfl); (· rfl))
      | ((with_reducible refine wpList_alloc_one ?_ 3 ?_ (.int .i64 0) ?_ zero_int ?_); (· rfl); (· rfl); (· rfl); intro g4 w5 hg4 C4 z5 e5)
      | ((with_reducible refine wpList_alloc_row ?_ 30 ?_ Crt.none.cells zero_cert ?_); (· rfl); (· rfl); intro g5 w6 hg5 C5 z6 e6)
      | ((with_reducible refine wpList_store_int ?_ (.tmp 4) (.tmp 20) ?_ g4 (ix : Int) _ ?_ ?_ (C4.below e6) ?_); (· rfl); (· rfl); (· rfl); (· rfl); intro w7 gr7 z7 D4)
      | ((with_reducible refine wpList_store_cut ?_ 30 (.tmp 5) (.tmp 22) ?_ g5 0 c.cells _ ?_ ?_ (C5.grown gr7 (fun e => (by have := hg4.out; have := hg5.out; have := C4.lt; have e := Option.some.inj e; omega : False).elim)) ?_ (sz_crt _) (crt_one _) ?_); (· rfl); (· rfl); (· rfl); (· rfl); (· rfl); intro w8 hst))
     have hs5 := e5.size
     have e57 : Below wr.heap.size wr w7 := below_only (e5.trans (e6.mono e5.size)) gr7 (e5.trans (e6.mono e5.size)).size (by have := hg4.out; omega)
     have e8 : Below wr.heap.size wr w8 := below_only e57 hst.1 e57.size (by have := hg5.out; omega)
     have ne45 : g4 ≠ g5 := by have := C4.lt; have := hg5.out; omega
     have D4 : Row w8 g4 0 [.int .i64 (ix : Int)] := Row.of_cut (D4.grown hst.1 (fun e => ne45 (Option.some.inj e).symm))
     have D5 : Row w8 g5 0 c.cells := Row.of_cut hst.2.2.1
     have gn4 : W.heap.size ≤ g4 := by have := fr.gr.size; have := hg4.out; omega
     have lv8 := lv.below e8
     have fr8 := fr.new hbW mbW (only_of_below e8 none) (fun b e => by cases e)
     clear hst gr7 e57 e6 e5 C4 C5 Rc kc lv fr hs5
     have kpath : w8.cell? ⟨g5, 21, none⟩ = some (.int .i64 c.path) := D5.cell (i := 21) rfl
     go_frame
     obtain ⟨f, hf⟩ : ∃ f, f = (decide (c.path < 0) || decide ((m : Int) ≤ c.path)) := ⟨_, rfl⟩
     go_cut [6] from 23 to 32 (fun s6 wx => s6 = .bool f ∧ wx = w8)
     case first =>
      replace hf := Lib.hid hf
      by_cases h1 : c.path < 0
      ·go_wp2_with fail
       go_meet
       case rel => exact ⟨by rw [hf.out, decide_eq_true h1]; rfl, rfl⟩
      ·have h2 : ¬ c.path < 0 := h1
       go_wp2_with fail
       go_meet
       case rel => exact ⟨by rw [hf.out, decide_eq_false (show ¬ c.path < 0 by omega)]; rfl, rfl⟩
     case rest =>
      obtain ⟨rfl, hw⟩ := hcut
      rw [hw]
      clear hw kpath
      replace hf := Lib.hid hf
      have hS : (hse lf cs).fit ((hse lf cs).at (ix : Int)) (m + 1) = f := by
       rw [hse_at, show atC lf cs (ix : Int) = c by unfold atC; rw [if_neg (by omega), Int.toNat_natCast, hc]; rfl]
       rw [hf.out]
       show (decide (c.path < 0) || decide (((m + 1 : Nat) : Int) - 1 ≤ c.path)) = _
       rw [show ((m + 1 : Nat) : Int) - 1 = (m : Int) by omega]
      replace hS := Lib.hid hS
      cases f
      case false =>
       go_wp2_with fail
       go_roundw
       case rel => exact ⟨ix + 1, V, L, by go_num, by omega, hL, hN, by rw [hP, lvlP_no hix (by rw [hS.out]; rfl)], lv8, fr8⟩
       case measure =>
        simp [intOf]
        omega
      case true =>
       obtain ⟨A, c0, hV, hcap, hcm, hrd⟩ := own_rd (lv8.own m (by omega))
       rw [hL m (Nat.le_refl _)] at hV hcap hrd
       have kV : w8.cell? ⟨g2, m, none⟩ = some (.slice A ((hse lf cs).lvl m).length c0) := by rw [← hV]; exact lv8.at (by omega)
       have hll := lvl_len lf cs hlen m
       have hAb : ∀ U, CloI (sgAt lf cs) mb w8 U → RdI U A ((hse lf cs).lvl m) := fun U q => by
        rcases hrd with h0 | ⟨b, o, h1, h2⟩
        ·exact .inl h0
        ·refine .inr ⟨b, o, h1, q.row h2 ?_⟩
         rintro rfl
         rcases hq : (hse lf cs).lvl m with _ | ⟨x, l⟩
         ·have h3 := lv8.own m (by omega)
          have h4 := (h3.lt b (by rw [hV, h1]; rfl)).1
          have := hg1.out
          have := hg2'.out
          omega
         ·have h3 := lv8.own m (by omega)
          have h4 := (h3.lt b (by rw [hV, h1]; rfl)).1
          have := hg1.out
          have := hg2'.out
          omega
       have hq := containsI_any 78 #[.pointer (some ⟨g1, 0, none⟩), .pointer (some ⟨g4, 0, none⟩)] cf_lv1 (CloI (sgAt lf cs) mb w8) (fun x => sgAt lf cs x (ix : Int)) A _ c0 ((hse lf cs).lvl m) rfl (by omega) hAb (fun U x hx q => (levels1_any P (q.hm fr8.hm) (q.row fr8.r1 (by have := hg1.out; omega)) (q.row D4 (by omega)) (spot_lvl hx) (.inr ⟨by omega, by omega⟩)).mono fun e U' h => q.next h) w8 (CloI.refl fr8.hm.tbl)
       obtain ⟨an, han⟩ : ∃ b, b = ((hse lf cs).lvl m).any (fun x => sgAt lf cs x (ix : Int)) := ⟨_, rfl⟩
       rw [← han] at hq
       replace han := Lib.hid han
       clear hV hcap hcm hrd hAb
       generalize ((hse lf cs).lvl m).length = nn at kV hq hll
       go_wp2_with fail
       clear kV
       refine hq.mono ?_
       clear hq
       rintro e w9 ⟨rfl, q9⟩
       have fr9 := fr8.clo (by have := hg1.out; omega) q9
       have lv9 := lv8.kept q9.g (fun b e => by cases e; have := hg1.out; have := hg2'.out; exact ⟨by omega, by omega⟩)
       have D49 := q9.row D4 (by omega)
       clear lv8 fr8 D4 D5 q9
       cases an
       case false =>
        go_wp2_with fail
        go_roundw
        case rel => exact ⟨ix + 1, V, L, by go_num, by omega, hL, hN, by rw [hP, lvlP_no hix (by rw [hS.out, show ((hse lf cs).lvl m).any (fun c => (hse lf cs).sg ((hse lf cs).at c) ((hse lf cs).at (ix : Int))) = false from han.out.symm]; rfl)], lv9, fr9⟩
        case measure =>
         simp [intOf]
         omega
       case true =>
        obtain ⟨g7, hg7⟩ : ∃ g, g = w9.heap.size := ⟨_, rfl⟩
        replace hg7 := Lib.hid hg7
        have hPl : (L (m + 1)).length ≤ 16 := by
         rw [hP]
         unfold lvlP
         refine Nat.le_trans (List.length_filter_le _ _) ?_
         rw [List.length_take]
         omega
        have B9 : g2 + 1 ≤ w9.heap.size := by have := lv9.arr.lt; omega
        have k44 : ∀ U : World, Below w9.heap.size w9 U → U.cell? ⟨g4, 0, none⟩ = some (.int .i64 (ix : Int)) := fun U b => (D49.below b).2 0 _ rfl
        obtain ⟨gv, hgv⟩ : ∃ v, v = V (m + 1) := ⟨_, rfl⟩
        replace hgv := Lib.hid hgv
        go_upto_region 10 with fail
        refine wp_region_eff (by kernel_rfl) (fun i => i == 5 || i == 6 || i == 8) (fun i => i == 8) (fun i => if i = 8 then 1008 else 42 + i) (lvT g2 g7 m (ix : Int) (V (m + 1))) (lvG W w0 lf cs (some ⟨gp, op, none⟩) pc hb mb g1 g2 g7 m (ix : Int) V L w9) (by kernel_rfl) (by kernel_rfl) ?hno ?inj ?hEs ?hGe ?hG ⟨?s0, ?s1, ?s2, ?s3, ?s4, ?s5, ?s6, ?s7, ?s8, trivial⟩ ?fin
        case hno =>
         intro i h v W
         have h : (i == 8) = true := h
         simp at h
         subst h; trivial
        case inj =>
         intro i j hi hj h
         have h40 : i < 9 ∧ j < 9 := ⟨hi, hj⟩
         have h : (if i = 8 then 1008 else 42 + i) = (if j = 8 then 1008 else 42 + j) := h
         (repeat' split at h) <;> omega
        case hEs =>
         intro j h
         have h : (j == 5 || j == 6 || j == 8) = true := h
         show j < 9
         simp at h
         omega
        case hGe => exact fun d d' x x' U h h6 hg => by unfold lvG at *; rw [← h 5 rfl, ← h 6 rfl, ← h 8 rfl, ← h6 6 rfl]; exact hg
        case hG => exact fun x => ⟨below_drewN (Below.refl _ _) 1, hg7.out.symm⟩
        case s0 => exact fun d_ v_ hd_ hc_ => (st_move rfl (.inl rfl) (src_base (fun i hi => by have hi : i < 9 := hi; show (if i = 8 then 1008 else 42 + i) ≠ 3; (repeat' split) <;> omega) rfl))
        case s1 => exact fun d_ v_ hd_ hc_ => (st_move rfl (.inl rfl) (src_base (fun i hi => by have hi : i < 9 := hi; show (if i = 8 then 1008 else 42 + i) ≠ 3; (repeat' split) <;> omega) rfl))
        case s2 => exact fun d_ v_ hd_ hc_ => (st_run rfl (fun a U hba hd hg => ⟨.pointer (some ⟨g2, m + 1, none⟩), U, by
          have u1 : a.eval (.tmp 43) = .int .i64 ((m : Int) + 1) := (hd ⟨1, .data⟩ (by simp) rfl).now
          have u2 : a.eval (.tmp 2) = .pointer (some ⟨g2, 0, none⟩) := (hba 2 (fun i hi => by have hi : i < 9 := hi; show (if i = 8 then 1008 else 42 + i) ≠ 2; split <;> omega)).trans rfl
          unfold execOp
          simp only [u1, u2, ia_lv g2 m (by omega), Sem.run_bind, Sem.run_pure, Result.andThen_ok], Sub.refl U, hg, Sp.tv rfl⟩))
        case s3 => exact fun d_ v_ hd_ hc_ => (st_run rfl (fun a U hba hd hg => by
          have u1 : a.eval (.tmp 44) = .pointer (some ⟨g2, m + 1, none⟩) := (hd ⟨2, .data⟩ (by simp) rfl).now
          have h6 : d_ 6 = false := by
           cases h6 : d_ 6 with
           | false => rfl
           | true =>
            have := hc_ 6 _ rfl h6 ⟨3, .data⟩ (by simp) rfl
            rw [hd_] at this
            exact Bool.noConfusion this
          have hb9 : Below w9.heap.size w9 U := lvG_g h6 hg
          have k45 : U.cell? ⟨g2, m + 1, none⟩ = some (V (m + 1)) := (lv9.below hb9).at (by omega)
          refine ⟨V (m + 1), U, ?_, Sub.refl U, hg, Sp.tv rfl⟩
          unfold execOp
          simp only [u1, Sem.run_bind, Sem.run_pure, ld_isl _ _ U k45, Result.andThen_ok]))
        case s4 => exact fun d_ v_ hd_ hc_ => (st_load rfl rfl rfl (src_base (fun i hi => by have hi : i < 9 := hi; show (if i = 8 then 1008 else 42 + i) ≠ 4; split <;> omega) rfl) (ld_int _ _) (fun U h => by
          have h5 : d_ 5 = false := by
           cases h5 : d_ 5 with
           | false => rfl
           | true =>
            have := hc_ 5 _ rfl h5 ⟨4, .data⟩ (by simp) rfl
            rw [hd_] at this
            exact Bool.noConfusion this
          exact k44 U (lvG_f h5 h).1))
        case s5 =>
         refine eff_run rfl fun d a U hd hba hdp hal hG => ?_
         have u1 : a.eval (.tmp 46) = .int .i64 (ix : Int) := (hdp ⟨4, .data⟩ (by simp) rfl).now
         unfold lvG at hG
         rw [hd] at hG
         cases h6 : d 6 with
         | true =>
          rw [h6] at hG
          cases h8 : d 8 with
          | false => rw [h8] at hG; exact hG.elim
          | true => rw [h8] at hG; exact hG.elim
         | false =>
          cases h8 : d 8 with
          | true => rw [h6, h8] at hG; exact hG.elim
          | false =>
           rw [h6, h8] at hG
           obtain ⟨q1, q2⟩ : Below w9.heap.size w9 U ∧ U.heap.size = g7 := hG
           refine ⟨_, _, bs1_int rfl a U u1, (stat_lv _ _ _ _ _).sp (by rw [q2]; rfl), (stat_lv _ _ _ _ _).keep 5, fun v' _ _ => ?_⟩
           unfold lvG
           rw [show done1 d 5 5 = true from rfl, show done1 d 5 6 = false from h6, show done1 d 5 8 = false from h8]
           refine ⟨q1.alloc q1.size _, ?_⟩
           rw [← q2]
           exact lit_cell _ _ _
        case s6 =>
         refine eff_run rfl fun d a U hd hba hdp hal hG => ?_
         have d5 : d 5 = true := hal ⟨5, .data⟩ (by simp) rfl
         have u1 : a.eval (.tmp 45) = V (m + 1) := (hdp ⟨3, .data⟩ (by simp) rfl).now
         have u2 : a.eval (.tmp 47) = .slice (some ⟨g7, 0, none⟩) 1 1 := (hdp ⟨5, .data⟩ (by simp) rfl).now
         unfold lvG at hG
         rw [hd, d5] at hG
         cases h8 : d 8 with
         | true => rw [h8] at hG; exact hG.elim
         | false =>
          rw [h8] at hG
          obtain ⟨q1, q2⟩ : Below w9.heap.size w9 U ∧ U.cell? ⟨g7, 0, none⟩ = some (.int .i64 (ix : Int)) := hG
          refine (app_int (by rfl) a U u1 u2 (((lv9.below q1)).own (m + 1) (by omega)) q2 (by omega) (Nat.le_trans B9 q1.size)).elim fun v' hh => hh.elim fun U' hh => ⟨v', U', hh.1, (stat_lv _ _ _ _ _).sp trivial, (stat_lv _ _ _ _ _).keep 6, fun vv _ hv => ?_⟩
          obtain ⟨_, h1, h2, h3⟩ := hh
          unfold lvG
          rw [show done1 d 6 5 = true from d5, show done1 d 6 6 = true from rfl, show done1 d 6 8 = false from h8, hv (by simp)]
          exact ⟨U, q1, by simpa [intV] using h1, h2, h3⟩
        case s7 => exact fun d_ v_ hd_ hc_ => (st_run rfl (fun a U hba hd hg => ⟨.pointer (some ⟨g2, m + 1, none⟩), U, by
          have u1 : a.eval (.tmp 42) = .int .i64 ((m : Int) + 1) := (hd ⟨0, .data⟩ (by simp) rfl).now
          have u2 : a.eval (.tmp 2) = .pointer (some ⟨g2, 0, none⟩) := (hba 2 (fun i hi => by have hi : i < 9 := hi; show (if i = 8 then 1008 else 42 + i) ≠ 2; split <;> omega)).trans rfl
          unfold execOp
          simp only [u1, u2, ia_lv g2 m (by omega), Sem.run_bind, Sem.run_pure, Result.andThen_ok], Sub.refl U, hg, Sp.tv rfl⟩))
        case s8 =>
         intro d a U hd hba hdp hal hG K hK
         have d5 : d 5 = true := hal ⟨5, .phase⟩ (by simp) rfl
         have d6 : d 6 = true := hal ⟨6, .data⟩ (by simp) rfl
         have u1 : a.eval (.tmp 49) = .pointer (some ⟨g2, m + 1, none⟩) := (hdp ⟨7, .data⟩ (by simp) rfl).now
         unfold lvG at hG
         rw [hd, d5, d6] at hG
         obtain ⟨U0, q1, q2, q3, q4⟩ := hG
         have q2 : U.ownsRow (g2 + 1) 3 1 (a.tmps.getD 48 undef) (L (m + 1) ++ [(ix : Int)]).length ((L (m + 1) ++ [(ix : Int)]).map intV) := q2
         have q3 : U0.grownBy U (V (m + 1)).ownBlock := q3
         have q4 : (a.tmps.getD 48 undef).ownBlock = (V (m + 1)).ownBlock ∨ (a.tmps.getD 48 undef).ownBlock = some U0.heap.size := q4
         have lvU := lv9.below q1
         have frU := fr9.new hbW mbW (only_of_below q1 none) (fun b e => by cases e)
         have hblk : ∀ b, (V (m + 1)).ownBlock = some b → g2 + 1 ≤ b := fun b e => ((lvU.own (m + 1) (by omega)).lt b e).1
         have frU1 := frU.new hbW mbW q3 (fun b e => by have := hblk b e; have := hg1.out; have := hg2'.out; exact ⟨by omega, by omega⟩)
         have C2 := lvU.arr.grown q3 (fun e => by have := hblk _ e; omega)
         refine step_store_sl rfl (.tmp 49) (.tmp 48) rfl g2 (m + 1) _ (a.tmps.getD 48 undef) u1 rfl (slice_of q2) C2 (by simp; omega) (fun w' gr _ hcut => hK undef w' (fun _ _ => trivial) ((stat_lv _ _ _ _ _).keep 8) (fun v' hv _ => ?_))
         unfold lvG
         rw [show done1 d 8 5 = true from d5, show done1 d 8 6 = true from d6, show done1 d 8 8 = true from rfl, hv 6 (by omega) rfl]
         refine ⟨lvU.put (by omega) q2 q3 q4 gr hcut, frU1.new hbW mbW gr (fun b e => by cases e; have := hg1.out; have := hg2'.out; exact ⟨by omega, by omega⟩)⟩
        case fin =>
         intro a wz h1 h2 h3 h4 h5
         have hz : a.tmps.size = 52 := h2
         have hdf : a.defers = [] := h1
         have b0 := h3 0 (fun i hi => by have h8 : i < 9 := hi; show (if i = 8 then 1008 else 42 + i) ≠ 0; (repeat' split) <;> omega)
         replace b0 : a.tmps.getD 0 undef = .pointer (some ⟨hb, 0, none⟩) := b0
         have b1 := h3 1 (fun i hi => by have h8 : i < 9 := hi; show (if i = 8 then 1008 else 42 + i) ≠ 1; (repeat' split) <;> omega)
         replace b1 : a.tmps.getD 1 undef = .pointer (some ⟨g1, 0, none⟩) := b1
         have b2 := h3 2 (fun i hi => by have h8 : i < 9 := hi; show (if i = 8 then 1008 else 42 + i) ≠ 2; (repeat' split) <;> omega)
         replace b2 : a.tmps.getD 2 undef = .pointer (some ⟨g2, 0, none⟩) := b2
         have b3 := h3 3 (fun i hi => by have h8 : i < 9 := hi; show (if i = 8 then 1008 else 42 + i) ≠ 3; (repeat' split) <;> omega)
         replace b3 : a.tmps.getD 3 undef = .int .i64 ((m : Int) + 1) := b3
         have b7 := h3 7 (fun i hi => by have h8 : i < 9 := hi; show (if i = 8 then 1008 else 42 + i) ≠ 7; (repeat' split) <;> omega)
         replace b7 : a.tmps.getD 7 undef = .slice (some ⟨g3, 0, none⟩) 1 1 := b7
         have b8 := h3 8 (fun i hi => by have h8 : i < 9 := hi; show (if i = 8 then 1008 else 42 + i) ≠ 8; (repeat' split) <;> omega)
         replace b8 : a.tmps.getD 8 undef = .pointer (some ⟨g2, 0, none⟩) := b8
         have b9 := h3 9 (fun i hi => by have h8 : i < 9 := hi; show (if i = 8 then 1008 else 42 + i) ≠ 9; (repeat' split) <;> omega)
         replace b9 : a.tmps.getD 9 undef = .int .i64 ((m : Int) + 1) := b9
         have b10 := h3 10 (fun i hi => by have h8 : i < 9 := hi; show (if i = 8 then 1008 else 42 + i) ≠ 10; (repeat' split) <;> omega)
         replace b10 : a.tmps.getD 10 undef = .bool true := b10
         have b11 := h3 11 (fun i hi => by have h8 : i < 9 := hi; show (if i = 8 then 1008 else 42 + i) ≠ 11; (repeat' split) <;> omega)
         replace b11 : a.tmps.getD 11 undef = u11 := b11
         have b12 := h3 12 (fun i hi => by have h8 : i < 9 := hi; show (if i = 8 then 1008 else 42 + i) ≠ 12; (repeat' split) <;> omega)
         replace b12 : a.tmps.getD 12 undef = u12 := b12
         have b13 := h3 13 (fun i hi => by have h8 : i < 9 := hi; show (if i = 8 then 1008 else 42 + i) ≠ 13; (repeat' split) <;> omega)
         replace b13 : a.tmps.getD 13 undef = .pointer (some ⟨hb, 0, none⟩) := b13
         have b14 := h3 14 (fun i hi => by have h8 : i < 9 := hi; show (if i = 8 then 1008 else 42 + i) ≠ 14; (repeat' split) <;> omega)
         replace b14 : a.tmps.getD 14 undef = .pointer (some ⟨hb, 0, none⟩) := b14
         have b15 := h3 15 (fun i hi => by have h8 : i < 9 := hi; show (if i = 8 then 1008 else 42 + i) ≠ 15; (repeat' split) <;> omega)
         replace b15 : a.tmps.getD 15 undef = .pointer (some ⟨hb, 24, none⟩) := b15
         have b16 := h3 16 (fun i hi => by have h8 : i < 9 := hi; show (if i = 8 then 1008 else 42 + i) ≠ 16; (repeat' split) <;> omega)
         replace b16 : a.tmps.getD 16 undef = .slice (some ⟨gp, op, none⟩) cs.length pc := b16
         have b17 := h3 17 (fun i hi => by have h8 : i < 9 := hi; show (if i = 8 then 1008 else 42 + i) ≠ 17; (repeat' split) <;> omega)
         replace b17 : a.tmps.getD 17 undef = .int .i64 (cs.length : Int) := b17
         have b18 := h3 18 (fun i hi => by have h8 : i < 9 := hi; show (if i = 8 then 1008 else 42 + i) ≠ 18; (repeat' split) <;> omega)
         replace b18 : a.tmps.getD 18 undef = .int .i64 (ix : Int) := b18
         have b51 := h3 51 (fun i hi => by have h8 : i < 9 := hi; show (if i = 8 then 1008 else 42 + i) ≠ 51; (repeat' split) <;> omega)
         replace b51 : a.tmps.getD 51 undef = undef := b51
         rw [act_eq hz hdf]
         simp only [show List.range 52 = [0, 1, 2, 3, 4, 5, 6, 7, 8, 9, 10, 11, 12, 13, 14, 15, 16, 17, 18, 19, 20, 21, 22, 23, 24, 25, 26, 27, 28, 29, 30, 31, 32, 33, 34, 35, 36, 37, 38, 39, 40, 41, 42, 43, 44, 45, 46, 47, 48, 49, 50, 51] from rfl, List.map_cons, List.map_nil, b0, b1, b2, b3, b7, b8, b9, b10, b11, b12, b13, b14, b15, b16, b17, b18, b51]
         clear b0 b1 b2 b3 b7 b8 b9 b10 b11 b12 b13 b14 b15 b16 b17 b18 b51 hz hdf h1 h2 h3 h4
         obtain ⟨lvz, frz⟩ := h5
         go_wp2_with fail
         go_roundw
         case rel => exact ⟨ix + 1, _, put1 L (m + 1) (L (m + 1) ++ [(ix : Int)]), by go_num, by omega, fun j hj => by simp only [put1]; rw [if_neg (by omega)]; exact hL j hj, fun j hj => by simp only [put1]; rw [if_neg (by omega)]; exact hN j hj, by simp only [put1, if_true]; rw [hP, lvlP_yes hix (by rw [hS.out, show ((hse lf cs).lvl m).any (fun c => (hse lf cs).sg ((hse lf cs).at c) ((hse lf cs).at (ix : Int))) = true from han.out.symm]; rfl)], lvz, frz⟩
         case measure =>
          simp [intOf]
          omega
    ·have z9 : ¬ (ix : Int) < (cs.length : Int) := by omega
     obtain rfl : ix = cs.length := by omega
     go_wp2_with fail
     go_roundw
     case rel => exact ⟨m + 1, V, L, by go_num, by omega, fun j hj => by
                                 by_cases h : j ≤ m
                                 ·exact hL j h
                                 ·obtain rfl : j = m + 1 := by omega
                                  rw [hP, lvlP_all], hN, lv, fr⟩
     case measure =>
      simp [intOf]
      omega
  ·have z7 : ¬ (m : Int) + 1 < 8 := by omega
   obtain rfl : m = 7 := by omega
   have kk := lv.arr.range
   have V9 := lv.arr
   go_wp2_with (first
    | ((with_reducible refine wpList_load_mid ?_ 98 (.tmp 2) ?_ g2 0 ?_ ((List.range 8).map V) _ kk Tryz.underlying98 ?_ ?_ ?_); (· rfl); (· rfl); (· rfl); (· rfl); (· exact sz_lv))
    | (refine wpList_store_cut rfl 98 (.tmp 2) (.tmp 51) rfl g2 0 ((List.range 8).map V) _ rfl rfl V9 rfl sz_lv (fun u hu => lv_one lv u hu) ?_; intro w9 hst))
   refine bodyPost_ret (results_row rfl _ _ g2 0 ((List.range 8).map V) _ rfl hst.2.2.1.range Tryz.underlying98 rfl sz_lv) rfl ?_
   have frz := fr.new hbW mbW hst.1 (fun b e => by cases e; have := hg1.out; have := hg2'.out; exact ⟨by omega, by omega⟩)
   refine ⟨V, rfl, frz.gr, frz.hm.tbl, fun j hj => ?_⟩
   have h1 := lv.own j hj
   rw [hL j (by omega)] at h1
   refine own_base (h1.kept hst.1 ?_) (by have := hg1.out; have := hg2'.out; omega)
   cases e : (V j).ownBlock with
   | none => exact .inl rfl
   | some b =>
    refine .inr fun e2 => ?_
    have := (h1.lt b e).1
    cases e2
    omega
def trB (T : List Sl) (c : Crt) : Bool := T.any fun s => decide (s.xs = c.raw.xs)
theorem lt_cell {W : World} {p : Addr} {v : Value} (h : W.cell? p = some v) : p.block < W.heap.size := World.block_lt_of_cell? W _ h
theorem fa_trust0 (g off : Nat) (W : World) : (Instr.fieldAt 34 (.pointer (some ⟨g, off, none⟩)) 0).run Tryz.prog W = .ok (.pointer (some ⟨g, off, none⟩)) W := by go_simp
theorem ld_mat (p : Addr) (v : Value) : ∀ W : World, W.cell? p = some v → (Instr.loadAt 32 (.pointer (some p))).run Tryz.prog W = .ok v W := fun W h => by go_simp
theorem ia_mat (g off n c i : Nat) (h : i < n) (W : World) : (Instr.indexAt 32 (.slice (some ⟨g, off, none⟩) n c) (.int .i64 (i : Int))).run Tryz.prog W = .ok (.pointer (some ⟨g, off + i * 1, none⟩)) W := by
 have h1 : (0 : Int) ≤ (i : Int) ∧ (i : Int) < (n : Int) := by omega
 go_simp
def isT (gt ot g3 b o : Nat) (vT : Value) (ix : Int) (s : Sl) (c : Crt) (p : Bool) : Nat → Tg
 | 0 => tv (.pointer (some ⟨gt, ot, none⟩))
 | 1 => tv (.pointer (some ⟨gt, ot, none⟩))
 | 2 => tv (.pointer (some ⟨gt, ot, none⟩))
 | 3 => tv vT
 | 4 => tv (.int .i64 ix)
 | 5 => tv (.pointer (some ⟨b, o, none⟩))
 | 6 => tv (.slice s.A s.xs.length s.c)
 | 7 => tv (.pointer (some ⟨g3, 0, none⟩))
 | 8 => tv (.slice c.raw.A c.raw.xs.length c.raw.c)
 | _ => tv (.bool p)
theorem rg25 : List.range 25 = [0, 1, 2, 3, 4, 5, 6, 7, 8, 9, 10, 11, 12, 13, 14, 15, 16, 17, 18, 19, 20, 21, 22, 23, 24] := rfl
set_option maxRecDepth 100000 in
set_option maxHeartbeats 4000000 in
theorem is_any {W : World} {gt ot : Nat} {t : Sls3 Sl} {c : Crt} (hT : W.cell? ⟨gt, ot, none⟩ = some t.val) (hR : RowsIn 1 (fun s : Sl => [s.val]) (fun s => s.ok W) W t) (hc : c.ok W) :
  Calls Tryz.prog 24 #[.pointer (some ⟨gt, ot, none⟩), c.val] W (RetW (trB t.l c) W) := by
 obtain ⟨w1, hw1⟩ : ∃ u, u = W.alloc (.cells c.cells.toArray 30) := ⟨_, rfl⟩
 obtain ⟨g3, hg3⟩ : ∃ g, g = W.heap.size := ⟨_, rfl⟩
 have e1 : Below W.heap.size W w1 := by rw [hw1]; exact (Below.refl _ _).alloc (Nat.le_refl _) _
 have B3 : Row w1 g3 0 c.cells := by rw [hw1, hg3]; exact row_new _
 replace hg3 := Lib.hid hg3
 have R1 := hR.below e1 (Q' := fun s => s.ok w1) (fun s h => h.below e1)
 have co := hc.below e1
 have kT := (e1.cell (p := ⟨gt, ot, none⟩) (lt_cell hT)).trans hT
 have ltT := Nat.lt_of_lt_of_le (lt_cell hT) e1.size
 obtain ⟨tA, tc, tl⟩ := t
 have hmax : tl.length ≤ 9223372036854775807 := Nat.le_trans hR.cap hR.max
 have e1' := Lib.hid e1
 unfold Crt.val
 go_enter Tryz.func24, Tryz.ntmps24
 go_wp2_with fail
 rw [← hw1, ← hg3.out]
 clear hw1 e1 hR hc
 unfold Sls3.val at kT
 simp only at kT
 go_loopw [5] (fun t wr => ∃ ix : Nat, t = .int .i64 (ix : Int) ∧ ix ≤ tl.length ∧ (tl.take ix).any (fun s => decide (s.xs = c.raw.xs)) = false ∧ Below w1.heap.size w1 wr) (fun t _ => tl.length - (intOf t).toNat)
 case atStart => exact ⟨0, rfl, Nat.zero_le _, by simp, Below.refl _ _⟩
 case round =>
  obtain ⟨ix, rfl, hi, hno, er⟩ := hrel
  replace hno := Lib.hid hno
  have kTr := (er.cell (p := ⟨gt, ot, none⟩) ltT).trans kT
  have z6 : (ix : Int) ≤ 9223372036854775807 := by omega
  by_cases hlt : ix < tl.length
  ·have z1 : (ix : Int) < (tl.length : Int) := by omega
   obtain ⟨s, hs⟩ : ∃ s, tl[ix]? = some s := ⟨_, List.getElem?_eq_getElem hlt⟩
   obtain ⟨b, o, hA, Rs⟩ := rows_at R1 (n := 1) (fun _ => rfl) hs
   have hA : tA = some ⟨b, o, none⟩ := hA
   have so := R1.each s (List.mem_of_getElem? hs)
   have kTb : w1.cell? ⟨gt, ot, none⟩ = some (.slice (some ⟨b, o, none⟩) tl.length tc) := by rw [kT, hA]
   rw [hA] at kTr
   go_upto_region 4 with fail
   clear kTr
   obtain ⟨p, hp⟩ : ∃ p, p = decide (s.xs = c.raw.xs) := ⟨_, rfl⟩
   replace hp := Lib.hid hp
   have hd0 : Below wr.heap.size wr wr.drew := below_drewN (Below.refl _ _) 1
   refine wp_region_steps (by kernel_rfl) (fun i => 15 + i) (fun i v W => Sp ((isT gt ot g3 b (o + ix * 1) (.slice (some ⟨b, o, none⟩) tl.length tc) (ix : Int) s c p) i) v W) (fun W => Below wr.heap.size wr W) (by kernel_rfl) (by kernel_rfl) ?inj ?lt (fun i v W W' h hs => h.mono hs) hd0 ⟨?s0, ?s1, ?s2, ?s3, ?s4, ?s5, ?s6, ?s7, ?s8, ?s9, trivial⟩ ?fin
   case inj =>
    intro i j hi hj h
    have h40 : i < 10 ∧ j < 10 := ⟨hi, hj⟩
    have h : 15 + i = 15 + j := h
    omega
   case lt =>
    intro i hi
    have h40 : i < 10 := hi
    show 15 + i < 25
    omega
   case s0 => exact (st_move rfl (.inl rfl) (src_base (fun i hi => by have hi : i < 10 := hi; show 15 + i ≠ _; omega) rfl))
   case s1 => exact (st_pure (V := .pointer (some ⟨gt, ot, none⟩)) (U := .pointer (some ⟨gt, ot, none⟩)) rfl (src_dep (j := 0) (e := ⟨0, .data⟩) (by simp) rfl rfl rfl) (fun a h W => by
     have h : a.eval (.tmp 15) = .pointer (some ⟨gt, ot, none⟩) := h
     unfold execOp
     simp only [h]
     go_simp) (fun W hg => Sp.tv rfl))
   case s2 => exact (st_field rfl rfl rfl (src_dep (j := 1) (e := ⟨1, .data⟩) (by simp) rfl rfl rfl) (fun W => fa_trust0 gt ot W))
   case s3 => exact (st_load rfl rfl rfl (src_dep (j := 2) (e := ⟨2, .data⟩) (by simp) rfl rfl rfl) (ld_mat _ _) (fun W h => ((er.trans (h.mono er.size)).cell (p := ⟨gt, ot, none⟩) ltT).trans kTb))
   case s4 => exact (st_move rfl (.inl rfl) (src_base (fun i hi => by have hi : i < 10 := hi; show 15 + i ≠ _; omega) rfl))
   case s5 => exact (st_index rfl rfl rfl (src_dep (j := 3) (e := ⟨3, .data⟩) (by simp) rfl rfl rfl) (src_dep (j := 4) (e := ⟨4, .data⟩) (by simp) rfl rfl rfl) (fun W => ia_mat b o tl.length tc ix hlt W))
   case s6 => exact (st_load rfl rfl rfl (src_dep (j := 5) (e := ⟨5, .data⟩) (by simp) rfl rfl rfl) (ld_u8s _ _) (fun W h => (Rs.below (er.trans (h.mono er.size))).at_ (i := 0) rfl (by omega)))
   case s7 => exact (st_field rfl rfl rfl (src_base (fun i hi => by have hi : i < 10 := hi; show 15 + i ≠ _; omega) rfl) (fun W => fa_cert0 g3 0 W))
   case s8 => exact (st_load rfl rfl rfl (src_dep (j := 7) (e := ⟨7, .data⟩) (by simp) rfl rfl rfl) (ld_u8s _ _) (fun W h => (B3.below (er.trans (h.mono er.size))).at_ (i := 0) rfl rfl))
   case s9 => exact (st_call rfl (fun a W => run_call rfl cf_eqb a W) (fun a W hb hd h => by
     have h1 : a.eval (.tmp 21) = .slice s.A s.xs.length s.c := (hd ⟨6, .data⟩ (by simp) rfl).now
     have h2 : a.eval (.tmp 23) = .slice c.raw.A c.raw.xs.length c.raw.c := (hd ⟨8, .data⟩ (by simp) rfl).now
     simp only [List.map_toArray, List.map_cons, List.map_nil, h1, h2]
     refine (eqBytes_any s.A c.raw.A _ _ s.c c.raw.c s.xs c.raw.xs W rfl rfl (so.below (er.trans (h.mono er.size))).rd (co.raw.below (er.trans (h.mono er.size))).rd so.lim co.raw.lim).mono ?_
     rintro e W' ⟨rfl, rfl⟩
     exact ⟨_, rfl, Below.refl _ _, by rw [← hp.out]; exact Sp.tv rfl⟩))
   case fin =>
    intro a W2 h1 h2 h3 h4 h5
    have b24 : a.tmps.getD 24 undef = .bool p := (h4 9 (by show 9 < 10; omega)).now
    have hz : a.tmps.size = 25 := h2
    have hdf : a.defers = [] := h1
    have b0 : a.tmps.getD 0 undef = .pointer (some ⟨gt, ot, none⟩) := h3 0 (fun i (h : i < 10) => by show (15 + i) ≠ 0; omega)
    have b1 : a.tmps.getD 1 undef = .agg c.cells.toArray := h3 1 (fun i (h : i < 10) => by show (15 + i) ≠ 1; omega)
    have b2 : a.tmps.getD 2 undef = undef := h3 2 (fun i (h : i < 10) => by show (15 + i) ≠ 2; omega)
    have b3 : a.tmps.getD 3 undef = .pointer (some ⟨g3, 0, none⟩) := h3 3 (fun i (h : i < 10) => by show (15 + i) ≠ 3; omega)
    have b5 : a.tmps.getD 5 undef = .int .i64 (ix : Int) := h3 5 (fun i (h : i < 10) => by show (15 + i) ≠ 5; omega)
    rw [act_eq hz hdf]
    simp only [rg25, List.map_cons, List.map_nil, b0, b1, b2, b3, b5, b24]
    clear b0 b1 b2 b3 b5 b24 hz hdf h1 h2 h3 h4
    have er2 := er.trans (h5.mono er.size)
    have HT := Lib.hid (show tl.take (ix + 1) = tl.take ix ++ [s] by rw [List.take_add_one, hs]; rfl)
    cases p
    case false =>
     go_wp2_with fail
     go_roundw
     case rel => exact ⟨ix + 1, by go_num, by omega, by rw [HT.out, List.any_append, hno.out]; simp [← hp.out], er2⟩
     case measure =>
      simp [intOf]
      omega
    case true =>
     have hy : trB tl c = true := List.any_eq_true.2 ⟨s, List.mem_of_getElem? hs, hp.out.symm⟩
     replace hy := Lib.hid hy
     go_wp2_with fail
     go_ret
     exact ⟨by rw [hy.out]; rfl, e1'.out.trans (er2.mono e1'.out.size)⟩
  ·have z1 : ¬ (ix : Int) < (tl.length : Int) := by omega
   have hy : trB tl c = false := by
    obtain rfl : ix = tl.length := by omega
    have h := hno.out
    rw [List.take_length] at h
    exact h
   replace hy := Lib.hid hy
   go_wp2_with fail
   go_ret
   exact ⟨by rw [hy.out]; rfl, e1'.out.trans (er.mono e1'.out.size)⟩
theorem cf_hat (vs : Array Value) (w : World) : (callFunc 49 vs).run Tryz.prog w = .ok (.enter 49 vs) w := by kernel_rfl
theorem cf_f1 (vs : Array Value) (w : World) : (callFunc 48 vs).run Tryz.prog w = .ok (.enter 48 vs) w := by kernel_rfl
theorem cf_f2 (vs : Array Value) (w : World) : (callFunc 51 vs).run Tryz.prog w = .ok (.enter 51 vs) w := by kernel_rfl
theorem cf_f3 (vs : Array Value) (w : World) : (callFunc 53 vs).run Tryz.prog w = .ok (.enter 53 vs) w := by kernel_rfl
theorem cf_f4 (vs : Array Value) (w : World) : (callFunc 56 vs).run Tryz.prog w = .ok (.enter 56 vs) w := by kernel_rfl
theorem ld_fn (p : Addr) (v : Value) : ∀ W : World, W.cell? p = some v → (Instr.loadAt 41 (.pointer (some p))).run Tryz.prog W = .ok v W := fun W h => by go_simp
theorem ld_hp (p : Addr) (v : Value) : ∀ W : World, W.cell? p = some v → (Instr.loadAt 95 (.pointer (some p))).run Tryz.prog W = .ok v W := fun W h => by go_simp
structure Anc (w0 : World) (f : Nat) (fst : Array Value) (tr : Crt → Bool) : Prop where
 cf : ∀ (vs : Array Value) (w : World), (callFunc f vs).run Tryz.prog w = .ok (.enter f vs) w
 call : ∀ (U : World) (c : Crt), Below w0.heap.size w0 U → c.ok U → Calls Tryz.prog f (fst ++ #[c.val]) U (RetW (tr c) U)
section
variable {ops : Array Oper} {Q : Exit → Act → World → Prop} {Base : Act → Prop} {dst : Nat → Nat} {tags : Nat → Tg} {w0 : World} {i : Nat} {o : Oper}
theorem st_callV {f : Nat} {fst : Array Value} (hgd : o.guard = none) (x y : Operand) (T : TypeId) (ho : o.op = .call { callee := .value x, args := #[y], argTypes := #[T] }) (hx : Src o Base dst tags (fun w => Below w0.heap.size w0 w) x (tv (.func (.func f) fst #[])))
  (hcf : ∀ (vs : Array Value) (w : World), (callFunc f vs).run Tryz.prog w = .ok (.enter f vs) w)
  (h : ∀ a w, Base a → Deps o dst tags a w → Below w0.heap.size w0 w → Calls Tryz.prog f (fst ++ #[a.eval y]) w fun e w' => ∃ v, e = .returned v ∧ Below w.heap.size w w' ∧ Sp (tags i) v w') :
  StepOk Tryz.prog ops Q Base dst (fun i v w => Sp (tags i) v w) (fun w => Below w0.heap.size w0 w) i o := by
 intro a w hb hd hg K hK
 rw [if_pos (wanted_free hgd a)]
 have hc := h a w hb hd hg
 have h1 : a.eval x = .func (.func f) fst #[] := (hx a w hb hd hg).now
 have hrun : (execOp a.eval o).run Tryz.prog w = .ok (.enter f (fst ++ #[a.eval y])) w := by
  unfold execOp
  simp only [ho, resolve, List.map_toArray, List.map_cons, List.map_nil, h1, Deferred.ofValue, invoke, Sem.run_bind, Sem.run_pure, Result.andThen_ok, Array.append_empty, hcf]
 unfold Oper.wp
 rw [hrun]
 refine hc.mono ?_
 rintro e w' ⟨v, rfl, h1, h2⟩
 exact hK _ _ h2 (Sub.below h1) (hg.trans (h1.mono hg.size))
end
def f1T (f : Nat) (fst : Array Value) (hb : Nat) (i : Int) (c : Crt) (b : Bool) : Nat → Tg
 | 0 => tv (.func (.func f) fst #[])
 | 1 => tv (.pointer (some ⟨hb, 0, none⟩))
 | 2 => tv (.int .i64 i)
 | 3 => tv c.val
 | _ => tv (.bool b)
theorem rg10 : List.range 10 = [0, 1, 2, 3, 4, 5, 6, 7, 8, 9] := rfl
section
variable {w0 U : World} {lf : Crt} {cs : List Crt} {pA : Option Addr} {pc gp op hb mb g1 g2 g5 g8 f : Nat} {fst : Array Value} {tr : Crt → Bool}
set_option maxRecDepth 100000 in
set_option maxHeartbeats 4000000 in
theorem find1_any (P : Pool w0 lf cs pA pc gp op) (H : Hm w0 lf cs pA pc hb mb U) (A : Anc w0 f fst tr) (r5 : Row U g5 0 [.func (.func f) fst #[]]) (r8 : Row U g8 0 [.pointer (some ⟨hb, 0, none⟩)]) {y : Int} (hi : Spot cs y) :
  Calls Tryz.prog 48 #[.int .i64 y, .pointer (some ⟨g5, 0, none⟩), .pointer (some ⟨g8, 0, none⟩)] U (RetW (tr (atC lf cs y)) U) := by
 have k1 : U.cell? ⟨g5, 0, none⟩ = some (.func (.func f) fst #[]) := r5.2 0 _ rfl
 have k2 : U.cell? ⟨g8, 0, none⟩ = some (.pointer (some ⟨hb, 0, none⟩)) := r8.2 0 _ rfl
 have mc := atC_mem (leaf := lf) hi
 obtain ⟨c, hc⟩ : ∃ c, c = atC lf cs y := ⟨_, rfl⟩
 rw [← hc] at mc
 have hok := P.ok _ mc
 go_enter Tryz.func48, Tryz.ntmps48
 go_upto_region 1 with fail
 replace hc := Lib.hid hc
 have hd0 : Below U.heap.size U U.drew := below_drewN (Below.refl _ _) 1
 refine wp_region_steps (by kernel_rfl) (fun i => if i = 5 then 4 else 5 + i) (fun i v W => Sp ((f1T f fst hb y c (tr c)) i) v W) (fun W => Below U.heap.size U W) (by kernel_rfl) (by kernel_rfl) ?inj ?lt (fun i v W W' h hs => h.mono hs) hd0 ⟨?s0, ?s1, ?s2, ?s3, ?s4, ?s5, trivial⟩ ?fin
 case inj =>
  intro i j hi hj h
  have h40 : i < 6 ∧ j < 6 := ⟨hi, hj⟩
  have h : (if i = 5 then 4 else 5 + i) = (if j = 5 then 4 else 5 + j) := h
  (repeat' split at h) <;> omega
 case lt =>
  intro i hi
  have h40 : i < 6 := hi
  show (if i = 5 then 4 else 5 + i) < 10
  (repeat' split) <;> omega
 case s0 => exact (st_load rfl rfl rfl (src_base (fun i hi => by have hi : i < 6 := hi; show (if i = 5 then 4 else 5 + i) ≠ _; (repeat' split) <;> omega) rfl) (ld_fn _ _) (fun W h => (h.cell (p := ⟨g5, 0, none⟩) r5.1).trans k1))
 case s1 => exact (st_load rfl rfl rfl (src_base (fun i hi => by have hi : i < 6 := hi; show (if i = 5 then 4 else 5 + i) ≠ _; (repeat' split) <;> omega) rfl) (ld_hp _ _) (fun W h => (h.cell (p := ⟨g8, 0, none⟩) r8.1).trans k2))
 case s2 => exact (st_move rfl (.inl rfl) (src_base (fun i hi => by have hi : i < 6 := hi; show (if i = 5 then 4 else 5 + i) ≠ _; (repeat' split) <;> omega) rfl))
 case s3 => exact (st_call rfl (fun a W => run_call rfl cf_hat a W) (fun a W hba hd h_ => by
   have h1 : a.eval (.tmp 6) = .pointer (some ⟨hb, 0, none⟩) := (hd ⟨1, .data⟩ (by simp) rfl).now
   have h2 : a.eval (.tmp 7) = .int .i64 y := (hd ⟨2, .data⟩ (by simp) rfl).now
   simp only [List.map_toArray, List.map_cons, List.map_nil, h1, h2]
   refine (hat_any P (H.grow h_) hi).mono ?_
   rintro e W' ⟨rfl, q⟩
   exact ⟨_, rfl, q, by rw [← hc.out]; exact Sp.tv rfl⟩))
 case s4 => exact (st_callV rfl (.tmp 5) (.tmp 8) 30 rfl (src_dep (j := 0) (e := ⟨0, .data⟩) (by simp) rfl rfl rfl) A.cf (fun a W hba hd h_ => by
   have h1 : a.eval (.tmp 8) = c.val := (hd ⟨3, .data⟩ (by simp) rfl).now
   rw [h1]
   refine (A.call W c (H.below.trans (h_.mono H.below.size)) (hok.below (H.below.trans (h_.mono H.below.size)))).mono ?_
   rintro e W' ⟨rfl, q⟩
   exact ⟨_, rfl, q, Sp.tv rfl⟩))
 case s5 => exact (st_move rfl (.inr rfl) (src_dep (j := 4) (e := ⟨4, .data⟩) (by simp) rfl rfl rfl))
 case fin =>
  intro a W2 h1 h2 h3 h4 h5
  have b4 : a.tmps.getD 4 undef = .bool (tr c) := (h4 5 (by show 5 < 6; omega)).now
  have hz : a.tmps.size = 10 := h2
  have hdf : a.defers = [] := h1
  have b0 : a.tmps.getD 0 undef = .int .i64 y := h3 0 (fun i (h : i < 6) => by show (if i = 5 then 4 else 5 + i) ≠ 0; (repeat' split) <;> omega)
  rw [act_eq hz hdf]
  simp only [rg10, List.map_cons, List.map_nil, b0, b4]
  clear b0 b4 hz hdf h1 h2 h3 h4
  go_wp2_with fail
  go_ret
  exact ⟨by rw [← hc.out]; rfl, h5⟩
set_option maxRecDepth 100000 in
theorem find2_any (P : Pool w0 lf cs pA pc gp op) (H : Hm w0 lf cs pA pc hb mb U) (A : Anc w0 f fst tr) {g10 n c : Nat} {B : Option Addr} {l : List Int} (r10 : Row U g10 0 [.func (.func 48) #[] #[.pointer (some ⟨g5, 0, none⟩), .pointer (some ⟨g8, 0, none⟩)]])
  (r5 : Row U g5 0 [.func (.func f) fst #[]]) (r8 : Row U g8 0 [.pointer (some ⟨hb, 0, none⟩)]) (hn : n = l.length) (hl : n ≤ 1000) (hr : RdI U B l) (hs : ∀ x ∈ l, Spot cs x) :
  Calls Tryz.prog 51 #[.slice B n c, .pointer (some ⟨g10, 0, none⟩)] U (RetW (l.any fun i => tr (atC lf cs i)) U) := by
 have k10 : U.cell? ⟨g10, 0, none⟩ = some (.func (.func 48) #[] #[.pointer (some ⟨g5, 0, none⟩), .pointer (some ⟨g8, 0, none⟩)]) := r10.2 0 _ rfl
 have hq := containsI_any 48 #[.pointer (some ⟨g5, 0, none⟩), .pointer (some ⟨g8, 0, none⟩)] cf_f1 (fun V => Below U.heap.size U V) (fun i => tr (atC lf cs i)) B n c l hn hl
  (fun V q => hr.imp id fun ⟨b, o, h1, h2⟩ => ⟨b, o, h1, h2.below q⟩) (fun V x hx q => (find1_any P (H.grow q) A (r5.below q) (r8.below q) (hs x hx)).mono fun e V' ⟨h1, h2⟩ => ⟨h1, q.trans (h2.mono q.size)⟩) U (Below.refl _ _)
 generalize l.any (fun i => tr (atC lf cs i)) = b at hq ⊢
 clear hr hs hn
 go_enter Tryz.func51, Tryz.ntmps51
 go_wp2_with fail
 refine hq.mono ?_
 rintro e V ⟨rfl, q⟩
 go_wp2_with fail
 go_ret
 exact ⟨rfl, q⟩
set_option maxRecDepth 100000 in
theorem find3_any (P : Pool w0 lf cs pA pc gp op) (h : Hm w0 lf cs pA pc hb mb U) {x i : Int} (r8 : Row U g8 0 [.pointer (some ⟨hb, 0, none⟩)]) (r4 : Row U g1 0 [.int .i64 i]) (hx : Spot cs x) (hi : Spot cs i) :
  Calls Tryz.prog 53 #[.int .i64 x, .pointer (some ⟨g8, 0, none⟩), .pointer (some ⟨g1, 0, none⟩)] U (HsPost (sgAt lf cs) (sgAt lf cs i x) mb U) := by
 have k1 : U.cell? ⟨g8, 0, none⟩ = some (.pointer (some ⟨hb, 0, none⟩)) := r8.2 0 _ rfl
 have k4 : U.cell? ⟨g1, 0, none⟩ = some (.int .i64 i) := r4.2 0 _ rfl
 go_enter Tryz.func53, Tryz.ntmps53
 go_wp2_with fail
 refine (hsigned_any P h hi hx).mono ?_
 rintro e U' ⟨rfl, h1, h2⟩
 go_wp2_with fail
 go_ret
 exact ⟨rfl, h1, h2⟩
set_option maxRecDepth 100000 in
theorem find4_any (P : Pool w0 lf cs pA pc gp op) (h : Hm w0 lf cs pA pc hb mb U) {x i : Int} (r8 : Row U g8 0 [.pointer (some ⟨hb, 0, none⟩)]) (r4 : Row U g1 0 [.int .i64 i]) (hx : Spot cs x) (hi : Spot cs i) :
  Calls Tryz.prog 56 #[.int .i64 x, .pointer (some ⟨g8, 0, none⟩), .pointer (some ⟨g1, 0, none⟩)] U (HsPost (sgAt lf cs) (sgAt lf cs i x) mb U) := by
 have k1 : U.cell? ⟨g8, 0, none⟩ = some (.pointer (some ⟨hb, 0, none⟩)) := r8.2 0 _ rfl
 have k4 : U.cell? ⟨g1, 0, none⟩ = some (.int .i64 i) := r4.2 0 _ rfl
 go_enter Tryz.func56, Tryz.ntmps56
 go_wp2_with fail
 refine (hsigned_any P h hi hx).mono ?_
 rintro e U' ⟨rfl, h1, h2⟩
 go_wp2_with fail
 go_ret
 exact ⟨rfl, h1, h2⟩
end
theorem wpList_store_one {ops : Array Oper} {rest : List Oper} {o : Oper} {a : Act} {w : World} {Q : Exit → Act → World → Prop} (hgd : o.guard = none) (ty : TypeId) (x y : Operand) (ho : o.op = .store ty x y) (g : Nat) (v u : Value) (hx : a.eval x = .pointer (some ⟨g, 0, none⟩)) (hy : a.eval y = v) (hc : Cut w g 0 [u])
  (hrun : ∀ W : World, W.cell? ⟨g, 0, none⟩ = some u → W.frozen? ⟨g, 0, none⟩ = false → (Instr.storeAt ty (.pointer (some ⟨g, 0, none⟩)) v).run Tryz.prog W = .ok () (W.setCell ⟨g, 0, none⟩ v))
  (h : ∀ w', w.grownBy w' (some g) → w'.heap.size = w.heap.size → Cut w' g 0 [v] → wpList Tryz.prog ops Q rest (a.put o.dst undef) w') : wpList Tryz.prog ops Q (o :: rest) a w := by
 refine wpList_plain hgd fun K hK => ?_
 have k := hc.cell (i := 0) rfl
 have f := hc.frozen (i := 0) rfl
 rw [Nat.zero_add] at k f
 unfold Oper.wp execOp
 simp only [ho, hx, hy, Sem.run_bind, Sem.run_pure, hrun w k f, Result.andThen_ok]
 have hs := hc.set (i := 0) rfl v
 rw [Nat.zero_add] at hs
 exact hK _ _ (h _ (only_set (only_refl w _) (.inl rfl) _) (by simp) hs)
theorem sto_ptr (g : Nat) (p : Option Addr) (u : Value) : ∀ W : World, W.cell? ⟨g, 0, none⟩ = some u → W.frozen? ⟨g, 0, none⟩ = false → (Instr.storeAt 95 (.pointer (some ⟨g, 0, none⟩)) (.pointer p)).run Tryz.prog W = .ok () (W.setCell ⟨g, 0, none⟩ (.pointer p)) := fun W k f => by go_simp
theorem sto_fn (g : Nat) (fn : Fn) (x y : Array Value) (u : Value) : ∀ W : World, W.cell? ⟨g, 0, none⟩ = some u → W.frozen? ⟨g, 0, none⟩ = false → (Instr.storeAt 90 (.pointer (some ⟨g, 0, none⟩)) (.func fn x y)).run Tryz.prog W = .ok () (W.setCell ⟨g, 0, none⟩ (.func fn x y)) := fun W k f => by
 go_simp
 rw [run_store _ _ _ _ _ rfl]
 simp [stored, k, f]
theorem zero_hp : (Tryz.prog.info? 95).map (fun i => i.zero) = some (some (.pointer none)) := by kernel_rfl
theorem zero_fn : (Tryz.prog.info? 90).map (fun i => i.zero) = some (some .nilFunc) := by kernel_rfl
theorem slice_lv (g : Nat) (W : World) : (Instr.sliceAt 98 (.pointer (some ⟨g, 0, none⟩)) none none none).run Tryz.prog W = .ok (.slice (some ⟨g, 0, none⟩) 8 8) W := by go_simp
theorem fn_nil (f : Nat) (x y : Array Value) (W : World) : (binOp .eql 41 (.func (.func f) x y) .nilFunc).run Tryz.prog W = .ok (.bool false) W := by kernel_rfl
theorem ia_lv0 (g k : Nat) (hk : k < 8) (W : World) : (Instr.indexAt 98 (.pointer (some ⟨g, 0, none⟩)) (.int .i64 (k : Int))).run Tryz.prog W = .ok (.pointer (some ⟨g, k, none⟩)) W := by
 have h1 : (0 : Int) ≤ (k : Int) ∧ (k : Int) < 8 := by omega
 have h2 : (k : Int) < 8 := by omega
 go_simp
theorem idxS_range (p : Nat → Bool) : idxS p (List.range 8) = match (List.range 8).find? p with | some i => (i : Int) | none => -1 := by
 have h : (List.range 8).findIdx? p = (List.range 8).find? p := by
  cases hf : (List.range 8).find? p with
  | none =>
   rw [List.findIdx?_eq_none_iff]
   intro x hx
   rw [List.find?_eq_none] at hf
   simpa using hf x hx
  | some i =>
   rw [List.find?_range_eq_some] at hf
   obtain ⟨h1, h2, h3⟩ := hf
   have h2 : i < 8 := by simpa using h2
   rw [List.findIdx?_eq_some_iff_getElem]
   exact ⟨by simpa using h2, by simpa using h1, fun j hj => by simpa using h3 j hj⟩
 unfold idxS
 rw [h]
 cases (List.range 8).find? p <;> rfl
def gdQ (lf : Crt) (cs : List Crt) (tr : Crt → Bool) (l : Nat) : Nat → Int → Bool
 | 0, i => tr (atC lf cs i)
 | d + 1, i => ((hse lf cs).good tr l d).any fun p => sgAt lf cs i p
def gdP (lf : Crt) (cs : List Crt) (tr : Crt → Bool) (l d ix : Nat) : List Int := (((hse lf cs).lvl (l - d)).take ix).filter (gdQ lf cs tr l d)
theorem gdP_all {lf : Crt} {cs : List Crt} {tr : Crt → Bool} {l d : Nat} : gdP lf cs tr l d ((hse lf cs).lvl (l - d)).length = (hse lf cs).good tr l d := by
 unfold gdP
 rw [List.take_length]
 cases d with
 | zero =>
  rw [Chn.House.good]
  rfl
 | succ d =>
  rw [Chn.House.good]
  rfl
theorem gdP_no {lf : Crt} {cs : List Crt} {tr : Crt → Bool} {l d ix : Nat} {i : Int} (h : ((hse lf cs).lvl (l - d))[ix]? = some i) (hq : gdQ lf cs tr l d i = false) : gdP lf cs tr l d (ix + 1) = gdP lf cs tr l d ix := by
 unfold gdP
 rw [List.take_add_one, h, List.filter_append]
 simp [hq]
theorem gdP_yes {lf : Crt} {cs : List Crt} {tr : Crt → Bool} {l d ix : Nat} {i : Int} (h : ((hse lf cs).lvl (l - d))[ix]? = some i) (hq : gdQ lf cs tr l d i = true) : gdP lf cs tr l d (ix + 1) = gdP lf cs tr l d ix ++ [i] := by
 unfold gdP
 rw [List.take_add_one, h, List.filter_append]
 simp [hq]
structure Ff (w0 : World) (lf : Crt) (cs : List Crt) (pA : Option Addr) (pc hb mb : Nat) (F : List (Nat × List Value)) (V : Nat → Value) (B : Nat) (U : World) : Prop where
 hm : Hm w0 lf cs pA pc hb mb U
 rows : ∀ q ∈ F, q.1 < B ∧ q.1 ≠ mb ∧ Row U q.1 0 q.2
 lv : ∀ j, j < 8 → ∃ A c, V j = .slice A ((hse lf cs).lvl j).length c ∧ ((hse lf cs).lvl j = [] ∨ ∃ b, A = some ⟨b, 0, none⟩ ∧ b < B ∧ b ≠ mb ∧ Row U b 0 (((hse lf cs).lvl j).map intV))
 hB : hb < B
 mB : mb < B
section
variable {w0 U U' : World} {lf : Crt} {cs : List Crt} {pA : Option Addr} {pc hb mb B : Nat} {F : List (Nat × List Value)} {V : Nat → Value}
theorem Ff.new (h : Ff w0 lf cs pA pc hb mb F V B U) {r : Option Nat} (g : U.grownBy U' r) (hr : ∀ b, r = some b → B ≤ b) : Ff w0 lf cs pA pc hb mb F V B U' := by
 have keep : ∀ {q : Nat} {vs : List Value}, q < B → Row U q 0 vs → Row U' q 0 vs := fun {q vs} hq hrow => hrow.keep g.size (g.block q hrow.1 (fun e => by have := hr q e.symm; omega))
 have h1 := h.hm.below
 have h2 := h.hm.hn
 refine ⟨⟨⟨g.os.trans h1.os, g.tape.trans h1.tape, g.output.trans h1.output, Nat.le_trans h1.size g.size, fun k hk => (g.block k (Nat.lt_of_lt_of_le hk h1.size) (fun e => by have := hr k e.symm; have := h.hB; omega)).trans (h1.block k hk)⟩, keep h.hB h.hm.row, h.hm.hn, h.hm.mn, h.hm.ne, h.hm.tbl.kept (g.block mb h.hm.tbl.lt (fun e => by have := hr mb e.symm; have := h.mB; omega))⟩, fun q hq => ?_, fun j hj => ?_, h.hB, h.mB⟩
 ·obtain ⟨a, b, c⟩ := h.rows q hq
  exact ⟨a, b, keep a c⟩
 ·obtain ⟨A, c, e, hl⟩ := h.lv j hj
  exact ⟨A, c, e, hl.imp id fun ⟨b, e1, e2, e3, e4⟩ => ⟨b, e1, e2, e3, keep e2 e4⟩⟩
theorem Ff.below (h : Ff w0 lf cs pA pc hb mb F V B U) (g : Below U.heap.size U U') : Ff w0 lf cs pA pc hb mb F V B U' := h.new (only_of_below g none) fun b e => by cases e
theorem Ff.clo (h : Ff w0 lf cs pA pc hb mb F V B U) (q : CloI (sgAt lf cs) mb U U') : Ff w0 lf cs pA pc hb mb F V B U' :=
 ⟨q.hm h.hm, fun x hx => ⟨(h.rows x hx).1, (h.rows x hx).2.1, q.row (h.rows x hx).2.2 (h.rows x hx).2.1⟩, fun j hj => by
  obtain ⟨A, c, e, hl⟩ := h.lv j hj
  exact ⟨A, c, e, hl.imp id fun ⟨b, e1, e2, e3, e4⟩ => ⟨b, e1, e2, e3, q.row e4 e3⟩⟩, h.hB, h.mB⟩
theorem Ff.get (h : Ff w0 lf cs pA pc hb mb F V B U) {g : Nat} {vs : List Value} (hq : (g, vs) ∈ F) : Row U g 0 vs := (h.rows _ hq).2.2
theorem Ff.ne (h : Ff w0 lf cs pA pc hb mb F V B U) {g : Nat} {vs : List Value} (hq : (g, vs) ∈ F) : g ≠ mb := (h.rows _ hq).2.1
theorem Ff.rdI (h : Ff w0 lf cs pA pc hb mb F V B U) {j : Nat} (hj : j < 8) : ∃ A c, V j = .slice A ((hse lf cs).lvl j).length c ∧ ∀ W, Ff w0 lf cs pA pc hb mb F V B W → RdI W A ((hse lf cs).lvl j) := by
 obtain ⟨A, c, e, hl⟩ := h.lv j hj
 refine ⟨A, c, e, fun W hW => ?_⟩
 obtain ⟨A', c', e', hl'⟩ := hW.lv j hj
 rw [e] at e'
 cases e'
 exact hl'.imp id fun ⟨b, e1, e2, e3, e4⟩ => ⟨b, 0, e1, e4⟩
end
def gdG (Fp : World → Prop) (B g2 g7 k : Nat) (i : Int) (V : Nat → Value) (L : Nat → List Int) (w9 : World) (d : Nat → Bool) (v : Nat → Value) (W : World) : Prop := match d 5, d 6, d 8 with
 | false, false, false => Below w9.heap.size w9 W ∧ W.heap.size = g7
 | true, false, false => Below w9.heap.size w9 W ∧ W.cell? ⟨g7, 0, none⟩ = some (.int .i64 i)
 | true, true, false => ∃ U, Below w9.heap.size w9 U ∧ W.ownsRow B 3 1 (v 6) (L k ++ [i]).length ((L k ++ [i]).map intV) ∧ U.grownBy W (V k).ownBlock ∧ ((v 6).ownBlock = (V k).ownBlock ∨ (v 6).ownBlock = some U.heap.size)
 | true, true, true => Lv W B g2 (put1 V k (v 6)) (put1 L k (L k ++ [i])) ∧ Fp W
 | _, _, _ => False
theorem gdG_g {Fp : World → Prop} {B g2 g7 k : Nat} {i : Int} {V : Nat → Value} {L : Nat → List Int} {w9 W : World} {d : Nat → Bool} {v : Nat → Value} (h6 : d 6 = false) (h : gdG Fp B g2 g7 k i V L w9 d v W) : Below w9.heap.size w9 W := by
 unfold gdG at h
 rw [h6] at h
 cases h5 : d 5 <;> cases h8 : d 8 <;> rw [h5, h8] at h
 ·exact h.1
 ·exact h.elim
 ·exact h.1
 ·exact h.elim
theorem gdG_f {Fp : World → Prop} {B g2 g7 k : Nat} {i : Int} {V : Nat → Value} {L : Nat → List Int} {w9 W : World} {d : Nat → Bool} {v : Nat → Value} (h5 : d 5 = false) (h : gdG Fp B g2 g7 k i V L w9 d v W) : Below w9.heap.size w9 W ∧ W.heap.size = g7 := by
 unfold gdG at h
 rw [h5] at h
 cases h6 : d 6 <;> cases h8 : d 8 <;> rw [h6, h8] at h
 ·exact h
 ·exact h.elim
 ·exact h.elim
 ·exact h.elim
def gdT (g2 g7 k : Nat) (i : Int) (vk : Value) : Nat → Tg
 | 0 => tv (.int .i64 (k : Int))
 | 1 => tv (.int .i64 (k : Int))
 | 2 => tv (.pointer (some ⟨g2, k, none⟩))
 | 3 => tv vk
 | 4 => tv (.int .i64 i)
 | 5 => tv (.slice (some ⟨g7, 0, none⟩) 1 1)
 | 7 => tv (.pointer (some ⟨g2, k, none⟩))
 | _ => fun _ _ => True
theorem stat_gd (g2 g7 k : Nat) (i : Int) (vk : Value) : Static (gdT g2 g7 k i vk) := fun j x W W' h => by
 unfold gdT at *
 split at h <;> exact h
end Go.Proofs.YtchaahnhpeoomaaGreat
