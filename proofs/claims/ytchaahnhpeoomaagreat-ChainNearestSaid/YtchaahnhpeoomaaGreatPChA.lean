/-
 chain's house: what lies where; house.at, open.
-/
import Derived.Test.YtchaahnhpeoomaaGreatPChS
import Derived.Test.YtchaahnhpeoomaaGreatPChM
namespace Go.Proofs.YtchaahnhpeoomaaGreat
set_option linter.unusedVariables false
set_option linter.unusedSimpArgs false
set_option maxRecDepth 20000
open Go.RowKit
def atC (leaf : Crt) (cs : List Crt) (i : Int) : Crt := if i = -1 then leaf else (cs[i.toNat]?).getD leaf
def sgAt (leaf : Crt) (cs : List Crt) (c p : Int) : Bool := sgB (atC leaf cs c) (atC leaf cs p)
structure Pool (w0 : World) (leaf : Crt) (cs : List Crt) (pA : Option Addr) (pc gp op : Nat) : Prop where
 A : cs = [] ∨ pA = some ⟨gp, op, none⟩
 row : Row w0 gp op (crtCells cs)
 ok : ∀ c ∈ leaf :: cs, c.ok w0
 tbs : ∀ c ∈ leaf :: cs, c.tbs.xs.length ≤ 1099511627776
 key : ∀ c ∈ leaf :: cs, c.key.xs.length ≤ 70000
 len : cs.length ≤ 16
theorem Pool.below {w w' : World} {leaf : Crt} {cs : List Crt} {pA : Option Addr} {pc gp op : Nat} (h : Pool w leaf cs pA pc gp op) (hb : Below w.heap.size w w') : Pool w' leaf cs pA pc gp op :=
 ⟨h.A, h.row.below hb, fun c hc => (h.ok c hc).below hb, h.tbs, h.key, h.len⟩
def Spot (cs : List Crt) (i : Int) : Prop := i = -1 ∨ (0 ≤ i ∧ i < (cs.length : Int))
theorem atC_mem {leaf : Crt} {cs : List Crt} {i : Int} (h : Spot cs i) : atC leaf cs i ∈ leaf :: cs := by
 unfold atC
 rcases h with rfl | ⟨h1, h2⟩
 ·simp
 ·rw [if_neg (by omega)]
  obtain ⟨c, hc⟩ : ∃ c, cs[i.toNat]? = some c := ⟨_, List.getElem?_eq_getElem (by omega)⟩
  rw [hc]
  exact List.mem_cons_of_mem _ (List.mem_of_getElem? hc)
structure Hm (w0 : World) (leaf : Crt) (cs : List Crt) (pA : Option Addr) (pc hb mb : Nat) (W : World) : Prop where
 below : Below w0.heap.size w0 W
 row : Row W hb 0 (leaf.cells ++ [.slice pA cs.length pc, .map (some mb)])
 hn : w0.heap.size ≤ hb
 mn : w0.heap.size ≤ mb
 ne : hb ≠ mb
 tbl : Tbl (sgAt leaf cs) W mb
section
variable {w0 : World} {lf : Crt} {cs : List Crt} {pA : Option Addr} {pc gp op hb mb : Nat} {W W' : World}
theorem Hm.step (h : Hm w0 lf cs pA pc hb mb W) (g : W.grownBy W' (some mb)) (t : Tbl (sgAt lf cs) W' mb) : Hm w0 lf cs pA pc hb mb W' :=
 ⟨below_only h.below g h.below.size h.mn, h.row.keep g.size (g.block hb h.row.1 (fun e => h.ne (by simpa using e))), h.hn, h.mn, h.ne, t⟩
theorem Hm.grow (h : Hm w0 lf cs pA pc hb mb W) (g : Below W.heap.size W W') : Hm w0 lf cs pA pc hb mb W' := h.step (only_of_below g _) (h.tbl.below g)
theorem Hm.leaf (h : Hm w0 lf cs pA pc hb mb W) : W.rangeAt hb 0 lf.cells := fun i v hv => h.row.2 i v (by
 rw [List.getElem?_append_left (by have := (List.getElem?_eq_some_iff.1 hv).1; exact this)]
 exact hv)
theorem Hm.pool (h : Hm w0 lf cs pA pc hb mb W) : W.cell? ⟨hb, 24, none⟩ = some (.slice pA cs.length pc) := by
 have := h.row.2 24 (.slice pA cs.length pc) (by rw [List.getElem?_append_right (by simp [Crt.cells_length]), Crt.cells_length]; rfl)
 simpa using this
theorem Hm.known (h : Hm w0 lf cs pA pc hb mb W) : W.cell? ⟨hb, 25, none⟩ = some (.map (some mb)) := by
 have := h.row.2 25 (.map (some mb)) (by rw [List.getElem?_append_right (by simp [Crt.cells_length]), Crt.cells_length]; rfl)
 simpa using this
def GivesC (c : Crt) (w : World) (e : Ending) (w' : World) : Prop := e = .returned c.val ∧ Below w.heap.size w w'
set_option maxRecDepth 100000 in
set_option maxHeartbeats 3200000 in
theorem hat_any (P : Pool w0 lf cs pA pc gp op) (h : Hm w0 lf cs pA pc hb mb W) {i : Int} (hi : Spot cs i) :
  Calls Tryz.prog 49 #[.pointer (some ⟨hb, 0, none⟩), .int .i64 i] W (GivesC (atC lf cs i) W) := by
 have kl := h.leaf
 have kp := h.pool
 have hlen := P.len
 rcases hi with rfl | ⟨h1, h2⟩
 ·have ha : atC lf cs (-1) = lf := by unfold atC; rw [if_pos rfl]
  rw [ha]
  clear kp ha
  go_enter Tryz.func49, Tryz.ntmps49
  go_wp2_with (first
   | ((with_reducible refine wpList_alloc_row ?_ 30 ?_ Crt.none.cells zero_cert ?_); (· rfl); (· rfl); intro g1 w1 hg1 V1 z1 e1; have kl : w1.rangeAt hb 0 lf.cells := fun j v hv => (e1.cell (p := ⟨hb, 0 + j, none⟩) h.row.1).trans (kl j v hv))
   | ((with_reducible refine wpList_load_mid ?_ 30 (.tmp 9) ?_ hb 0 ?_ lf.cells _ kl Tryz.underlying30 ?_ (sz_crt _) ?_); (· rfl); (· rfl); (· rfl); (· rfl))
   | ((with_reducible refine wpList_store_cut ?_ 30 (.tmp 4) (.tmp 10) ?_ g1 0 lf.cells _ ?_ ?_ V1 ?_ (sz_crt _) (crt_one _) ?_); (· rfl); (· rfl); (· rfl); (· rfl); (· rfl); intro w9 hst))
  refine bodyPost_ret (results_row rfl _ _ g1 0 lf.cells _ rfl hst.2.2.1.range Tryz.underlying30 rfl (sz_crt _)) rfl ?_
  exact ⟨rfl, below_only e1 hst.1 e1.size (by rw [hg1.out]; exact Nat.le_refl _)⟩
 ·obtain ⟨k, rfl⟩ : ∃ k : Nat, i = (k : Int) := ⟨i.toNat, by omega⟩
  have hk : k < cs.length := by omega
  obtain ⟨c, hc⟩ : ∃ c, cs[k]? = some c := ⟨_, List.getElem?_eq_getElem hk⟩
  have ha : atC lf cs (k : Int) = c := by unfold atC; rw [if_neg (by omega), Int.toNat_natCast, hc]; rfl
  rw [ha]
  have hA := P.A.resolve_left (by rintro rfl; simp at hk)
  rw [hA] at kp
  have z1 : ((k : Int) == -1) = false := by simp
  have Rc := crt_row (P.row.below h.below) hc
  have kc := Rc.2
  clear kl ha
  go_enter Tryz.func49, Tryz.ntmps49
  go_wp2_with (first
   | ((with_reducible refine wpList_alloc_row ?_ 30 ?_ Crt.none.cells zero_cert ?_); (· rfl); (· rfl); intro g1 w1 hg1 V1 z1 e1; have kp := (e1.cell (p := ⟨hb, 24, none⟩) h.row.1).trans kp; have kc := (Rc.below e1).2)
   | ((with_reducible refine wpList_load_mid ?_ 30 (.tmp 16) ?_ gp (op + k * 24) ?_ c.cells _ kc Tryz.underlying30 ?_ (sz_crt _) ?_); (· rfl); (· rfl); (· rfl); (· rfl))
   | ((with_reducible refine wpList_store_cut ?_ 30 (.tmp 4) (.tmp 17) ?_ g1 0 c.cells _ ?_ ?_ V1 ?_ (sz_crt _) (crt_one _) ?_); (· rfl); (· rfl); (· rfl); (· rfl); (· rfl); intro w9 hst))
  refine bodyPost_ret (results_row rfl _ _ g1 0 c.cells _ rfl hst.2.2.1.range Tryz.underlying30 rfl (sz_crt _)) rfl ?_
  exact ⟨rfl, below_only e1 hst.1 e1.size (by rw [hg1.out]; exact Nat.le_refl _)⟩
def OpenPost (w0 : World) (lf : Crt) (cs : List Crt) (pA : Option Addr) (pc : Nat) (e : Ending) (W : World) : Prop := ∃ hb mb, e = .returned (.pointer (some ⟨hb, 0, none⟩)) ∧ Hm w0 lf cs pA pc hb mb W
set_option maxRecDepth 100000 in
set_option maxHeartbeats 400000 in
theorem chOpen_any (P : Pool w0 lf cs pA pc gp op) : Calls Tryz.prog 46 #[lf.val, .slice pA cs.length pc] w0 (OpenPost w0 lf cs pA pc) := by
 obtain ⟨w1, hw1⟩ : ∃ w1, w1 = w0.alloc (.cells lf.cells.toArray 30) := ⟨_, rfl⟩
 have e1 : Below w0.heap.size w0 w1 := by rw [hw1]; exact (Below.refl _ _).alloc (Nat.le_refl _) _
 have z1 : w1.heap.size = w0.heap.size + 1 := by rw [hw1]; simp
 have R1 : Row w1 w0.heap.size 0 lf.cells := by rw [hw1]; exact row_new _
 have hmm := @run_makeMap Tryz.prog
 unfold Crt.val
 go_enter Tryz.func46, Tryz.ntmps46
 go_upto_region 1 with fail
 rw [← hw1]
 clear hw1
 go_wp2_with (first
  | ((with_reducible refine wpList_load_mid ?_ 30 (.tmp 2) ?_ w0.heap.size 0 ?_ lf.cells _ R1.rng Tryz.underlying30 ?_ (sz_crt _) ?_); (· rfl); (· rfl); (· rfl); (· rfl))
  | (refine wpList_build_at rfl 141 _ rfl (lf.cells ++ [Value.slice pA cs.length pc, Value.map (some (w0.heap.size + 1))]) (by kernel_rfl) ?_))
 obtain ⟨w2, hw2⟩ : ∃ u, u = w1.alloc (.map #[] 0) := ⟨_, rfl⟩
 obtain ⟨w3, hw3⟩ : ∃ u, u = w2.alloc (.cells (lf.cells ++ [Value.slice pA cs.length pc, Value.map (some (w0.heap.size + 1))]).toArray 141) := ⟨_, rfl⟩
 rw [← hw2, ← hw3]
 go_ret
 have z2 : w2.heap.size = w0.heap.size + 1 + 1 := by rw [hw2]; simp [z1]
 have e2 : Below w1.heap.size w1 w2 := by rw [hw2]; exact (Below.refl _ _).alloc (Nat.le_refl _) _
 have e3 : Below w2.heap.size w2 w3 := by rw [hw3]; exact (Below.refl _ _).alloc (Nat.le_refl _) _
 have t2 : Tbl (sgAt lf cs) w2 (w0.heap.size + 1) := by rw [hw2, ← z1]; exact Tbl.made w1
 have r3 : Row w3 (w0.heap.size + 1 + 1) 0 (lf.cells ++ [Value.slice pA cs.length pc, Value.map (some (w0.heap.size + 1))]) := by rw [hw3, ← z2]; exact row_new _
 exact ⟨_, _, rfl, ⟨(e1.trans (e2.mono e1.size)).trans (e3.mono (by omega)), r3, by omega, by omega, by omega, t2.below e3⟩⟩
end
end Go.Proofs.YtchaahnhpeoomaaGreat
