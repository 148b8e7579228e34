/-
 chain.Reach: all certificates that stand in some row, in their order.
-/
import Derived.Test.YtchaahnhpeoomaaGreatPChL
namespace Go.Proofs.YtchaahnhpeoomaaGreat
set_option linter.unusedVariables false
set_option linter.unusedSimpArgs false
set_option maxRecDepth 20000
open Go.RowKit
theorem left_step (i : Int) (ix : Nat) : (if i = (ix : Int) then true else decide (0 ≤ i ∧ i < (ix : Int))) = decide (0 ≤ i ∧ i < ((ix + 1 : Nat) : Int)) := by
 by_cases h : i = (ix : Int)
 ·rw [if_pos h]
  exact (decide_eq_true (by omega)).symm
 ·rw [if_neg h]
  exact decide_eq_decide.2 (by omega)
def ReachPost (lf : Crt) (cs : List Crt) (w : World) (e : Ending) (W : World) : Prop := Below w.heap.size w W ∧ ∃ g c, e = .returned (.slice (some ⟨g, 0, none⟩) (hse lf cs).reach.length c) ∧ (hse lf cs).reach.length ≤ c ∧ c ≤ maxLen ∧ w.heap.size ≤ g ∧ Row W g 0 (crtCells (hse lf cs).reach)
structure Rs (w2 : World) (lf : Crt) (cs : List Crt) (mL b6 b7 : Nat) (V : Nat → Value) (Pre : List Int) (t6 : Value) (U : World) : Prop where
 below : Below w2.heap.size w2 U
 size : b7 ≤ U.heap.size
 lv : ∀ j, j < 8 → ∃ A c, V j = .slice A ((hse lf cs).lvl j).length c ∧ ((hse lf cs).lvl j = [] ∨ ∃ b, A = some ⟨b, 0, none⟩ ∧ b6 ≤ b ∧ b < b7 ∧ Row U b 0 (((hse lf cs).lvl j).map intV))
 left : LeftM U mL cs.length (fun i => decide (0 ≤ i ∧ i < (cs.length : Int)) && !Pre.contains i)
 out : U.ownsRow w2.heap.size 30 24 t6 (1 + (Chn.fresh [-1] Pre).length) (crtCells (lf :: (Chn.fresh [-1] Pre).map (hse lf cs).at))
 blk : ∀ b, t6.ownBlock = some b → b ≠ mL ∧ (b < b6 ∨ b7 ≤ b)
theorem fresh_len {cs : List Crt} (hl : cs.length ≤ 16) {Pre : List Int} (h : ∀ i ∈ Pre, Spot cs i) : (Chn.fresh [-1] Pre).length ≤ 16 := by
 refine Nat.le_trans (Chn.nodup_len (n := cs.length) Chn.fresh_nodup fun i hi => ?_) hl
 obtain ⟨h1, h2⟩ := Chn.mem_fresh.1 hi
 rcases h i h1 with rfl | h3
 ·simp at h2
 ·exact h3
section
variable {w2 : World} {lf : Crt} {cs : List Crt} {mL b6 b7 : Nat} {V : Nat → Value} {Pre : List Int} {t6 : Value} {U U' : World}
theorem Rs.grow (h : Rs w2 lf cs mL b6 b7 V Pre t6 U) (g : Below U.heap.size U U') : Rs w2 lf cs mL b6 b7 V Pre t6 U' :=
 ⟨h.below.trans (g.mono h.below.size), Nat.le_trans h.size g.size, fun j hj => by
  obtain ⟨A, c, e, hl⟩ := h.lv j hj
  exact ⟨A, c, e, hl.imp id fun ⟨b, e1, e2, e3, e4⟩ => ⟨b, e1, e2, e3, e4.below g⟩⟩, h.left.below g, h.out.kept (only_of_below g none) (own_none _), h.blk⟩
end
theorem Rs.skip {w2 : World} {lf : Crt} {cs : List Crt} {mL b6 b7 : Nat} {V : Nat → Value} {Pre : List Int} {t6 : Value} {U : World} {y : Int} (h : Rs w2 lf cs mL b6 b7 V Pre t6 U) (hys : Spot cs y) (hq : (decide (0 ≤ y ∧ y < (cs.length : Int)) && !Pre.contains y) = false) : Rs w2 lf cs mL b6 b7 V (Pre ++ [y]) t6 U := by
 have hy : y ∈ [(-1 : Int)] ∨ y ∈ Pre := by
  rcases hys with rfl | h3
  ·exact .inl (by simp)
  ·rw [decide_eq_true h3] at hq
   exact .inr (by simpa using hq)
 have hf : Chn.fresh [-1] (Pre ++ [y]) = Chn.fresh [-1] Pre := by rw [fresh_snoc, if_pos hy]
 refine ⟨h.below, h.size, h.lv, h.left.ext fun i => ?_, by rw [hf]; exact h.out, h.blk⟩
 by_cases e : i = y
 ·subst e
  rw [hq]
  simp
 ·simp [e]
theorem ix_lv0 (V : Nat → Value) (W : World) : (Instr.index 98 (.agg #[V 0, V 1, V 2, V 3, V 4, V 5, V 6, V 7]) (.int .i64 ((0 : Nat) : Int))).run Tryz.prog W = .ok (V 0) W := by kernel_rfl
theorem ix_lv1 (V : Nat → Value) (W : World) : (Instr.index 98 (.agg #[V 0, V 1, V 2, V 3, V 4, V 5, V 6, V 7]) (.int .i64 ((1 : Nat) : Int))).run Tryz.prog W = .ok (V 1) W := by kernel_rfl
theorem ix_lv2 (V : Nat → Value) (W : World) : (Instr.index 98 (.agg #[V 0, V 1, V 2, V 3, V 4, V 5, V 6, V 7]) (.int .i64 ((2 : Nat) : Int))).run Tryz.prog W = .ok (V 2) W := by kernel_rfl
theorem ix_lv3 (V : Nat → Value) (W : World) : (Instr.index 98 (.agg #[V 0, V 1, V 2, V 3, V 4, V 5, V 6, V 7]) (.int .i64 ((3 : Nat) : Int))).run Tryz.prog W = .ok (V 3) W := by kernel_rfl
theorem ix_lv4 (V : Nat → Value) (W : World) : (Instr.index 98 (.agg #[V 0, V 1, V 2, V 3, V 4, V 5, V 6, V 7]) (.int .i64 ((4 : Nat) : Int))).run Tryz.prog W = .ok (V 4) W := by kernel_rfl
theorem ix_lv5 (V : Nat → Value) (W : World) : (Instr.index 98 (.agg #[V 0, V 1, V 2, V 3, V 4, V 5, V 6, V 7]) (.int .i64 ((5 : Nat) : Int))).run Tryz.prog W = .ok (V 5) W := by kernel_rfl
theorem ix_lv6 (V : Nat → Value) (W : World) : (Instr.index 98 (.agg #[V 0, V 1, V 2, V 3, V 4, V 5, V 6, V 7]) (.int .i64 ((6 : Nat) : Int))).run Tryz.prog W = .ok (V 6) W := by kernel_rfl
theorem ix_lv7 (V : Nat → Value) (W : World) : (Instr.index 98 (.agg #[V 0, V 1, V 2, V 3, V 4, V 5, V 6, V 7]) (.int .i64 ((7 : Nat) : Int))).run Tryz.prog W = .ok (V 7) W := by kernel_rfl
theorem ix_lv (V : Nat → Value) (k : Nat) (hk : k < 8) (W : World) : (Instr.index 98 (.agg #[V 0, V 1, V 2, V 3, V 4, V 5, V 6, V 7]) (.int .i64 (k : Int))).run Tryz.prog W = .ok (V k) W := by
 have h : k = 0 ∨ k = 1 ∨ k = 2 ∨ k = 3 ∨ k = 4 ∨ k = 5 ∨ k = 6 ∨ k = 7 := by omega
 rcases h with rfl | rfl | rfl | rfl | rfl | rfl | rfl | rfl
 ·exact ix_lv0 V W
 ·exact ix_lv1 V W
 ·exact ix_lv2 V W
 ·exact ix_lv3 V W
 ·exact ix_lv4 V W
 ·exact ix_lv5 V W
 ·exact ix_lv6 V W
 ·exact ix_lv7 V W
set_option maxRecDepth 100000 in
set_option maxHeartbeats 8000000 in
theorem reach_any {w : World} {lf : Crt} {cs : List Crt} {pA : Option Addr} {pc gp op : Nat} (P : Pool w lf cs pA pc gp op) :
  Calls Tryz.prog 25 #[lf.val, .slice pA cs.length pc] w (ReachPost lf cs w) := by
 obtain ⟨w2, hw2⟩ : ∃ u, u = w.alloc (.cells lf.cells.toArray 30) := ⟨_, rfl⟩
 obtain ⟨g2, hg2⟩ : ∃ g, g = w.heap.size := ⟨_, rfl⟩
 have e2 : Below w.heap.size w w2 := by rw [hw2]; exact (Below.refl _ _).alloc (Nat.le_refl _) _
 have R2 : Row w2 g2 0 lf.cells := by rw [hw2, hg2]; exact row_new _
 replace P := P.below e2
 have hlen := P.len
 have hmm := @run_makeMap Tryz.prog
 replace hg2 := Lib.hid hg2
 unfold Crt.val
 go_enter Tryz.func25, Tryz.ntmps25
 go_upto_region 1 with fail
 refine wp_world (W' := w2) (by rw [hw2]) ?_
 rw [← hg2.out]
 clear hw2
 go_wp2_with ((with_reducible refine wpList_load_mid ?_ 30 (.tmp 2) ?_ g2 0 ?_ lf.cells _ R2.rng Tryz.underlying30 ?_ (sz_crt _) ?_); (· rfl); (· rfl); (· rfl); (· rfl))
 refine (chOpen_any P).mono ?_
 rintro e w3 ⟨hb, mb, rfl, H3⟩
 have R23 := R2.below H3.below
 have hbl := H3.row.1
 have hml := H3.tbl.lt
 have hs3 := H3.below.size
 go_upto_region 3 with (first
  | ((with_reducible refine wpList_load_mid ?_ 30 (.tmp 2) ?_ g2 0 ?_ lf.cells _ R23.rng Tryz.underlying30 ?_ (sz_crt _) ?_); (· rfl); (· rfl); (· rfl); (· rfl))
  | (refine wpList_build_certO rfl (.tmp 18) rfl lf rfl ?_; intro g4 w4 hg4 o4 e4))
 obtain ⟨w5, hw5⟩ : ∃ u, u = w4.alloc (.map #[] 0) := ⟨_, rfl⟩
 obtain ⟨mL, hmL⟩ : ∃ m, m = w4.heap.size := ⟨_, rfl⟩
 refine wp_world hw5 ?_
 rw [← hmL]
 have e5 : Below w4.heap.size w4 w5 := by rw [hw5]; exact (Below.refl _ _).alloc (Nat.le_refl _) _
 have l5 : LeftM w5 mL 0 (fun _ => false) := by rw [hw5, hmL]; exact LeftM.made w4
 clear hw5
 have H5 : Hm w2 lf cs pA pc hb mb w5 := (H3.grow e4).grow e5
 have o5 : w5.ownsRow w3.heap.size 30 24 (.slice (some ⟨g4, 0, none⟩) 1 1) 1 (crtCells [lf]) := o4.kept (only_of_below e5 none) (own_none _)
 have hg4' := hg4.out
 have hs4 := e4.size
 have n4 : g4 < mL := by rw [hmL]; exact (o4.lt g4 rfl).2
 replace hmL := Lib.hid hmL
 replace hg4' := Lib.hid hg4'
 clear H3 R23 o4 e4 e5 hg4 R2
 go_wp2_with fail
 go_loopw [23] (fun t wr => ∃ ix : Nat, t = .int .i64 (ix : Int) ∧ ix ≤ cs.length ∧ LeftM wr mL ix (fun i => decide (0 ≤ i ∧ i < (ix : Int))) ∧ w5.grownBy wr (some mL)) (fun t _ => cs.length - (intOf t).toNat)
 case atStart => exact ⟨0, rfl, Nat.zero_le _, l5.ext fun i => by simp, only_refl _ _⟩
 case round =>
  obtain ⟨ix, rfl, hi, lm, gr⟩ := hrel
  have z8 : (ix : Int) ≤ 16 := by omega
  by_cases hix : ix < cs.length
  ·have z9 : (ix : Int) < (cs.length : Int) := by omega
   have hwf : (Lit.int .i64 (ix : Int)).wf = true := spot_wf P (.inr ⟨by omega, z9⟩)
   go_wp2_with (first
    | (refine wpList_build_at rfl 109 _ rfl [] (by kernel_rfl) ?_)
    | (refine wpList_left_put rfl (.tmp 26) (.tmp 27) (.tmp 28) rfl rfl rfl rfl lm (by omega) hwf ?_; intro w6 lm6 gr6))
   go_roundw
   case rel => exact ⟨ix + 1, by go_num, by omega, lm6.ext fun i => left_step i ix, only_trans gr gr6⟩
   case measure =>
    simp [intOf]
    omega
  ·have z9 : ¬ (ix : Int) < (cs.length : Int) := by omega
   obtain rfl : ix = cs.length := by omega
   have hmL' := hmL.out
   have Hw : Hm w2 lf cs pA pc hb mb wr := H5.new gr (fun b e => by cases e; omega)
   have ow := o5.kept gr (.inr (by show some g4 ≠ some mL; simp; omega))
   have hmlt := lm.lt
   clear hmL'
   go_wp2_with fail
   refine (levels_any P Hw).mono ?_
   rintro e w7 ⟨V, rfl, gr7, t7, own7⟩
   have lm7 := lm.kept gr7 (by have := hg4'.out; simp; omega)
   have o7 := ow.kept gr7 (.inr (by have := hg4'.out; show some g4 ≠ some mb; simp; omega))
   have h7b : Below w2.heap.size w2 w7 := (Hw.step gr7 t7).below
   have rs : Rs w2 lf cs mL wr.heap.size w7.heap.size V [] (.slice (some ⟨g4, 0, none⟩) 1 1) w7 := by
    refine ⟨h7b, Nat.le_refl _, fun j hj => ?_, lm7.ext fun i => by simp, own_base o7 hs3, fun b e => ?_⟩
    ·obtain ⟨A', c', e', hl'⟩ := own_row (own7 j hj)
     exact ⟨A', c', e', hl'.imp id fun ⟨b, h1, h2, h3⟩ => ⟨b, h1, h2, h3.1, h3⟩⟩
    ·have e : g4 = b := Option.some.inj e
     subst e
     exact ⟨by omega, .inl (by omega)⟩
   clear l5 o5 H5 gr Hw ow lm7 o7 gr7 t7 own7 lm
   obtain ⟨b6, hb6⟩ : ∃ b, b = wr.heap.size := ⟨_, rfl⟩
   obtain ⟨b7, hb7⟩ : ∃ b, b = w7.heap.size := ⟨_, rfl⟩
   rw [← hb6, ← hb7] at rs
   have hLb : mL < b6 := by rw [hb6]; exact hmlt
   replace hb6 := Lib.hid hb6
   replace hb7 := Lib.hid hb7
   clear hmlt h7b
   go_wp2_with fail
   go_loopw [6, 32] (fun t6 t32 wr => ∃ k : Nat, t32 = .int .i64 (k : Int) ∧ k ≤ 8 ∧ Rs w2 lf cs mL b6 b7 V ((List.range k).flatMap (hse lf cs).lvl) t6 wr) (fun _ t _ => 8 - (intOf t).toNat)
   case atStart => exact ⟨0, rfl, by omega, rs⟩
   case round =>
    clear rs
    obtain ⟨k, rfl, hk, rs⟩ := hrel
    have zk : (k : Int) ≤ 8 := by omega
    by_cases hk8 : k < 8
    ·have z8 : (k : Int) < 8 := by omega
     obtain ⟨A', c', hV, hrow⟩ := rs.lv k hk8
     have hll := lvl_len lf cs hlen k
     obtain ⟨xs, hxs⟩ : ∃ xs, xs = (hse lf cs).lvl k := ⟨_, rfl⟩
     rw [← hxs] at hV hrow hll
     replace hxs := Lib.hid hxs
     have hix := ix_lv V k hk8
     rw [hV] at hix
     go_wp2_with fail
     clear hix
     go_loopw [6, 37] (fun t6 t37 wr => ∃ ix : Nat, t37 = .int .i64 (ix : Int) ∧ ix ≤ xs.length ∧ Rs w2 lf cs mL b6 b7 V ((List.range k).flatMap (hse lf cs).lvl ++ xs.take ix) t6 wr) (fun _ t _ => xs.length - (intOf t).toNat)
     case atStart => exact ⟨0, rfl, Nat.zero_le _, by rw [List.take_zero, List.append_nil]; exact rs⟩
     case round =>
      clear rs hrow
      obtain ⟨ix, rfl, hi, rs⟩ := hrel
      have z16 : (ix : Int) ≤ 16 := by omega
      by_cases hix : ix < xs.length
      ·have z9 : (ix : Int) < (xs.length : Int) := by omega
       obtain ⟨y, hy⟩ : ∃ y, xs[ix]? = some y := ⟨_, List.getElem?_eq_getElem hix⟩
       have hys : Spot cs y := spot_lvl (k := k) (by rw [← hxs.out]; exact List.mem_of_getElem? hy)
       have hyw := spot_wf P hys
       obtain ⟨A2, c2, hV2, hrow2⟩ := rs.lv k hk8
       rw [← hxs.out, hV] at hV2
       rw [← hxs.out] at hrow2
       cases hV2
       obtain ⟨bb, hAb, hb1, hb2, hrr⟩ := hrow2.resolve_left (by rintro h; rw [h] at hix; simp at hix)
       subst hAb
       have ky : wr.cell? ⟨bb, ix, none⟩ = some (.int .i64 y) := by
        have h1 := hrr.2 ix (.int .i64 y) (by simp [hy, intV])
        rwa [Nat.zero_add] at h1
       obtain ⟨Pre, hPre⟩ : ∃ p, p = (List.range k).flatMap (hse lf cs).lvl ++ xs.take ix := ⟨_, rfl⟩
       rw [← hPre] at rs
       have hPs : (List.range k).flatMap (hse lf cs).lvl ++ xs.take (ix + 1) = Pre ++ [y] := by rw [hPre, List.take_add_one, hy, List.append_assoc]; rfl
       have hPin : ∀ i ∈ Pre, Spot cs i := fun i hi' => by
        rw [hPre, List.mem_append, List.mem_flatMap] at hi'
        rcases hi' with ⟨j, _, h⟩ | h
        ·exact spot_lvl h
        ·exact spot_lvl (k := k) (by rw [← hxs.out]; exact List.mem_of_mem_take h)
       have hfl := fresh_len hlen hPin
       replace hPs := Lib.hid hPs
       clear hPre hrr
       obtain ⟨q, hq⟩ : ∃ q, (decide (0 ≤ y ∧ y < (cs.length : Int)) && !Pre.contains y) = q := ⟨_, rfl⟩
       go_upto_region 15 with (at_lookup; refine wpList_left_get rfl (.tmp 42) (.tmp 43) rfl rfl rfl rs.left hyw q hq ?_)
       obtain ⟨w9, hw9⟩ : ∃ u, u = wr.alloc (.cells #[] 109) := ⟨_, rfl⟩
       refine wp_world hw9 ?_
       have e9 : Below wr.heap.size wr w9 := by rw [hw9]; exact (Below.refl _ _).alloc (Nat.le_refl _) _
       have rs9 := rs.grow e9
       clear hw9 rs ky
       replace hq := Lib.hid hq
       cases q
       case false =>
        go_wp2_with fail
        go_roundw
        case rel => exact ⟨ix + 1, by go_num, by omega, by rw [hPs.out]; exact rs9.skip hys hq.out⟩
        case measure =>
         simp [intOf]
         omega
       case true =>
        have hq2 := hq.out
        simp only [Bool.and_eq_true, decide_eq_true_eq, Bool.not_eq_true'] at hq2
        obtain ⟨⟨hy0, hy1⟩, hy2⟩ := hq2
        obtain ⟨j, rfl⟩ : ∃ j : Nat, y = (j : Int) := ⟨y.toNat, by omega⟩
        have hj : j < cs.length := by omega
        obtain ⟨c, hc⟩ : ∃ c, cs[j]? = some c := ⟨_, List.getElem?_eq_getElem hj⟩
        have hA := P.A.resolve_left (by rintro rfl; simp at hj)
        subst hA
        have hmL9 := rs9.left
        go_upto_region 17 with (at_delete; refine wpList_left_del rfl (.tmp 48) (.tmp 49) rfl rfl rfl hmL9 hyw ?_; intro w10 lm10 gr10)
        go_frame
        have e10 : Below w2.heap.size w2 w10 := below_only rs9.below gr10 rs9.below.size (by have := hmL.out; have := hg4'.out; omega)
        have hmLw : mL < w9.heap.size := hmL9.lt
        have o10 := rs9.out.kept gr10 (by
         cases e : u6.ownBlock with
         | none => exact .inl rfl
         | some b => exact .inr (by simpa using (rs9.blk b e).1))
        have Rc := crt_row (P.row.below e10) hc
        have zj : (j : Int) < (cs.length : Int) := by omega
        have hn10 : u6.ownBlock ≠ some mL := fun e => (rs9.blk mL e).1 rfl
        have hsz10 := gr10.size
        have hs72 := rs9.size
        go_wp2_with (first
         | ((with_reducible refine wpList_load_mid ?_ 30 (.tmp 53) ?_ gp (op + j * 24) ?_ c.cells _ Rc.rng Tryz.underlying30 ?_ (sz_crt _) ?_); (· rfl); (· rfl); (· rfl); (· rfl))
         | (refine wpList_build_certO rfl (.tmp 54) rfl c rfl ?_; intro g26 w26 hg26 o26 e26)
         | (at_builtin; refine wpList_append_crtG rfl (.tmp 50) (.tmp 55) rfl w2.heap.size u6 (lf :: (Chn.fresh [-1] Pre).map (hse lf cs).at) _ rfl (by simp; omega) (o10.kept (only_of_below e26 none) (own_none u6)) g26 c rfl o26 (by omega) (Nat.le_trans e10.size e26.size) ?_; intro v27 w27 o27 gr27 loc27))
        have s26 := e26.size
        have r27n : ∀ b, u6.ownBlock = some b → b ≠ mL ∧ (b < b6 ∨ b7 ≤ b) ∧ w2.heap.size ≤ b := fun b e => ⟨(rs9.blk b e).1, (rs9.blk b e).2, (rs9.out.lt b e).1⟩
        have hf : Chn.fresh [-1] (Pre ++ [(j : Int)]) = Chn.fresh [-1] Pre ++ [(j : Int)] := by
         rw [fresh_snoc, if_neg]
         rintro (h | h)
         ·have := List.mem_singleton.1 h
          omega
         ·rw [List.contains_iff_mem.2 h] at hy2
          cases hy2
        have hat : (hse lf cs).at (j : Int) = c := by
         rw [hse_at]
         unfold atC
         rw [if_neg (by omega), Int.toNat_natCast, hc]
         rfl
        have rs27 : Rs w2 lf cs mL b6 b7 V (Pre ++ [(j : Int)]) v27 w27 := by
         refine ⟨?_, by have := gr27.size; omega, fun q hq' => ?_, ?_, ?_, fun b e => ?_⟩
         ·have h1 := e10.trans (e26.mono e10.size)
          exact ⟨gr27.os.trans h1.os, gr27.tape.trans h1.tape, gr27.output.trans h1.output, Nat.le_trans h1.size gr27.size, fun k hk => (gr27.block k (Nat.lt_of_lt_of_le hk h1.size) (fun e => by have := (r27n k e.symm).2.2; omega)).trans (h1.block k hk)⟩
         ·obtain ⟨A3, c3, h3, h4⟩ := rs9.lv q hq'
          refine ⟨A3, c3, h3, h4.imp id fun ⟨b, f1, f2, f3, f4⟩ => ⟨b, f1, f2, f3, ?_⟩⟩
          have f5 : Row w10 b 0 _ := f4.keep gr10.size (gr10.block b f4.1 (fun e => by have := Option.some.inj e; omega))
          have f6 := f5.below e26
          exact f6.keep gr27.size (gr27.block b f6.1 (fun e => by have := (r27n b e.symm).2.1; omega))
         ·refine ((lm10.below e26).kept gr27 (fun e => (r27n mL e.symm).1 rfl)).ext fun i => ?_
          by_cases e : i = (j : Int)
          ·subst e
           simp
          ·simp [e]
         ·rw [hf, List.map_append, List.length_append]
          have h1 : 1 + ((Chn.fresh [-1] Pre).length + [(j : Int)].length) = 1 + (Chn.fresh [-1] Pre).length + 1 := by simp; omega
          rw [h1, show List.map (hse lf cs).at [(j : Int)] = [c] by rw [List.map_cons, hat]; rfl]
          exact o27
         ·rcases loc27 with h1 | h1
          ·rw [h1] at e
           exact ⟨(r27n b e).1, (r27n b e).2.1⟩
          ·rw [h1] at e
           have e := Option.some.inj e
           exact ⟨by omega, .inr (by omega)⟩
        clear o27 gr27 loc27 o10 gr10 lm10 e26 o26
        go_roundw
        case rel => exact ⟨ix + 1, by go_num, by omega, by rw [hPs.out]; exact rs27⟩
        case measure =>
         simp [intOf]
         omega
      ·obtain rfl : ix = xs.length := by omega
       have z9 : ¬ (xs.length : Int) < (xs.length : Int) := by omega
       go_wp2_with fail
       go_roundw
       case rel => exact ⟨k + 1, by go_num, by omega, by rw [List.range_succ, List.flatMap_append]; rw [List.take_length, hxs.out] at rs; simpa using rs⟩
       case measure =>
        simp [intOf]
        omega
    ·obtain rfl : k = 8 := by omega
     have hsp : ∀ i ∈ (List.range 8).flatMap (hse lf cs).lvl, Spot cs i := fun i hi' => by
      obtain ⟨j, _, h⟩ := List.mem_flatMap.1 hi'
      exact spot_lvl h
     have hR : (hse lf cs).reach = lf :: (Chn.fresh [-1] ((List.range 8).flatMap (hse lf cs).lvl)).map (hse lf cs).at := rfl
     have o8 := rs.out
     rw [← hR] at o8
     have hRl : (hse lf cs).reach.length = 1 + (Chn.fresh [-1] ((List.range 8).flatMap (hse lf cs).lvl)).length := by rw [hR]; simp; omega
     rw [← hRl] at o8
     obtain ⟨gR, cR, rfl, hcR, hmR, hbR, rowR⟩ := own_crt o8 (by omega)
     have hbel := rs.below
     have hs2 := e2.size
     replace hR := Lib.hid hR
     replace hRl := Lib.hid hRl
     clear rs o8
     go_wp2_with fail
     go_ret
     exact ⟨e2.trans (hbel.mono e2.size), gR, cR, rfl, hcR, hmR, by omega, rowR⟩
end Go.Proofs.YtchaahnhpeoomaaGreat
