/-
  Eight rows of ints in an array: what they hold, where they lie, and how one of them is put in.
-/
import Derived.Test.YtchaahnhpeoomaaGreatQChA
import Derived.Test.YtchaahnhpeoomaaGreatQRegF
import Derived.Maps.AppendAt
namespace Go.Proofs.YtchaahnhpeoomaaGreat
set_option linter.unusedVariables false
set_option linter.unusedSimpArgs false
set_option maxRecDepth 20000
open Go.RowKit
theorem zero_k2 : (Tryz.prog.info? 142).map (fun i => i.zero) = some (some (.agg [.int .i64 0, .int .i64 0].toArray)) := by kernel_rfl
theorem sz_k2 : (Tryz.prog.info? 142).map (·.size) = some 2 := by kernel_rfl
theorem zero_told : (Tryz.prog.info? 144).map (fun i => i.zero) = some (some (toldV false)) := by kernel_rfl
theorem sz_told : (Tryz.prog.info? 144).map (·.size) = some 1 := by kernel_rfl
theorem fa_house2 (g off : Nat) (W : World) : (Instr.fieldAt 141 (.pointer (some ⟨g, off, none⟩)) 2).run Tryz.prog W = .ok (.pointer (some ⟨g, off + 25, none⟩)) W := by go_simp
theorem ld_known (p : Addr) (v : Value) : ∀ W : World, W.cell? p = some v → (Instr.loadAt 139 (.pointer (some p))).run Tryz.prog W = .ok v W := fun W h => by go_simp
theorem spot_wf {w0 : World} {lf : Crt} {cs : List Crt} {pA : Option Addr} {pc gp op : Nat} (P : Pool w0 lf cs pA pc gp op) {i : Int} (h : Spot cs i) : (Lit.int .i64 i).wf = true := by
 have := P.len
 have hb : -1 ≤ i ∧ i < 16 := by rcases h with rfl | ⟨h1, h2⟩ <;> omega
 unfold Lit.wf
 simp [IntKind.min, IntKind.max, IntKind.bits, IntKind.signed]
 omega
theorem cut_map {W : World} {g o : Nat} {v : Value} {vs : List Value} {es : Array MapEntry} {cl : Nat} (h : Cut W g o (v :: vs)) (hm : W.heap[g]? = some (.map es cl)) : False := by
 have h1 := h.cell (i := 0) rfl
 simp [World.cell?, hm] at h1
theorem step_mapUpdate {P : Program} {ops : Array Oper} {o : Oper} {a : Act} {w w' : World} {Q : Exit → Act → World → Prop} {K : Act → World → Prop} {E : Prop} (hgd : o.guard = none) (m x v : Operand) (t : TypeId) (hop : o.op = .mapUpdate t m x v) {M key val : Value}
  (hm : a.eval m = M) (hx : a.eval x = key) (hv : a.eval v = val) (hrun : (Instr.mapUpdate t M key val).run P w = .ok () w') (h : K (a.put o.dst undef) w') : if Region.wanted o (yielded ops a.tmps) = true then Oper.wp P o a w K Q else E := by
 rw [if_pos (wanted_free hgd _)]
 unfold Oper.wp
 simp [execOp, hop, hm, hx, hv, hrun, Result.andThen]
 exact h
def HsPost (sg : Int → Int → Bool) (b : Bool) (mb : Nat) (W : World) (e : Ending) (W' : World) : Prop := e = .returned (.bool b) ∧ W.grownBy W' (some mb) ∧ Tbl sg W' mb
def sgtT (hb mb g8 : Nat) (c p : Int) (v ok : Bool) : Nat → Tg
 | 0 => tv (.pointer (some ⟨hb, 0, none⟩))
 | 1 => tv (.pointer (some ⟨hb, 0, none⟩))
 | 2 => tv (.pointer (some ⟨hb, 25, none⟩))
 | 3 => tv (.map (some mb))
 | 4 => tv (keyV c p)
 | 5 => tv (.tuple #[toldV v, .bool ok])
 | 6 => tv (.tuple #[toldV v, .bool ok])
 | 7 => tv (toldV v)
 | 8 => tv (.bool ok)
 | 9 => tv (.pointer (some ⟨g8, 0, none⟩))
 | 10 => fun _ _ => True
 | _ => tv (.bool ok)
theorem stat_sg (hb mb g8 : Nat) (c p : Int) (v ok : Bool) : Static (sgtT hb mb g8 c p v ok) := fun j x W W' h => by
 unfold sgtT at *
 split at h <;> exact h
def sgtG (w1 : World) (g8 : Nat) (v : Bool) (d : Nat → Bool) (_ : Nat → Value) (W : World) : Prop := Below w1.heap.size w1 W ∧ match d 9, d 10 with
 | false, false => W.heap.size = g8
 | true, false => Cut W g8 0 [.bool false]
 | true, true => Cut W g8 0 [.bool v]
 | false, true => False
def sguT (hb mb : Nat) (c p : Int) (b : Bool) : Nat → Tg
 | 0 => tv (.pointer (some ⟨hb, 0, none⟩))
 | 1 => tv (.pointer (some ⟨hb, 0, none⟩))
 | 2 => tv (.pointer (some ⟨hb, 25, none⟩))
 | 3 => tv (.map (some mb))
 | 4 => tv (keyV c p)
 | _ => tv (toldV b)
set_option maxRecDepth 100000 in
set_option maxHeartbeats 4000000 in
theorem hsigned_any {w0 : World} {lf : Crt} {cs : List Crt} {pA : Option Addr} {pc gp op hb mb : Nat} {W : World} (P : Pool w0 lf cs pA pc gp op) (h : Hm w0 lf cs pA pc hb mb W) {c p : Int} (hc : Spot cs c) (hp : Spot cs p) :
  Calls Tryz.prog 54 #[.pointer (some ⟨hb, 0, none⟩), .int .i64 c, .int .i64 p] W (HsPost (sgAt lf cs) (sgAt lf cs c p) mb W) := by
 obtain ⟨cw, pw⟩ : (Lit.int .i64 c).wf = true ∧ (Lit.int .i64 p).wf = true := ⟨spot_wf P hc, spot_wf P hp⟩
 have hE : Below W.heap.size W W := Below.refl _ _
 go_enter Tryz.func54, Tryz.ntmps54
 go_upto_region 2 with (first
  | (refine wpList_build_at rfl 142 _ rfl [.int .i64 c, .int .i64 p] (by kernel_rfl) ?_)
  | ((with_reducible refine wpList_alloc_row ?_ 142 ?_ [.int .i64 0, .int .i64 0] zero_k2 ?_); (· rfl); (· rfl); intro g1 wa1 hg1 V1 z1 e1)
  | (refine wpList_store_cut rfl 142 (.tmp 7) (.tmp 12) rfl g1 0 [.int .i64 c, .int .i64 p] _ rfl rfl V1 rfl sz_k2 ((fun u hu => by simp at hu; rcases hu with rfl | rfl <;> rfl)) ?_; intro w1 hst1))
 have b1 : Below W.heap.size W w1 := below_only e1 hst1.1 e1.size (by have := hg1.out; omega)
 have D1 : Row w1 g1 0 [.int .i64 c, .int .i64 p] := Row.of_cut hst1.2.2.1
 have hgn : W.heap.size ≤ g1 := by have := hg1.out; omega
 clear V1 z1 e1 hst1
 have H1 := h.grow b1
 have hE1 := b1
 clear b1 hE
 obtain ⟨ok, v, hok, hlook⟩ := H1.tbl.look (c := c) (p := p) cw pw
 have hlook : ∀ W, Below w1.heap.size w1 W → (Instr.lookup 139 (.map (some mb)) (keyV c p) true).run Tryz.prog W = .ok (.tuple #[toldV v, .bool ok]) W := fun W hbe => hlook W (hbe.block mb H1.tbl.lt)
 have hr : ∀ W, Below w1.heap.size w1 W → W.cell? ⟨hb, 25, none⟩ = some (.map (some mb)) := fun W b => (b.cell (p := ⟨hb, 25, none⟩) H1.row.1).trans H1.known
 obtain ⟨g8, hg8⟩ : ∃ g, g = w1.heap.size := ⟨_, rfl⟩
 replace hg8 := Lib.hid hg8
 have ne18 : g1 ≠ g8 := by have := D1.1; have := hg8.out; omega
 replace hok := Lib.hid hok
 refine wp_region_eff (by kernel_rfl) (fun i => i == 9 || i == 10) (fun i => i == 10) (fun i => if i = 6 then 13 else if i = 7 then 20 else if i = 8 then 21 else if i = 9 then 8 else if i = 10 then 1010 else if i = 11 then 9 else 14 + i) (sgtT hb mb g8 c p v ok) (sgtG w1 g8 v) (by kernel_rfl) (by kernel_rfl) ?hno ?inj ?hEs ?hGe ?hG ⟨?s0, ?s1, ?s2, ?s3, ?s4, ?s5, ?s6, ?s7, ?s8, ?s9, ?s10, ?s11, trivial⟩ ?fin
 case hno =>
  intro i h v W
  have h : (i == 10) = true := h
  simp at h
  subst h; trivial
 case inj =>
  intro i j hi hj h
  have h40 : i < 12 ∧ j < 12 := ⟨hi, hj⟩
  have h : (if i = 6 then 13 else if i = 7 then 20 else if i = 8 then 21 else if i = 9 then 8 else if i = 10 then 1010 else if i = 11 then 9 else 14 + i) = (if j = 6 then 13 else if j = 7 then 20 else if j = 8 then 21 else if j = 9 then 8 else if j = 10 then 1010 else if j = 11 then 9 else 14 + j) := h
  (repeat' split at h) <;> omega
 case hEs =>
  intro j h
  have h : (j == 9 || j == 10) = true := h
  show j < 12
  simp at h
  omega
 case hGe => exact fun d d' x x' U h _ hg => by unfold sgtG at *; rw [← h 9 rfl, ← h 10 rfl]; exact hg
 case hG => exact fun x => ⟨below_drewN (Below.refl _ _) 1, hg8.out.symm⟩
 case s0 => exact fun d_ v_ hd_ hc_ => (st_move rfl (.inl rfl) (src_base (fun i hi => by have hi : i < 12 := hi; show (if i = 6 then 13 else if i = 7 then 20 else if i = 8 then 21 else if i = 9 then 8 else if i = 10 then 1010 else if i = 11 then 9 else 14 + i) ≠ 0; (repeat' split) <;> omega) rfl))
 case s1 => exact fun d_ v_ hd_ hc_ => (st_pure (V := .pointer (some ⟨hb, 0, none⟩)) (U := .pointer (some ⟨hb, 0, none⟩)) rfl (src_dep (j := 0) (e := ⟨0, .data⟩) (by simp) rfl rfl rfl) (fun a h W => by
   have h : a.eval (.tmp 14) = .pointer (some ⟨hb, 0, none⟩) := h
   unfold execOp
   simp only [h]
   go_simp) (fun W hg => Sp.tv rfl))
 case s2 => exact fun d_ v_ hd_ hc_ => (st_field rfl rfl rfl (src_dep (j := 1) (e := ⟨1, .data⟩) (by simp) rfl rfl rfl) (fun W => fa_house2 hb 0 W))
 case s3 => exact fun d_ v_ hd_ hc_ => (st_load rfl rfl rfl (src_dep (j := 2) (e := ⟨2, .data⟩) (by simp) rfl rfl rfl) (ld_known _ _) (fun W h => hr W h.1))
 case s4 => exact fun d_ v_ hd_ hc_ => (st_loadR (b := g1) (off := 0) rfl rfl rfl (src_base (fun i hi => by have hi : i < 12 := hi; show (if i = 6 then 13 else if i = 7 then 20 else if i = 8 then 21 else if i = 9 then 8 else if i = 10 then 1010 else if i = 11 then 9 else 14 + i) ≠ 7; (repeat' split) <;> omega) rfl) Tryz.underlying142 rfl sz_k2 (fun W h => (D1.below h.1).rng))
 case s5 => exact fun d_ v_ hd_ hc_ => (st_run rfl (fun a U hba hd hg => ⟨.tuple #[toldV v, .bool ok], U, by
   have u1 : a.eval (.tmp 17) = .map (some mb) := (hd ⟨3, .data⟩ (by simp) rfl).now
   have u2 : a.eval (.tmp 18) = keyV c p := (hd ⟨4, .data⟩ (by simp) rfl).now
   unfold execOp
   simp only [u1, u2, Sem.run_bind, Sem.run_pure, hlook U hg.1, Result.andThen_ok], Sub.refl U, hg, Sp.tv rfl⟩))
 case s6 => exact fun d_ v_ hd_ hc_ => (st_move rfl (.inl rfl) (src_dep (j := 5) (e := ⟨5, .data⟩) (by simp) rfl rfl rfl))
 case s7 => exact fun d_ v_ hd_ hc_ => (st_pure (V := .tuple #[toldV v, .bool ok]) (U := toldV v) rfl (src_dep (j := 6) (e := ⟨6, .data⟩) (by simp) rfl rfl rfl) (fun a h W => by
   have h : a.eval (.tmp 13) = .tuple #[toldV v, .bool ok] := h
   unfold execOp
   simp only [h]
   go_simp) (fun W hg => Sp.tv rfl))
 case s8 => exact fun d_ v_ hd_ hc_ => (st_pure (V := .tuple #[toldV v, .bool ok]) (U := .bool ok) rfl (src_dep (j := 6) (e := ⟨6, .data⟩) (by simp) rfl rfl rfl) (fun a h W => by
   have h : a.eval (.tmp 13) = .tuple #[toldV v, .bool ok] := h
   unfold execOp
   simp only [h]
   go_simp) (fun W hg => Sp.tv rfl))
 case s9 =>
  refine eff_run rfl fun d a U hd hba hdp hal hG => ?_
  obtain ⟨q1, q2⟩ := hG
  rw [hd] at q2
  cases h10 : d 10 with
  | true => rw [h10] at q2; exact q2.elim
  | false =>
   rw [h10] at q2
   have q2 : U.heap.size = g8 := q2
   refine ⟨_, _, run_alloc_op rfl zero_told a U, (stat_sg _ _ _ _ _ _ _).sp (by rw [q2]; rfl), (stat_sg _ _ _ _ _ _ _).keep 9, fun v' _ _ => ⟨q1.alloc q1.size _, ?_⟩⟩
   show match done1 d 9 9, done1 d 9 10 with | false, false => _ | true, false => _ | true, true => _ | false, true => _
   rw [show done1 d 9 9 = true from rfl, show done1 d 9 10 = false from h10]
   rw [← q2]
   exact Cut.of_heap (heap_alloc_new _ _) fun i x hx => by simpa [toldV, Value.cells] using hx
 case s10 =>
  intro d a U hd hba hdp hal hG K hK
  have d9 : d 9 = true := hal ⟨9, .data⟩ (by simp) rfl
  obtain ⟨q1, q2⟩ := hG
  rw [d9, hd] at q2
  have q2 : Cut U g8 0 [.bool false] := q2
  have k1 : a.eval (.tmp 8) = .pointer (some ⟨g8, 0, none⟩) := (hdp ⟨9, .data⟩ (by simp) rfl).now
  have k2 : a.eval (.tmp 20) = toldV v := (hdp ⟨7, .data⟩ (by simp) rfl).now
  refine step_store_cut rfl 144 (.tmp 8) (.tmp 20) rfl g8 0 [.bool v] [.bool false] k1 k2 q2 rfl sz_told (fun u hu => by simp at hu; rw [hu]; rfl) (fun w' hst => hK undef w' (fun _ _ => trivial) ((stat_sg _ _ _ _ _ _ _).keep 10) (fun v' _ _ => ⟨below_only q1 hst.1 q1.size (by rw [hg8.out]; exact Nat.le_refl _), ?_⟩))
  show match done1 d 10 9, done1 d 10 10 with | false, false => _ | true, false => _ | true, true => _ | false, true => _
  rw [show done1 d 10 9 = true from d9, show done1 d 10 10 = true from rfl]
  exact hst.2.2.1
 case s11 => exact fun d_ v_ hd_ hc_ => (st_move rfl (.inr rfl) (src_dep (j := 8) (e := ⟨8, .data⟩) (by simp) rfl rfl rfl))
 case fin =>
  intro a w2 h1 h2 h3 h4 h5
  have b8 : a.tmps.getD 8 undef = .pointer (some ⟨g8, 0, none⟩) := (h4 9 (by show 9 < 12; omega)).now
  have b9 : a.tmps.getD 9 undef = .bool ok := (h4 11 (by show 11 < 12; omega)).now
  have hz : a.tmps.size = 40 := h2
  have hdf : a.defers = [] := h1
  have b0 := h3 0 (fun i hi => by have h8 : i < 12 := hi; show (if i = 6 then 13 else if i = 7 then 20 else if i = 8 then 21 else if i = 9 then 8 else if i = 10 then 1010 else if i = 11 then 9 else 14 + i) ≠ 0; (repeat' split) <;> omega)
  replace b0 : a.tmps.getD 0 undef = .pointer (some ⟨hb, 0, none⟩) := b0
  have b1 := h3 1 (fun i hi => by have h8 : i < 12 := hi; show (if i = 6 then 13 else if i = 7 then 20 else if i = 8 then 21 else if i = 9 then 8 else if i = 10 then 1010 else if i = 11 then 9 else 14 + i) ≠ 1; (repeat' split) <;> omega)
  replace b1 : a.tmps.getD 1 undef = .int .i64 c := b1
  have b2 := h3 2 (fun i hi => by have h8 : i < 12 := hi; show (if i = 6 then 13 else if i = 7 then 20 else if i = 8 then 21 else if i = 9 then 8 else if i = 10 then 1010 else if i = 11 then 9 else 14 + i) ≠ 2; (repeat' split) <;> omega)
  replace b2 : a.tmps.getD 2 undef = .int .i64 p := b2
  have b6 := h3 6 (fun i hi => by have h8 : i < 12 := hi; show (if i = 6 then 13 else if i = 7 then 20 else if i = 8 then 21 else if i = 9 then 8 else if i = 10 then 1010 else if i = 11 then 9 else 14 + i) ≠ 6; (repeat' split) <;> omega)
  replace b6 : a.tmps.getD 6 undef = .bool false := b6
  have b7 := h3 7 (fun i hi => by have h8 : i < 12 := hi; show (if i = 6 then 13 else if i = 7 then 20 else if i = 8 then 21 else if i = 9 then 8 else if i = 10 then 1010 else if i = 11 then 9 else 14 + i) ≠ 7; (repeat' split) <;> omega)
  replace b7 : a.tmps.getD 7 undef = .pointer (some ⟨g1, 0, none⟩) := b7
  rw [act_eq hz hdf]
  simp only [show List.range 40 = [0, 1, 2, 3, 4, 5, 6, 7, 8, 9, 10, 11, 12, 13, 14, 15, 16, 17, 18, 19, 20, 21, 22, 23, 24, 25, 26, 27, 28, 29, 30, 31, 32, 33, 34, 35, 36, 37, 38, 39] from rfl, List.map_cons, List.map_nil, b0, b1, b2, b6, b7, b8, b9]
  clear b0 b1 b2 b6 b7 b8 b9 hz hdf h1 h2 h3 h4
  obtain ⟨q1, V8⟩ := h5
  have V8 : Cut w2 g8 0 [.bool v] := V8
  have H2 := H1.grow q1
  have D2 := D1.below q1
  have hE2 := hE1.trans (q1.mono hE1.size)
  have hg8W : W.heap.size ≤ g8 := by rw [hg8.out]; exact hE1.size
  clear H1 D1 q1 hr hlook
  cases ok
  case true =>
   obtain rfl := hok.out rfl
   have k8 : w2.cell? ⟨g8, 0, none⟩ = some (.bool (sgAt lf cs c p)) := V8.cell (i := 0) rfl
   obtain ⟨b, hb9⟩ : ∃ b, b = sgAt lf cs c p := ⟨_, rfl⟩
   rw [← hb9] at k8
   replace hb9 := Lib.hid hb9
   clear hok
   go_wp2_with fail
   go_ret
   exact ⟨by rw [← hb9.out]; rfl, only_of_below hE2 _, H2.tbl⟩
  case false =>
   clear hok
   go_wp2_with fail
   refine (hat_any P H2 hc).mono ?_
   rintro r3 w3 ⟨rfl, e3⟩
   have H3 := H2.grow e3
   have hE3 := hE2.trans (e3.mono hE2.size)
   have V83 := V8.below e3
   have D3 := D2.below e3
   go_wp2_with fail
   refine (hat_any P H3 hp).mono ?_
   rintro r4 w4 ⟨rfl, e4⟩
   have H4 := H3.grow e4
   have hE4 := hE3.trans (e4.mono hE3.size)
   have V84 := V83.below e4
   have D4 := D3.below e4
   go_wp2_with fail
   have mc := atC_mem (leaf := lf) hc
   have mp := atC_mem (leaf := lf) hp
   refine (chSigned_any (atC lf cs c) (atC lf cs p) w4 ((P.ok _ mc).below H4.below) ((P.ok _ mp).below H4.below) (P.tbs _ mc) (P.key _ mp)).mono ?_
   rintro r5 w5 ⟨rfl, e5⟩
   have H5 := H4.grow e5
   have hE5 := hE4.trans (e5.mono hE4.size)
   have V85 := V84.below e5
   have D5 := D4.below e5
   clear H2 H3 H4 hE2 hE3 hE4 V8 V83 V84 D2 D3 D4 e3 e4 e5 mc mp
   obtain ⟨b, hb9⟩ : ∃ b, b = sgAt lf cs c p := ⟨_, rfl⟩
   rw [show sgB (atC lf cs c) (atC lf cs p) = b from hb9.symm]
   replace hb9 := Lib.hid hb9
   go_upto_region 5 with (first
    | (refine wpList_build_at rfl 144 _ rfl [.bool b] (by kernel_rfl) ?_)
    | (refine wpList_store_cut rfl 144 (.tmp 8) (.tmp 31) rfl g8 0 [.bool b] _ rfl rfl V85 rfl sz_told (fun u hu => by simp at hu; rw [hu]; rfl) ?_; intro w6 hst))
   have e6 : Below W.heap.size W w6 := below_only hE5 hst.1 hE5.size hg8W
   have ne8 : g8 ≠ mb := by
    rintro rfl
    obtain ⟨es, cl, hm, _⟩ := H5.tbl
    exact cut_map V85 hm
   have ne8h : hb ≠ g8 := by have := h.row.1; omega
   have H6 : Hm w0 lf cs pA pc hb mb w6 := ⟨below_only H5.below hst.1 H5.below.size (by have := h.below.size; omega), H5.row.keep hst.1.size (hst.1.block hb H5.row.1 (fun e => ne8h (by simpa using e))), H5.hn, H5.mn, H5.ne, H5.tbl.kept (hst.1.block mb H5.tbl.lt (fun e => ne8 (by simpa using e.symm)))⟩
   have D6 : Row w6 g1 0 [.int .i64 c, .int .i64 p] := D5.keep hst.1.size (hst.1.block g1 D5.1 (fun e => ne18 (by simpa using e)))
   have V86 : Row w6 g8 0 [.bool b] := Row.of_cut hst.2.2.1
   clear H5 D5 V85 hst hE5
   have hr : ∀ U, Below w6.heap.size w6 U → U.cell? ⟨hb, 25, none⟩ = some (.map (some mb)) := fun U b => (b.cell (p := ⟨hb, 25, none⟩) H6.row.1).trans H6.known
   have hd0 : Below w6.heap.size w6 w6.drew := below_drewN (Below.refl _ _) 1
   refine wp_region_last (by kernel_rfl) (fun i => 32 + i) (fun i v W => Sp ((sguT hb mb c p b) i) v W) (fun W => Below w6.heap.size w6 W) (Nat.succ_pos _) (by kernel_rfl) (by kernel_rfl) (by kernel_rfl) ?inj ?lt (fun i v W W' h hs => h.mono hs) hd0 ⟨?s0, ?s1, ?s2, ?s3, ?s4, ?s5, trivial⟩ ?fin
   case inj =>
    intro i j hi hj h
    have h40 : i < 6 ∧ j < 6 := ⟨hi, hj⟩
    have h : 32 + i = 32 + j := h
    omega
   case lt =>
    intro i hi
    have h40 : i < 6 := hi
    show 32 + i < 40
    omega
   case s0 => exact (st_move rfl (.inl rfl) (src_base (fun i hi => by have hi : i < 6 := hi; show 32 + i ≠ _; omega) rfl))
   case s1 => exact (st_pure (V := .pointer (some ⟨hb, 0, none⟩)) (U := .pointer (some ⟨hb, 0, none⟩)) rfl (src_dep (j := 0) (e := ⟨0, .data⟩) (by simp) rfl rfl rfl) (fun a h W => by
     have h : a.eval (.tmp 32) = .pointer (some ⟨hb, 0, none⟩) := h
     unfold execOp
     simp only [h]
     go_simp) (fun W hg => Sp.tv rfl))
   case s2 => exact (st_field rfl rfl rfl (src_dep (j := 1) (e := ⟨1, .data⟩) (by simp) rfl rfl rfl) (fun W => fa_house2 hb 0 W))
   case s3 => exact (st_load rfl rfl rfl (src_dep (j := 2) (e := ⟨2, .data⟩) (by simp) rfl rfl rfl) (ld_known _ _) (fun W h => hr W h))
   case s4 => exact (st_loadR (b := g1) (off := 0) rfl rfl rfl (src_base (fun i hi => by have hi : i < 6 := hi; show 32 + i ≠ _; omega) rfl) Tryz.underlying142 rfl sz_k2 (fun W h => (D6.below h).rng))
   case s5 => exact (st_loadR (b := g8) (off := 0) rfl rfl rfl (src_base (fun i hi => by have hi : i < 6 := hi; show 32 + i ≠ _; omega) rfl) Tryz.underlying144 rfl sz_told (fun W h => (V86.below h).rng))
   case fin =>
    intro o ho' a U h1 h2 h3 h4 h5 K hK
    have k35 : a.eval (.tmp 35) = .map (some mb) := (h4 3 (by show 3 < 6; omega)).now
    have k36 : a.eval (.tmp 36) = keyV c p := (h4 4 (by show 4 < 6; omega)).now
    have k37 : a.eval (.tmp 37) = toldV b := (h4 5 (by show 5 < 6; omega)).now
    cases (Option.some.inj (show some _ = some o from ho'))
    obtain ⟨w7, hrun, t7, g7⟩ := (H6.tbl.below h5).store (c := c) (p := p) cw pw
    rw [show sgAt lf cs c p = b from hb9.out.symm] at hrun
    refine step_mapUpdate rfl (.tmp 35) (.tmp 36) (.tmp 37) 139 rfl k35 k36 k37 hrun (hK _ w7 ?_)
    have hz : a.tmps.size = 40 := h2
    have hdf : a.defers = [] := h1
    have b0 := h3 0 (fun i hi => by have h8 : i < 6 := hi; show (32 + i) ≠ 0; omega)
    replace b0 : a.tmps.getD 0 undef = .pointer (some ⟨hb, 0, none⟩) := b0
    have b1 := h3 1 (fun i hi => by have h8 : i < 6 := hi; show (32 + i) ≠ 1; omega)
    replace b1 : a.tmps.getD 1 undef = .int .i64 c := b1
    have b2 := h3 2 (fun i hi => by have h8 : i < 6 := hi; show (32 + i) ≠ 2; omega)
    replace b2 : a.tmps.getD 2 undef = .int .i64 p := b2
    have b6 := h3 6 (fun i hi => by have h8 : i < 6 := hi; show (32 + i) ≠ 6; omega)
    replace b6 : a.tmps.getD 6 undef = .bool false := b6
    have b8 := h3 8 (fun i hi => by have h8 : i < 6 := hi; show (32 + i) ≠ 8; omega)
    replace b8 : a.tmps.getD 8 undef = .pointer (some ⟨g8, 0, none⟩) := b8
    rw [act_eq hz hdf]
    simp only [show List.range 40 = [0, 1, 2, 3, 4, 5, 6, 7, 8, 9, 10, 11, 12, 13, 14, 15, 16, 17, 18, 19, 20, 21, 22, 23, 24, 25, 26, 27, 28, 29, 30, 31, 32, 33, 34, 35, 36, 37, 38, 39] from rfl, List.map_cons, List.map_nil, b0, b1, b2, b6, b8]
    clear b0 b1 b2 b6 b8 hz hdf h1 h2 h3 h4
    have k8 : w7.cell? ⟨g8, 0, none⟩ = some (.bool b) := ((V86.below h5).keep g7.size (g7.block g8 (V86.below h5).1 (fun e => ne8 (by simpa using e)))).2 0 _ rfl
    go_wp2_with fail
    go_ret
    exact ⟨by rw [← hb9.out]; rfl, only_trans (only_of_below (e6.trans (h5.mono e6.size)) _) g7, t7⟩
def intV (x : Int) : Value := .int .i64 x
def RdI (W : World) (A : Option Addr) (xs : List Int) : Prop := xs = [] ∨ ∃ b o, A = some ⟨b, o, none⟩ ∧ Row W b o (xs.map intV)
theorem RdI.at {W : World} {A : Option Addr} {xs : List Int} (h : RdI W A xs) {k : Nat} {x : Int} (hx : xs[k]? = some x) : ∃ b o, A = some ⟨b, o, none⟩ ∧ W.cell? ⟨b, o + k, none⟩ = some (.int .i64 x) := by
 rcases h with rfl | ⟨b, o, h1, h2⟩
 ·simp at hx
 ·exact ⟨b, o, h1, h2.cell (by simp [hx, intV])⟩
def idxI (p : Int → Bool) (xs : List Int) : Int := match xs.findIdx? p with
 | some i => (i : Int)
 | none => -1
theorem idxI_some {p : Int → Bool} {xs : List Int} {i : Nat} {x : Int} (hc : xs[i]? = some x) (hf : p x = true) (hno : (xs.take i).any p = false) : idxI p xs = (i : Int) := by
 have h : xs.findIdx? p = some i := by
  rw [List.findIdx?_eq_some_iff_getElem]
  obtain ⟨h1, h2⟩ := List.getElem?_eq_some_iff.1 hc
  refine ⟨h1, by rw [h2]; exact hf, fun j hj => ?_⟩
  rw [List.any_eq_false] at hno
  have := hno (xs[j]) (List.mem_take_iff_getElem.2 ⟨j, by omega, rfl⟩)
  simpa using this
 unfold idxI
 rw [h]
theorem idxI_none {p : Int → Bool} {xs : List Int} (hno : xs.any p = false) : idxI p xs = -1 := by
 have h : xs.findIdx? p = none := by
  rw [List.findIdx?_eq_none_iff]
  intro c hc
  rw [List.any_eq_false] at hno
  simpa using hno c hc
 unfold idxI
 rw [h]
theorem idxI_any (p : Int → Bool) (xs : List Int) : decide (0 ≤ idxI p xs) = xs.any p := by
 unfold idxI
 cases h : xs.findIdx? p with
 | none =>
  rw [List.findIdx?_eq_none_iff] at h
  rw [eq_comm]
  simp
  exact h
 | some i =>
  rw [List.findIdx?_eq_some_iff_getElem] at h
  obtain ⟨h1, h2, h3⟩ := h
  rw [eq_comm]
  simp
  exact ⟨_, List.getElem_mem h1, h2⟩
set_option maxRecDepth 100000 in
set_option maxHeartbeats 1600000 in
theorem indexI_any (f : Nat) (cap : Array Value) (hcf : ∀ (vs : Array Value) (w : World), (callFunc f vs).run Tryz.prog w = .ok (.enter f vs) w) (I : World → Prop) (p : Int → Bool) (A : Option Addr) (n c : Nat) (xs : List Int) (hn : n = xs.length) (hl : n ≤ 1000)
  (hx : ∀ U, I U → RdI U A xs) (hcall : ∀ U x, x ∈ xs → I U → Calls Tryz.prog f (#[.int .i64 x] ++ cap) U (fun e U' => e = .returned (.bool (p x)) ∧ I U')) (w : World) (hI : I w) :
  Calls Tryz.prog 55 #[.slice A n c, .func (.func f) #[] cap] w (fun e U' => e = .returned (.int .i64 (idxI p xs)) ∧ I U') := by
 subst hn
 go_enter Tryz.func55, Tryz.ntmps55
 go_wp2_with fail
 go_loopw [8] (fun t wr => ∃ k : Nat, t = .int .i64 (k : Int) ∧ k ≤ xs.length ∧ Hid ((xs.take k).any p = false) ∧ I wr) (fun t _ => xs.length - (intOf t).toNat)
 case atStart => exact ⟨0, rfl, Nat.zero_le _, by simp [Hid], hI⟩
 case round =>
  obtain ⟨k, rfl, hk, h0, hi⟩ := hrel
  by_cases hlt : k < xs.length
  ·obtain ⟨x, hgx⟩ : ∃ x, xs[k]? = some x := ⟨_, List.getElem?_eq_getElem hlt⟩
   obtain ⟨b, o, rfl, hcell⟩ := (hx _ hi).at hgx
   have HG := Lib.hid hgx
   have hcl := hcall wr x (List.mem_of_getElem? hgx) hi
   have z1 : (k : Int) < (xs.length : Int) := by omega
   have HT := Lib.hid (show xs.take (k + 1) = xs.take k ++ [x] by rw [List.take_add_one, hgx]; rfl)
   clear hgx
   cases hF : p x with
   | true =>
    rw [hF] at hcl
    replace hF := Lib.hid hF
    go_wp2_with fail
    refine hcl.mono ?_
    rintro e w' ⟨rfl, hi'⟩
    go_wp2_with fail
    go_ret
    exact ⟨by rw [idxI_some HG.out hF.out h0.out]; rfl, hi'⟩
   | false =>
    rw [hF] at hcl
    replace hF := Lib.hid hF
    go_wp2_with fail
    refine hcl.mono ?_
    rintro e w' ⟨rfl, hi'⟩
    go_wp2_with fail
    go_roundw
    case rel => exact ⟨k + 1, by go_num, by omega, Lib.hid (by rw [HT.out, List.any_append, h0.out]; simp [hF.out]), hi'⟩
    case measure =>
     simp [intOf]
     omega
  ·obtain rfl : k = xs.length := by omega
   go_wp2_with fail
   go_ret
   exact ⟨by rw [idxI_none (by rw [← h0.out, List.take_length])]; rfl, hi⟩
set_option maxRecDepth 100000 in
set_option maxHeartbeats 1600000 in
theorem containsI_any (f : Nat) (cap : Array Value) (hcf : ∀ (vs : Array Value) (w : World), (callFunc f vs).run Tryz.prog w = .ok (.enter f vs) w) (I : World → Prop) (p : Int → Bool) (A : Option Addr) (n c : Nat) (xs : List Int) (hn : n = xs.length) (hl : n ≤ 1000)
  (hx : ∀ U, I U → RdI U A xs) (hcall : ∀ U x, x ∈ xs → I U → Calls Tryz.prog f (#[.int .i64 x] ++ cap) U (fun e U' => e = .returned (.bool (p x)) ∧ I U')) (w : World) (hI : I w) :
  Calls Tryz.prog 52 #[.slice A n c, .func (.func f) #[] cap] w (fun e U' => e = .returned (.bool (xs.any p)) ∧ I U') := by
 have h := indexI_any f cap hcf I p A n c xs hn hl hx hcall w hI
 have hd := Lib.hid (idxI_any p xs)
 clear hcall hx hn
 go_enter Tryz.func52, Tryz.ntmps52
 go_wp2_with fail
 refine h.mono ?_
 clear h
 rintro e w' ⟨rfl, hi⟩
 go_wp2_with fail
 go_ret
 exact ⟨by rw [← hd.out]; rfl, hi⟩
def idxS {α : Type} (p : α → Bool) (xs : List α) : Int := match xs.findIdx? p with
 | some i => (i : Int)
 | none => -1
theorem idxV_some {α : Type} {p : α → Bool} {xs : List α} {i : Nat} {x : α} (hc : xs[i]? = some x) (hf : p x = true) (hno : (xs.take i).any p = false) : xs.findIdx? p = some i := by
 rw [List.findIdx?_eq_some_iff_getElem]
 obtain ⟨h1, h2⟩ := List.getElem?_eq_some_iff.1 hc
 refine ⟨h1, by rw [h2]; exact hf, fun j hj => ?_⟩
 rw [List.any_eq_false] at hno
 have := hno (xs[j]) (List.mem_take_iff_getElem.2 ⟨j, by omega, rfl⟩)
 simpa using this
set_option maxRecDepth 100000 in
set_option maxHeartbeats 1600000 in
theorem indexS_any {α : Type} (v : α → Value) (f : Nat) (cap : Array Value) (hcf : ∀ (vs : Array Value) (w : World), (callFunc f vs).run Tryz.prog w = .ok (.enter f vs) w) (I : World → Prop) (p : α → Bool) (b o n c : Nat) (xs : List α) (hn : n = xs.length) (hl : n ≤ 1000)
  (hx : ∀ U, I U → Row U b o (xs.map v)) (hcall : ∀ U x, x ∈ xs → I U → Calls Tryz.prog f (#[v x] ++ cap) U (fun e U' => e = .returned (.bool (p x)) ∧ I U')) (w : World) (hI : I w) :
  Calls Tryz.prog 50 #[.slice (some ⟨b, o, none⟩) n c, .func (.func f) #[] cap] w (fun e U' => e = .returned (.int .i64 (idxS p xs)) ∧ I U') := by
 subst hn
 go_enter Tryz.func50, Tryz.ntmps50
 go_wp2_with fail
 go_loopw [8] (fun t wr => ∃ k : Nat, t = .int .i64 (k : Int) ∧ k ≤ xs.length ∧ Hid ((xs.take k).any p = false) ∧ I wr) (fun t _ => xs.length - (intOf t).toNat)
 case atStart => exact ⟨0, rfl, Nat.zero_le _, by simp [Hid], hI⟩
 case round =>
  obtain ⟨k, rfl, hk, h0, hi⟩ := hrel
  by_cases hlt : k < xs.length
  ·obtain ⟨x, hgx⟩ : ∃ x, xs[k]? = some x := ⟨_, List.getElem?_eq_getElem hlt⟩
   have hcell : wr.cell? ⟨b, o + k, none⟩ = some (v x) := (hx _ hi).cell (by simp [hgx])
   have HG := Lib.hid hgx
   have hcl := hcall wr x (List.mem_of_getElem? hgx) hi
   have z1 : (k : Int) < (xs.length : Int) := by omega
   have HT := Lib.hid (show xs.take (k + 1) = xs.take k ++ [x] by rw [List.take_add_one, hgx]; rfl)
   clear hgx
   cases hF : p x with
   | true =>
    rw [hF] at hcl
    replace hF := Lib.hid hF
    go_wp2_with fail
    refine hcl.mono ?_
    rintro e w' ⟨rfl, hi'⟩
    go_wp2_with fail
    go_ret
    exact ⟨by unfold idxS; rw [idxV_some HG.out hF.out h0.out]; rfl, hi'⟩
   | false =>
    rw [hF] at hcl
    replace hF := Lib.hid hF
    go_wp2_with fail
    refine hcl.mono ?_
    rintro e w' ⟨rfl, hi'⟩
    go_wp2_with fail
    go_roundw
    case rel => exact ⟨k + 1, by go_num, by omega, Lib.hid (by rw [HT.out, List.any_append, h0.out]; simp [hF.out]), hi'⟩
    case measure =>
     simp [intOf]
     omega
  ·obtain rfl : k = xs.length := by omega
   go_wp2_with fail
   go_ret
   refine ⟨?_, hi⟩
   unfold idxS
   rw [show xs.findIdx? p = none from ?_]
   ·rfl
   ·rw [List.findIdx?_eq_none_iff]
    intro x hx
    have h1 := h0.out
    rw [List.take_length, List.any_eq_false] at h1
    simpa using h1 x hx
theorem bs1_int {o : Oper} {x : Operand} {n : Int} (ho : o.op = .buildSlice 97 1 #[(0, x)]) (a : Act) (w : World) (hv : a.eval x = .int .i64 n) :
  (execOp a.eval o).run Tryz.prog w = .ok (.value (.slice (some ⟨w.heap.size, 0, none⟩) 1 1)) (w.alloc (.cells #[.int .i64 n] 3)) := by
 obtain ⟨ie, hie, hq⟩ := Option.map_eq_some_iff.1 (show (Tryz.prog.info? 3).map (fun i => (i.zero, i.size)) = some (some (.int .i64 0), 1) by kernel_rfl)
 simp only [Prod.mk.injEq] at hq
 unfold execOp
 have h := run_buildSlice (P := Tryz.prog) w 97 3 1 #[((0 : Nat), Value.int .i64 n)] #[Value.int .i64 n] ie (.int .i64 0) Tryz.underlying97 hie hq.1 (by rw [hq.2]; decide) (by rw [hq.2]; decide) (by rw [hq.2]; exact Great.fill_flat [Value.int .i64 n] _ (fun v hv => by simp at hv; rw [hv]; rfl) (by simp [Value.cells]))
 simp only [ho, List.map_toArray, List.map_cons, List.map_nil, hv, Sem.run_bind, Sem.run_pure, h, Result.andThen_ok]
theorem app_int {o : Oper} {s x : Operand} {B n g : Nat} {v : Value} {xs : List Value} {y : Int} (ho : o.op = .call { callee := .builtin .append, args := #[s, x], argTypes := #[97, 97] }) (a : Act) (w : World)
  (hs : a.eval s = v) (hx : a.eval x = .slice (some ⟨g, 0, none⟩) 1 1) (hown : w.ownsRow B 3 1 v n xs) (hc : w.cell? ⟨g, 0, none⟩ = some (.int .i64 y)) (hn : n ≤ 1000) (hB : B ≤ w.heap.size) :
  ∃ v' w', (execOp a.eval o).run Tryz.prog w = .ok (.value v') w' ∧ w'.ownsRow B 3 1 v' (n + 1) (xs ++ [.int .i64 y]) ∧ w.grownBy w' v.ownBlock ∧ (v'.ownBlock = v.ownBlock ∨ v'.ownBlock = some w.heap.size) := by
 obtain ⟨i0, hi, hq⟩ := Option.map_eq_some_iff.1 (show (Tryz.prog.info? 3).map (fun i => (i.zero, i.size, i.bytes)) = some (some (.int .i64 0), 1, 8) by kernel_rfl)
 simp only [Prod.mk.injEq] at hq
 obtain ⟨v', w', hr, h2, h3, _, h5⟩ := run_append_own_at (P := Tryz.prog) w B 97 o.type 3 i0 (.int .i64 0) 1 8 Tryz.underlying97 hi hq.1 hq.2.1 hq.2.2 rfl (by decide) v n xs hown ⟨g, 0, none⟩ 1 1 [.int .i64 y] rfl (fun j u hj => by
  match j, hj with
  | 0, hj =>
   cases hj
   exact hc) (fun u hu => by simp at hu; rw [hu]; rfl) (by simp only [maxLen]; omega) (by omega) hB
 refine ⟨v', w', ?_, h2, h3, h5⟩
 unfold execOp
 simp only [ho, resolve, invoke, builtin, Sem.run_bind, Sem.run_pure, Result.andThen_ok, List.map_toArray, List.map_cons, List.map_nil, hs, hx, hr]
theorem step_store_sl {o : Oper} {ops : Array Oper} {a : Act} {w : World} {Q : Exit → Act → World → Prop} {K : Act → World → Prop} {E : Prop} (hgd : o.guard = none) (x y : Operand) (ho : o.op = .store 97 x y)
  (g i : Nat) (vs : List Value) (v : Value) (hx : a.eval x = .pointer (some ⟨g, i, none⟩)) (hy : a.eval y = v) (hv : ∃ A n c, v = .slice A n c) (hc : Cut w g 0 vs) (hi : i < vs.length)
  (h : ∀ w', w.grownBy w' (some g) → w'.heap.size = w.heap.size → Cut w' g 0 (vs.set i v) → K (a.put o.dst undef) w') : if Region.wanted o (yielded ops a.tmps) = true then Oper.wp Tryz.prog o a w K Q else E := by
 obtain ⟨A, n, c, rfl⟩ := hv
 rw [if_pos (wanted_free hgd _)]
 have hu : vs[i]? = some vs[i] := List.getElem?_eq_getElem hi
 have k := hc.cell hu
 have f := hc.frozen hu
 rw [Nat.zero_add] at k f
 have hrun : (Instr.storeAt 97 (.pointer (some ⟨g, i, none⟩)) (.slice A n c)).run Tryz.prog w = .ok () (w.setCell ⟨g, i, none⟩ (.slice A n c)) := by go_simp
 unfold Oper.wp execOp
 simp only [ho, hx, hy, Sem.run_bind, Sem.run_pure, hrun, Result.andThen_ok]
 have hs := hc.set hu (.slice A n c)
 rw [Nat.zero_add] at hs
 exact h _ (only_set (only_refl w _) (.inl rfl) _) (by simp) hs
structure Lv (W : World) (B g2 : Nat) (V : Nat → Value) (L : Nat → List Int) : Prop where
 arr : Cut W g2 0 ((List.range 8).map V)
 own : ∀ j, j < 8 → W.ownsRow B 3 1 (V j) (L j).length ((L j).map intV)
 apart : ∀ i j, i < 8 → j < 8 → i ≠ j → (V i).ownBlock = none ∨ (V i).ownBlock ≠ (V j).ownBlock
 gB : g2 < B
def put1 {α : Type} (V : Nat → α) (k : Nat) (v : α) : Nat → α := fun j => if j = k then v else V j
section
variable {W W' W1 W2 : World} {B g2 : Nat} {V : Nat → Value} {L : Nat → List Int}
theorem Lv.kept (h : Lv W B g2 V L) {r : Option Nat} (hg : W.grownBy W' r) (hr : ∀ b, r = some b → b < B ∧ b ≠ g2) : Lv W' B g2 V L :=
 ⟨h.arr.grown hg (fun e => (hr g2 e).2 rfl), fun j hj => (h.own j hj).kept hg (by
  cases e : (V j).ownBlock with
  | none => exact .inl rfl
  | some b =>
   refine .inr fun e2 => ?_
   have h1 := ((h.own j hj).lt b e).1
   have h2 := (hr b e2.symm).1
   omega), h.apart, h.gB⟩
theorem Lv.below (h : Lv W B g2 V L) (hb : Below W.heap.size W W') : Lv W' B g2 V L := h.kept (only_of_below hb none) (fun b e => by cases e)
theorem map_set8 (V : Nat → Value) (v : Value) {k : Nat} (hk : k < 8) : ((List.range 8).map V).set k v = (List.range 8).map (put1 V k v) := by
 apply List.ext_getElem?
 intro j
 rw [List.getElem?_set]
 by_cases hj : j < 8
 ·by_cases hkj : k = j
  ·subst hkj
   simp [put1, hj]
  ·simp [put1, hj, hkj, Ne.symm hkj]
 ·rw [if_neg (by omega), List.getElem?_eq_none (by simp; omega), List.getElem?_eq_none (by simp; omega)]
theorem Lv.put (h : Lv W B g2 V L) {k : Nat} (hk : k < 8) {v : Value} {l : List Int} (hown : W1.ownsRow B 3 1 v l.length (l.map intV)) (hg : W.grownBy W1 (V k).ownBlock) (hloc : v.ownBlock = (V k).ownBlock ∨ v.ownBlock = some W.heap.size)
  (hg2 : W1.grownBy W2 (some g2)) (hcut : Cut W2 g2 0 (((List.range 8).map V).set k v)) : Lv W2 B g2 (put1 V k v) (put1 L k l) := by
 rw [map_set8 V v hk] at hcut
 have hne : ∀ j, j < 8 → j ≠ k → (V j).ownBlock = none ∨ (V j).ownBlock ≠ v.ownBlock := fun j hj hjk => by
  rcases hloc with e | e
  ·rw [e]; exact h.apart j k hj hk hjk
  ·cases e2 : (V j).ownBlock with
   | none => exact .inl rfl
   | some b =>
    refine .inr fun e3 => ?_
    rw [e] at e3
    have h1 := ((h.own j hj).lt b e2).2
    cases e3
    omega
 have hlast : ∀ {v : Value} {n : Nat} {xs : List Value}, W1.ownsRow B 3 1 v n xs → W2.ownsRow B 3 1 v n xs := fun {v n xs} ho => ho.kept hg2 (by
  cases e : v.ownBlock with
  | none => exact .inl rfl
  | some b =>
   refine .inr fun e2 => ?_
   have h1 := (ho.lt b e).1
   have h2 := h.gB
   cases e2
   omega)
 refine ⟨hcut, fun j hj => ?_, fun i j hi hj hij => ?_, h.gB⟩
 ·by_cases hjk : j = k
  ·subst hjk
   simpa [put1] using hlast hown
  ·simp only [put1, if_neg hjk]
   exact hlast ((h.own j hj).kept hg (h.apart j k hj hk hjk))
 ·simp only [put1]
  by_cases hik : i = k
  ·by_cases hjk : j = k
   ·exact absurd (hik.trans hjk.symm) hij
   ·rw [if_pos hik, if_neg hjk]
    rcases hne j hj hjk with e | e
    ·cases e2 : v.ownBlock with
     | none => exact .inl rfl
     | some b => exact .inr (by rw [e]; simp)
    ·cases e2 : v.ownBlock with
     | none => exact .inl rfl
     | some b => exact .inr fun e3 => e (by rw [e2, ← e3])
  ·by_cases hjk : j = k
   ·rw [if_neg hik, if_pos hjk]
    exact hne i hi hik
   ·rw [if_neg hik, if_neg hjk]
    exact h.apart i j hi hj hij
theorem own_rd {v : Value} {l : List Int} (h : W.ownsRow B 3 1 v l.length (l.map intV)) : ∃ A c, v = .slice A l.length c ∧ l.length ≤ c ∧ c ≤ maxLen ∧ RdI W A l := by
 rcases h.2 with ⟨h1, h2⟩ | ⟨g, cap, cur, h1, _, h3, h4, h5, h6, h7⟩
 ·obtain rfl : l = [] := List.eq_nil_of_length_eq_zero h2
  exact ⟨none, 0, h1, Nat.le_refl _, Nat.zero_le _, .inl rfl⟩
 ·refine ⟨some ⟨g, 0, none⟩, cap, h1, h4, h5, .inr ⟨g, 0, rfl, heap_lt h3, fun i u hu => ?_⟩⟩
  have hi : i < l.length := by simpa using (List.getElem?_eq_some_iff.1 hu).1
  rw [← h7, List.getElem?_take_of_lt (by omega)] at hu
  rw [Nat.zero_add]
  simp [World.cell?, h3, by simpa using hu]
theorem Lv.at (h : Lv W B g2 V L) {j : Nat} (hj : j < 8) : W.cell? ⟨g2, j, none⟩ = some (V j) := by
 have := h.arr.cell (i := j) (v := V j) (by simp [hj])
 rwa [Nat.zero_add] at this
theorem Lv.none (hc : Cut W g2 0 ((List.range 8).map fun _ => Value.slice none 0 0)) (hB : g2 < B) : Lv W B g2 (fun _ => .slice none 0 0) (fun _ => []) :=
 ⟨hc, fun j _ => World.ownsRow_nil _ _ _ _, fun _ _ _ _ _ => .inl rfl, hB⟩
end
end Go.Proofs.YtchaahnhpeoomaaGreat
