/-
 The statement ChainTurned: in whatever order the pool is told.
-/
import Derived.Test.YtchaahnhpeoomaaGreatPCnMo
namespace Go.Proofs.YtchaahnhpeoomaaGreat
set_option linter.unusedVariables false
set_option linter.unusedSimpArgs false
set_option maxRecDepth 20000
open Go.RowKit
theorem wp_region_eff2 {P : Program} {ops : Array Oper} {Q : Exit → Act → World → Prop} {id : Nat} {a0 : Act} {w0 : World} (hm : P.follows .mixedOrders = true) (E N : Nat → Bool) (dst : Nat → Nat) (tags : Nat → Tg) (G : (Nat → Bool) → (Nat → Value) → World → Prop)
  (hwait : waitsBelow ops = true) (hdst : dstOkE ops E N dst a0.tmps.size = true) (hno : ∀ i, N i = true → ∀ v w, tags i v w)
  (hinj : ∀ i j, i < ops.size → j < ops.size → dst i = dst j → i = j) (hEs : ∀ j, E j = true → j < ops.size)
  (hGe : ∀ (d d' : Nat → Bool) (v v' : Nat → Value) (w : World), (∀ e, E e = true → d e = d' e) → (∀ e, E e = true → v e = v' e) → G d v w → G d' v' w)
  (hG : G (fun _ => false) (fun j => a0.tmps.getD (dst j) undef) w0.drew)
  (hsteps : StepsOkE P ops Q E (fun a => ∀ s, (∀ i, i < ops.size → dst i ≠ s) → a.tmps.getD s undef = a0.tmps.getD s undef) dst tags G 0 ops.toList)
  (hend : ∀ a w, a.defers = a0.defers → a.tmps.size = a0.tmps.size → (∀ s, (∀ i, i < ops.size → dst i ≠ s) → a.tmps.getD s undef = a0.tmps.getD s undef) → (∀ i, i < ops.size → Sp (tags i) (a.tmps.getD (dst i) undef) w) → G (fun _ => true) (fun j => a.tmps.getD (dst j) undef) w → Q .normal a w) :
  (Code.region id ops true).wp P Q a0 w0 := by
 refine wp_region_any hm ?_
 refine wpAny_eff (E := E) (tags := tags) (G := G) hwait (fun i o ho => ?_) hinj hEs hGe (fun i o ho => ?_) hend ops.size (List.range ops.size) _ a0 _ (by simp) ⟨by simp, fun j o _ hd => ?_, fun i => ?_, List.nodup_range, rfl, rfl, fun _ _ => rfl, fun i hi => ?_, ?_⟩
 ·rcases dstOkE_spec hdst ho with h | ⟨h1, h2⟩
  ·exact .inl h
  ·exact .inr ⟨h1, h2.1, fun v w w' _ => hno i h2.2 v w'⟩
 ·have := StepsOkE.get (i := i) (o := o) hsteps (by simpa using ho)
  rwa [Nat.zero_add] at this
 ·exfalso
  by_cases h : j < ops.size <;> simp [h] at hd
 ·by_cases h : i < ops.size <;> simp [h]
 ·by_cases h : i < ops.size <;> simp [h] at hi
 ·refine hGe (fun _ => false) _ _ _ _ (fun e he => ?_) (fun _ _ => rfl) hG
  have h := hEs e he
  simp [h]
theorem bs1_crt {o : Oper} {x : Operand} {c : Crt} (ho : o.op = .buildSlice 31 1 #[(0, x)]) (a : Act) (w : World) (hv : a.eval x = c.val) :
  (execOp a.eval o).run Tryz.prog w = .ok (.value (.slice (some ⟨w.heap.size, 0, none⟩) 1 1)) (w.alloc (.cells c.cells.toArray 30)) := by
 obtain ⟨ie, hie, hzz⟩ := Option.map_eq_some_iff.1 info_cert
 simp only [Prod.mk.injEq] at hzz
 obtain ⟨hz, hs1, hb⟩ := hzz
 have h := run_buildSlice (P := Tryz.prog) w 31 30 1 #[((0 : Nat), Value.agg c.cells.toArray)] c.cells.toArray ie (.agg Crt.none.cells.toArray) Tryz.underlying31 hie hz (by rw [hs1]; decide) (by rw [hs1]; decide) (by rw [hs1]; exact fill_cert c _ rfl)
 unfold execOp
 have h3 : a.eval x = .agg c.cells.toArray := hv
 simp only [ho, List.map_toArray, List.map_cons, List.map_nil, h3, Sem.run_bind, Sem.run_pure, h, Result.andThen_ok]
theorem app_crt {o : Oper} {s x : Operand} {B n g : Nat} {v : Value} {l : List Crt} {c : Crt} (ho : o.op = .call { callee := .builtin .append, args := #[s, x], argTypes := #[31, 31] }) (a : Act) (w : World)
  (hs : a.eval s = v) (hx : a.eval x = .slice (some ⟨g, 0, none⟩) 1 1) (hown : w.ownsRow B 30 24 v n (crtCells l)) (hR : Row w g 0 c.cells) (hn : n ≤ 1000) (hB : B ≤ w.heap.size) :
  ∃ v' w', (execOp a.eval o).run Tryz.prog w = .ok (.value v') w' ∧ w'.ownsRow B 30 24 v' (n + 1) (crtCells (l ++ [c])) ∧ w.grownBy w' v.ownBlock := by
 obtain ⟨i0, hi, hq⟩ := Option.map_eq_some_iff.1 info_cert
 simp only [Prod.mk.injEq] at hq
 obtain ⟨v', w', hr, h2, h3, _, h5⟩ := run_append_own_at (P := Tryz.prog) w B 31 o.type 30 i0 (.agg Crt.none.cells.toArray) 24 224 Tryz.underlying31 hi hq.1 hq.2.1 hq.2.2 rfl (by decide) v n (crtCells l) hown ⟨g, 0, none⟩ 1 1 c.cells (by rw [Crt.cells_length]) (fun j u hj => by
  rw [addr_addC]
  exact hR.2 j u hj) (crt_one c) (by simp only [maxLen]; omega) (by omega) hB
 refine ⟨v', w', ?_, by rw [crtCells_snoc]; exact h2, h3⟩
 unfold execOp
 simp only [ho, resolve, invoke, builtin, Sem.run_bind, Sem.run_pure, Result.andThen_ok, List.map_toArray, List.map_cons, List.map_nil, hs, hx, hr]
section
variable {ops : Array Oper} {Q : Exit → Act → World → Prop} {Base : Act → Prop} {dst : Nat → Nat} {tags : Nat → Tg} {i : Nat} {o : Oper}
theorem st_sub {G : World → Prop} {m n : Int} (hgd : o.guard = none) (x y : Operand) (ho : o.op = .binOp .sub 3 x y 3) (ht : tags i = tv (.int .i64 (m - n))) (hx : Src o Base dst tags G x (tv (.int .i64 m))) (hy : Src o Base dst tags G y (tv (.int .i64 n))) (hr : -9223372036854775808 ≤ m - n ∧ m - n ≤ 9223372036854775807) :
  StepOk Tryz.prog ops Q Base dst (fun i v w => Sp (tags i) v w) G i o :=
 st_run hgd fun a w hba hd hg => by
  have h1 : a.eval x = .int .i64 m := (hx a w hba hd hg).now
  have h2 : a.eval y = .int .i64 n := (hy a w hba hd hg).now
  have hc : IntKind.i64.wrap (m - n) = m - n := IntWalk.i64_in _ (by omega)
  refine ⟨.int .i64 (m - n), w, ?_, Sub.refl w, hg, by rw [ht]; exact Sp.tv rfl⟩
  unfold execOp
  simp only [ho, h1, h2]
  go_simp
theorem st_rem {G : World → Prop} {m n : Nat} (hgd : o.guard = none) (x y : Operand) (ho : o.op = .binOp .rem 3 x y 3) (ht : tags i = tv (.int .i64 ((m % n : Nat) : Int))) (hx : Src o Base dst tags G x (tv (.int .i64 (m : Int)))) (hy : Src o Base dst tags G y (tv (.int .i64 (n : Int)))) (hm : m ≤ 1000000) (hn : 0 < n) (hn2 : n ≤ 1000000) :
  StepOk Tryz.prog ops Q Base dst (fun i v w => Sp (tags i) v w) G i o :=
 st_run hgd fun a w hba hd hg => by
  have h1 : a.eval x = .int .i64 (m : Int) := (hx a w hba hd hg).now
  have h2 : a.eval y = .int .i64 (n : Int) := (hy a w hba hd hg).now
  have hz : ¬ n = 0 := by omega
  have hl : m % n < n := Nat.mod_lt _ hn
  refine ⟨.int .i64 ((m % n : Nat) : Int), w, ?_, Sub.refl w, hg, by rw [ht]; exact Sp.tv rfl⟩
  unfold execOp
  simp only [ho, h1, h2]
  go_simp
  exact Int.tmod_eq_emod_of_nonneg (Int.natCast_nonneg m)
theorem st_u8 {G : World → Prop} {m : Nat} (hgd : o.guard = none) (x : Operand) (ho : o.op = .convert 5 3 x) (ht : tags i = tv (.int .i64 (m : Int))) (hx : Src o Base dst tags G x (tv (.int .u8 (m : Int)))) (hm : m < 256) :
  StepOk Tryz.prog ops Q Base dst (fun i v w => Sp (tags i) v w) G i o :=
 st_run hgd fun a w hba hd hg => by
  have h1 : a.eval x = .int .u8 (m : Int) := (hx a w hba hd hg).now
  have hc : IntKind.i64.wrap (m : Int) = (m : Int) := IntWalk.i64_in _ (by omega)
  refine ⟨.int .i64 (m : Int), w, ?_, Sub.refl w, hg, by rw [ht]; exact Sp.tv rfl⟩
  unfold execOp
  simp only [ho, h1]
  go_simp
end
def turnL (cs : List Crt) (lf : Crt) (b m : Nat) : List Crt := (List.range m).map fun i => cAt cs lf ((cs.length - 1 - i + b) % cs.length)
theorem turnL_succ (cs : List Crt) (lf : Crt) (b m : Nat) : turnL cs lf b (m + 1) = turnL cs lf b m ++ [cAt cs lf ((cs.length - 1 - m + b) % cs.length)] := by simp [turnL, List.range_succ]
theorem turn_all : ∀ n, n < 8 → ∀ r, r < n → ((List.range n).map fun i => (n - 1 - i + r) % n).isPerm (List.range n) = true := by decide
theorem turn_perm {cs : List Crt} {lf : Crt} {b : Nat} (h : cs.length < 8) : (turnL cs lf b cs.length).Perm cs := by
 rcases Nat.eq_zero_or_pos cs.length with h0 | h0
 ·obtain rfl : cs = [] := List.eq_nil_of_length_eq_zero h0
  exact List.Perm.refl _
 ·have h1 := List.isPerm_iff.1 (turn_all cs.length h (b % cs.length) (Nat.mod_lt _ h0))
  have h2 := h1.map (cAt cs lf)
  have h3 : cs = (List.range cs.length).map (cAt cs lf) := by
   have := take_map (cs := cs) (lf := lf) (k := cs.length) (Nat.le_refl _)
   rwa [List.take_length] at this
  rw [← h3, List.map_map] at h2
  refine List.Perm.trans (List.Perm.of_eq ?_) h2
  unfold turnL
  refine List.map_congr_left fun i _ => ?_
  show cAt cs lf ((cs.length - 1 - i + b) % cs.length) = cAt cs lf ((cs.length - 1 - i + b % cs.length) % cs.length)
  rw [Nat.add_mod_mod]
def tuT (V : Value) (g0 gp op pc n ix b k gz : Nat) (dc : Crt) : Nat → Tg
 | 0 => tv V
 | 1 => tv (.pointer (some ⟨g0, 0 + 24, none⟩))
 | 2 => tv (.slice (some ⟨gp, op, none⟩) n pc)
 | 3 => tv (.pointer (some ⟨g0, 0 + 24, none⟩))
 | 4 => tv (.slice (some ⟨gp, op, none⟩) n pc)
 | 5 => tv (.int .i64 (n : Int))
 | 6 => tv (.int .i64 ((n : Int) - 1))
 | 7 => tv (.int .i64 (ix : Int))
 | 8 => tv (.int .i64 ((n : Int) - 1 - (ix : Int)))
 | 9 => tv (.int .u8 (b : Int))
 | 10 => tv (.int .i64 (b : Int))
 | 11 => tv (.int .i64 ((n : Int) - 1 - (ix : Int) + (b : Int)))
 | 12 => tv (.pointer (some ⟨g0, 0 + 24, none⟩))
 | 13 => tv (.slice (some ⟨gp, op, none⟩) n pc)
 | 14 => tv (.int .i64 (n : Int))
 | 15 => tv (.int .i64 (k : Int))
 | 16 => tv (.pointer (some ⟨gp, op + k * 24, none⟩))
 | 17 => tv dc.val
 | 18 => tv (.slice (some ⟨gz, 0, none⟩) 1 1)
 | _ => fun _ _ => True
theorem stat_tu (V : Value) (g0 gp op pc n ix b k gz : Nat) (dc : Crt) : Static (tuT V g0 gp op pc n ix b k gz dc) := fun j x W W' h => by
 unfold tuT at *
 split at h <;> exact h
def tuG (V : Value) (w1 wr : World) (B gz : Nat) (L : List Crt) (dc : Crt) (d : Nat → Bool) (v : Nat → Value) (W : World) : Prop := match d 18, d 19, d 20 with
 | false, false, false => Below wr.heap.size wr W ∧ W.heap.size = gz ∧ v 20 = V
 | true, false, false => Below wr.heap.size wr W ∧ Row W gz 0 dc.cells ∧ v 20 = V
 | true, true, false => Below B w1 W ∧ W.ownsRow B 30 24 (v 19) (L.length + 1) (crtCells (L ++ [dc])) ∧ d 0 = true
 | true, true, true => Below B w1 W ∧ W.ownsRow B 30 24 (v 19) (L.length + 1) (crtCells (L ++ [dc])) ∧ d 0 = true ∧ v 20 = v 19
 | _, _, _ => False
theorem tuG_b {V : Value} {w1 wr W : World} {B gz : Nat} {L : List Crt} {dc : Crt} {d : Nat → Bool} {v : Nat → Value} (hb : Below B w1 wr) (hB : B ≤ wr.heap.size) (h : tuG V w1 wr B gz L dc d v W) : Below B w1 W := by
 unfold tuG at h
 cases h1 : d 18 <;> cases h2 : d 19 <;> cases h3 : d 20 <;> rw [h1, h2, h3] at h
 ·exact hb.trans (h.1.mono hB)
 ·exact h.elim
 ·exact h.elim
 ·exact h.elim
 ·exact hb.trans (h.1.mono hB)
 ·exact h.elim
 ·exact h.1
 ·exact h.1
theorem tuG_v {V : Value} {w1 wr W : World} {B gz : Nat} {L : List Crt} {dc : Crt} {d : Nat → Bool} {v : Nat → Value} (h0 : d 0 = false) (h : tuG V w1 wr B gz L dc d v W) : v 20 = V := by
 unfold tuG at h
 cases h1 : d 18 <;> cases h2 : d 19 <;> cases h3 : d 20 <;> rw [h1, h2, h3] at h
 ·exact h.2.2
 ·exact h.elim
 ·exact h.elim
 ·exact h.elim
 ·exact h.2.2
 ·exact h.elim
 ·rw [h0] at h; cases h.2.2
 ·rw [h0] at h; cases h.2.2.1
theorem tuG_0 {V : Value} {w1 wr W : World} {B gz : Nat} {L : List Crt} {dc : Crt} {d d' : Nat → Bool} {v v' : Nat → Value} (h18 : d' 18 = d 18) (h19 : d' 19 = d 19) (h20 : d' 20 = d 20) (v19 : v' 19 = v 19) (v20 : v' 20 = v 20) (hd : d' 0 = true) (h : tuG V w1 wr B gz L dc d v W) : tuG V w1 wr B gz L dc d' v' W := by
 unfold tuG at *
 rw [h18, h19, h20, v19, v20]
 cases h1 : d 18 <;> cases h2 : d 19 <;> cases h3 : d 20 <;> rw [h1, h2, h3] at h
 ·exact h
 ·exact h
 ·exact h
 ·exact h
 ·exact h
 ·exact h
 ·exact ⟨h.1, h.2.1, hd⟩
 ·exact ⟨h.1, h.2.1, hd, h.2.2.2⟩
theorem rg112 : List.range 112 = [0, 1, 2, 3, 4, 5, 6, 7, 8, 9, 10, 11, 12, 13, 14, 15, 16, 17, 18, 19, 20, 21, 22, 23, 24, 25, 26, 27, 28, 29, 30, 31, 32, 33, 34, 35, 36, 37, 38, 39, 40, 41, 42, 43, 44, 45, 46, 47, 48, 49, 50, 51, 52, 53, 54, 55, 56, 57, 58, 59, 60, 61, 62, 63, 64, 65, 66, 67, 68, 69, 70, 71, 72, 73, 74, 75, 76, 77, 78, 79, 80, 81, 82, 83, 84, 85, 86, 87, 88, 89, 90, 91, 92, 93, 94, 95, 96, 97, 98, 99, 100, 101, 102, 103, 104, 105, 106, 107, 108, 109, 110, 111] := rfl
set_option maxRecDepth 100000 in
set_option maxHeartbeats 12800000 in
theorem cnTu_any (t : CIn) (b : Nat) (w : World) (q : QCasec w t) (qb : b < 256) : Calls Tryz.prog 20 #[.agg (CCasec t).toArray, .int .u8 (b : Int)] w (RetW true w) := by
 obtain ⟨lf, ⟨pA, pc, cs⟩, ⟨tA, tc, ts⟩⟩ := t
 obtain ⟨L0, hL0⟩ : ∃ L, L = CCasec (lf, ⟨pA, pc, cs⟩, ⟨tA, tc, ts⟩) := ⟨_, rfl⟩
 rw [← hL0]
 obtain ⟨g0, hg0⟩ : ∃ g, g = w.heap.size := ⟨_, rfl⟩
 obtain ⟨w0, hw0⟩ : ∃ u, u = w.alloc (.cells L0.toArray 36) := ⟨_, rfl⟩
 have hE : Below w.heap.size w w0 := by rw [hw0]; exact (Below.refl _ _).alloc (Nat.le_refl _) _
 have B0 : Row w0 g0 0 L0 := by rw [hw0, hg0]; exact row_new _
 have CW : CaseW w0 g0 (lf, ⟨pA, pc, cs⟩, ⟨tA, tc, ts⟩) := ⟨by rw [← hL0]; exact B0, q.below hE⟩
 clear B0
 replace hL0 := Lib.hid hL0
 go_enter Tryz.func20, Tryz.ntmps20
 go_upto_region 1 with fail
 refine wp_world hw0 ?_
 rw [← hg0]
 clear hw0
 replace hg0 := Lib.hid hg0
 have lc : (Tryz.prog.info? 36).map (·.size) = some L0.length := by rw [hL0.out]; exact sz_case13 _
 have BL : Row w0 g0 0 L0 := by rw [hL0.out]; exact CW.row
 go_wp2_with ((with_reducible refine wpList_load_mid ?_ 36 (.tmp 2) ?_ g0 0 ?_ L0 _ BL.rng Tryz.underlying36 ?_ lc ?_); (· rfl); (· rfl); (· rfl); (· rfl))
 rw [show (Value.agg L0.toArray) = .agg (CCasec (lf, ⟨pA, pc, cs⟩, ⟨tA, tc, ts⟩)).toArray by rw [hL0.out]]
 refine (large13_any _ w0 CW.q).mono ?_
 clear BL lc
 rintro r1 w1 ⟨big, rfl, hsm, b⟩
 replace CW := CW.below b
 replace hE := hE.trans (b.mono hE.size)
 clear b hL0
 have k24 := CW.pool
 simp only at k24
 cases big
 case true =>
  go_wp2_with fail
  refine (works13_any _).mono ?_
  rintro r w' ⟨rfl, b⟩
  go_wp2_with fail
  go_ret
  exact ⟨rfl, hE.trans (b.mono hE.size)⟩
 case false =>
  replace hsm := hsm rfl
  have hl7 := hsm.1
  simp only at hl7
  obtain ⟨B, hB⟩ : ∃ B, B = w1.heap.size := ⟨_, rfl⟩
  have o0 : w1.ownsRow B 30 24 (.slice none 0 0) 0 (crtCells []) := World.ownsRow_nil w1 B 30 24
  have eB : Below B w1 w1 := Below.refl _ _
  have eX : ∀ U, Below B w1 U → Below w1.heap.size w1 U := fun U h => by rwa [← hB]
  have hB1 : B ≤ w1.heap.size := by rw [hB]; exact Nat.le_refl _
  replace hB := Lib.hid hB
  have cap1 := CW.q.2.1.cap
  have max1 := CW.q.2.1.max
  simp only at cap1 max1
  go_upto_region 5 with fail
  go_loopw [5, 6] (fun t5 t6 wr => ∃ ix : Nat, t6 = .int .i64 (ix : Int) ∧ ix ≤ cs.length ∧ wr.ownsRow B 30 24 t5 ix (crtCells (turnL cs lf b ix)) ∧ Below B w1 wr) (fun _ t _ => cs.length - (intOf t).toNat)
  case atStart => exact ⟨0, rfl, Nat.zero_le _, o0, eB⟩
  case round =>
   clear k24
   obtain ⟨ix, rfl, hi, own, er⟩ := hrel
   have hix : (turnL cs lf b ix).length = ix := by simp [turnL]
   have k24 := (CW.below (eX _ er)).pool
   simp only at k24
   have z1 : (ix : Int) ≤ 7 := by omega
   by_cases hlt : ix < cs.length
   ·have z2 : (ix : Int) < (cs.length : Int) := by omega
    obtain ⟨gp, op, rfl, RP⟩ := CW.crs.resolve_left (by rintro h; simp only at h; rw [h] at hlt; simp at hlt)
    simp only at RP
    obtain ⟨k, hk⟩ : ∃ k, k = (cs.length - 1 - ix + b) % cs.length := ⟨_, rfl⟩
    have hkl : k < cs.length := by rw [hk]; exact Nat.mod_lt _ (by omega)
    obtain ⟨dc, hdc⟩ : ∃ d, d = cAt cs lf k := ⟨_, rfl⟩
    have hd : cs[k]? = some dc := by rw [hdc]; exact cAt_lt hkl
    have hT : turnL cs lf b (ix + 1) = turnL cs lf b ix ++ [dc] := by rw [turnL_succ, ← hk, ← hdc]
    have Rd' := crt_row RP hd
    have hk2 : (k : Int) = ((((cs.length - 1 - ix + b) % cs.length : Nat)) : Int) := by rw [hk]
    have hsz : B ≤ wr.heap.size := Nat.le_trans hB1 er.size
    replace hk := Lib.hid hk
    replace hdc := Lib.hid hdc
    replace hT := Lib.hid hT
    replace hk2 := Lib.hid hk2
    replace hix := Lib.hid hix
    obtain ⟨gz, hgz⟩ : ∃ g, g = wr.heap.size := ⟨_, rfl⟩
    replace hgz := Lib.hid hgz
    go_upto_region 7 with fail
    refine wp_region_eff2 (by kernel_rfl) (fun i => i == 0 || i == 18 || i == 19 || i == 20) (fun i => false) (fun i => if i = 20 then 5 else 24 + i) (tuT u5 g0 gp op pc cs.length ix b k gz dc) (tuG u5 w1 wr B gz (turnL cs lf b ix) dc) (by kernel_rfl) (by kernel_rfl) ?hno ?inj ?hEs ?hGe ?hG ⟨?s0, ?s1, ?s2, ?s3, ?s4, ?s5, ?s6, ?s7, ?s8, ?s9, ?s10, ?s11, ?s12, ?s13, ?s14, ?s15, ?s16, ?s17, ?s18, ?s19, ?s20, trivial⟩ ?fin
    case hno => exact fun i h => by cases h
    case inj =>
     intro i j hi hj h
     have h40 : i < 21 ∧ j < 21 := ⟨hi, hj⟩
     have h : (if i = 20 then 5 else 24 + i) = (if j = 20 then 5 else 24 + j) := h
     (repeat' split at h) <;> omega
    case hEs =>
     intro j h
     have h : (j == 0 || j == 18 || j == 19 || j == 20) = true := h
     show j < 21
     simp at h
     omega
    case hGe => exact fun d d' x x' U h h6 hg => by unfold tuG at *; rw [← h 0 rfl, ← h 18 rfl, ← h 19 rfl, ← h 20 rfl, ← h6 19 rfl, ← h6 20 rfl]; exact hg
    case hG => exact ⟨below_drewN (Below.refl _ _) 1, hgz.out.symm, rfl⟩
    case s0 =>
     refine eff_run rfl fun d a U hd hba hdp hal hG => ?_
     have q5 : a.tmps.getD 5 undef = u5 := tuG_v hd hG
     refine ⟨u5, U, congrArg (fun v => Result.ok (Next.value v) U) q5, (stat_tu _ _ _ _ _ _ _ _ _ _ _).sp rfl, (stat_tu _ _ _ _ _ _ _ _ _ _ _).keep 0, fun vv hw hv => ?_⟩
     exact tuG_0 (d := d) (v := fun j => a.tmps.getD (if j = 20 then 5 else 24 + j) undef) rfl rfl rfl (hw 19 (by omega) rfl) (hw 20 (by omega) rfl) rfl hG
    case s1 => exact fun d_ v_ hd_ hc_ => (st_field rfl rfl rfl (src_base (fun i hi => by have hi : i < 21 := hi; show (if i = 20 then 5 else 24 + i) ≠ 2; (repeat' split) <;> omega) rfl) (fun W => fa_chcase1 g0 0 W))
    case s2 => exact fun d_ v_ hd_ hc_ => (st_load rfl rfl rfl (src_dep (j := 1) (e := ⟨1, .data⟩) (by simp) rfl rfl rfl) (ld_certs _ _) (fun W h => (CW.below (eX _ (tuG_b er hsz h))).pool))
    case s3 => exact fun d_ v_ hd_ hc_ => (st_field rfl rfl rfl (src_base (fun i hi => by have hi : i < 21 := hi; show (if i = 20 then 5 else 24 + i) ≠ 2; (repeat' split) <;> omega) rfl) (fun W => fa_chcase1 g0 0 W))
    case s4 => exact fun d_ v_ hd_ hc_ => (st_load rfl rfl rfl (src_dep (j := 3) (e := ⟨3, .data⟩) (by simp) rfl rfl rfl) (ld_certs _ _) (fun W h => (CW.below (eX _ (tuG_b er hsz h))).pool))
    case s5 => exact fun d_ v_ hd_ hc_ => (st_pure (V := .slice (some ⟨gp, op, none⟩) cs.length pc) (U := .int .i64 (cs.length : Int)) rfl (src_dep (j := 4) (e := ⟨4, .data⟩) (by simp) rfl rfl rfl) (fun a h W => by
      have h3 : (#[.tmp 28] : Array Operand).map a.eval = #[.slice (some ⟨gp, op, none⟩) cs.length pc] := by simp only [List.map_toArray, List.map_cons, List.map_nil]; exact congrArg (fun v => #[v]) h
      unfold execOp
      simp only [h3]
      go_simp) (fun W hg => Sp.tv rfl))
    case s6 => exact fun d_ v_ hd_ hc_ => (st_sub rfl (.tmp 29) (.const (.int .i64 1)) rfl rfl (src_dep (j := 5) (e := ⟨5, .data⟩) (by simp) rfl rfl rfl) src_const (by omega))
    case s7 => exact fun d_ v_ hd_ hc_ => (st_move rfl (.inl rfl) (src_base (fun i hi => by have hi : i < 21 := hi; show (if i = 20 then 5 else 24 + i) ≠ 6; split <;> omega) rfl))
    case s8 => exact fun d_ v_ hd_ hc_ => (st_sub rfl (.tmp 30) (.tmp 31) rfl rfl (src_dep (j := 6) (e := ⟨6, .data⟩) (by simp) rfl rfl rfl) (src_dep (j := 7) (e := ⟨7, .data⟩) (by simp) rfl rfl rfl) (by omega))
    case s9 => exact fun d_ v_ hd_ hc_ => (st_move rfl (.inl rfl) (src_base (fun i hi => by have hi : i < 21 := hi; show (if i = 20 then 5 else 24 + i) ≠ 1; split <;> omega) rfl))
    case s10 => exact fun d_ v_ hd_ hc_ => (st_u8 rfl (.tmp 33) rfl rfl (src_dep (j := 9) (e := ⟨9, .data⟩) (by simp) rfl rfl rfl) qb)
    case s11 => exact fun d_ v_ hd_ hc_ => (st_add rfl (.tmp 32) (.tmp 34) rfl rfl (src_dep (j := 8) (e := ⟨8, .data⟩) (by simp) rfl rfl rfl) (src_dep (j := 10) (e := ⟨10, .data⟩) (by simp) rfl rfl rfl) (by omega))
    case s12 => exact fun d_ v_ hd_ hc_ => (st_field rfl rfl rfl (src_base (fun i hi => by have hi : i < 21 := hi; show (if i = 20 then 5 else 24 + i) ≠ 2; (repeat' split) <;> omega) rfl) (fun W => fa_chcase1 g0 0 W))
    case s13 => exact fun d_ v_ hd_ hc_ => (st_load rfl rfl rfl (src_dep (j := 12) (e := ⟨12, .data⟩) (by simp) rfl rfl rfl) (ld_certs _ _) (fun W h => (CW.below (eX _ (tuG_b er hsz h))).pool))
    case s14 => exact fun d_ v_ hd_ hc_ => (st_pure (V := .slice (some ⟨gp, op, none⟩) cs.length pc) (U := .int .i64 (cs.length : Int)) rfl (src_dep (j := 13) (e := ⟨13, .data⟩) (by simp) rfl rfl rfl) (fun a h W => by
      have h3 : (#[.tmp 37] : Array Operand).map a.eval = #[.slice (some ⟨gp, op, none⟩) cs.length pc] := by simp only [List.map_toArray, List.map_cons, List.map_nil]; exact congrArg (fun v => #[v]) h
      unfold execOp
      simp only [h3]
      go_simp) (fun W hg => Sp.tv rfl))
    case s15 => exact fun d_ v_ hd_ hc_ => (st_rem (m := cs.length - 1 - ix + b) (n := cs.length) rfl (.tmp 35) (.tmp 38) rfl (by show tv (.int .i64 (k : Int)) = _; rw [hk2.out]) (by have e : ((cs.length - 1 - ix + b : Nat) : Int) = (cs.length : Int) - 1 - (ix : Int) + (b : Int) := (by omega); rw [e]; exact (src_dep (j := 11) (e := ⟨11, .data⟩) (by simp) rfl rfl rfl)) (src_dep (j := 14) (e := ⟨14, .data⟩) (by simp) rfl rfl rfl) (by omega) (by omega) (by omega))
    case s16 => exact fun d_ v_ hd_ hc_ => (st_index rfl rfl rfl (src_dep (j := 2) (e := ⟨2, .data⟩) (by simp) rfl rfl rfl) (src_dep (j := 15) (e := ⟨15, .data⟩) (by simp) rfl rfl rfl) (fun W => ia_cert gp op cs.length pc k hkl W))
    case s17 => exact fun d_ v_ hd_ hc_ => (st_loadR (b := gp) (off := (op + k * 24)) rfl rfl rfl (src_dep (j := 16) (e := ⟨16, .data⟩) (by simp) rfl rfl rfl) Tryz.underlying30 rfl (sz_crt _) (fun W h => (Rd'.below (eX _ (tuG_b er hsz h))).rng))
    case s18 =>
     refine eff_run rfl fun d a U hd hba hdp hal hG => ?_
     have u1 : a.eval (.tmp 41) = dc.val := (hdp ⟨17, .data⟩ (by simp) rfl).now
     unfold tuG at hG
     rw [hd] at hG
     cases h19 : d 19 with
     | true => rw [h19] at hG; cases h20 : d 20 <;> rw [h20] at hG <;> exact hG.elim
     | false =>
      rw [h19] at hG
      cases h20 : d 20 with
      | true => rw [h20] at hG; exact hG.elim
      | false =>
       rw [h20] at hG
       obtain ⟨q1, q2, q3⟩ : Below wr.heap.size wr U ∧ U.heap.size = gz ∧ a.tmps.getD 5 undef = u5 := hG
       refine ⟨_, _, bs1_crt rfl a U u1, (stat_tu _ _ _ _ _ _ _ _ _ _ _).sp (by rw [q2]; rfl), (stat_tu _ _ _ _ _ _ _ _ _ _ _).keep 18, fun v' hw _ => ?_⟩
       unfold tuG
       rw [show done1 d 18 18 = true from rfl, show done1 d 18 19 = false from h19, show done1 d 18 20 = false from h20]
       refine ⟨q1.alloc q1.size _, ?_, (hw 20 (by omega) rfl).trans q3⟩
       rw [← q2]
       exact row_new _
    case s19 =>
     refine eff_run rfl fun d a U hd hba hdp hal hG => ?_
     have d18 : d 18 = true := hal ⟨18, .data⟩ (by simp) rfl
     have d0 : d 0 = true := hal ⟨0, .data⟩ (by simp) rfl
     have u1 : a.eval (.tmp 24) = u5 := (hdp ⟨0, .data⟩ (by simp) rfl).now
     have u2 : a.eval (.tmp 42) = .slice (some ⟨gz, 0, none⟩) 1 1 := (hdp ⟨18, .data⟩ (by simp) rfl).now
     unfold tuG at hG
     rw [hd, d18] at hG
     cases h20 : d 20 with
     | true => rw [h20] at hG; exact hG.elim
     | false =>
      rw [h20] at hG
      obtain ⟨q1, q2, q3⟩ : Below wr.heap.size wr U ∧ Row U gz 0 dc.cells ∧ a.tmps.getD 5 undef = u5 := hG
      have ownU := row_below own q1
      have hBU : B ≤ U.heap.size := Nat.le_trans hsz q1.size
      refine (app_crt (by rfl) a U u1 u2 ownU q2 (by omega) hBU).elim fun v' hh => hh.elim fun U' hh => ⟨v', U', hh.1, (stat_tu _ _ _ _ _ _ _ _ _ _ _).sp trivial, (stat_tu _ _ _ _ _ _ _ _ _ _ _).keep 19, fun vv _ hv => ?_⟩
      obtain ⟨_, p1, p2⟩ := hh
      unfold tuG
      rw [show done1 d 19 18 = true from d18, show done1 d 19 19 = true from rfl, show done1 d 19 20 = false from h20, hv (by simp)]
      exact ⟨(er.trans (q1.mono hsz)).grown p2 hBU (fun j hj => (ownU.lt j hj).1), by rw [hix.out]; exact p1, d0⟩
    case s20 =>
     refine eff_run rfl fun d a U hd hba hdp hal hG => ?_
     have d18 : d 18 = true := hal ⟨18, .phase⟩ (by simp) rfl
     have d19 : d 19 = true := hal ⟨19, .data⟩ (by simp) rfl
     unfold tuG at hG
     rw [hd, d18, d19] at hG
     refine ⟨a.tmps.getD 43 undef, U, rfl, (stat_tu _ _ _ _ _ _ _ _ _ _ _).sp trivial, (stat_tu _ _ _ _ _ _ _ _ _ _ _).keep 20, fun vv hw hv => ?_⟩
     unfold tuG
     rw [show done1 d 20 18 = true from d18, show done1 d 20 19 = true from d19, show done1 d 20 20 = true from rfl, hv (by simp), hw 19 (by omega) rfl]
     exact ⟨hG.1, hG.2.1, hG.2.2, rfl⟩
    case fin =>
     intro a wz h1 h2 h3 h4 h5
     obtain ⟨q1, q2, _, q3⟩ := h5
     obtain ⟨v43, b43⟩ : ∃ v, a.tmps.getD 43 undef = v := ⟨_, rfl⟩
     have b5 : a.tmps.getD 5 undef = v43 := (show a.tmps.getD 5 undef = a.tmps.getD 43 undef from q3).trans b43
     replace q2 : wz.ownsRow B 30 24 (a.tmps.getD 43 undef) ((turnL cs lf b ix).length + 1) (crtCells (turnL cs lf b ix ++ [dc])) := q2
     rw [b43, hix.out, ← hT.out] at q2
     clear q3
     have hz : a.tmps.size = 112 := h2
     have hdf : a.defers = [] := h1
     have hb := fun (k : Nat) (hk : (k < 24 ∨ 43 < k) ∧ k ≠ 5) => h3 k (fun i (h : i < 21) => by show (if i = 20 then 5 else 24 + i) ≠ k; (repeat' split) <;> omega)
     rw [act_eq hz hdf]
     simp only [rg112, List.map_cons, List.map_nil, b5, b43, hb 0 (by decide), hb 1 (by decide), hb 2 (by decide), hb 3 (by decide), hb 4 (by decide), hb 6 (by decide), hb 7 (by decide), hb 8 (by decide), hb 9 (by decide), hb 10 (by decide), hb 11 (by decide), hb 12 (by decide), hb 13 (by decide), hb 14 (by decide), hb 15 (by decide), hb 16 (by decide), hb 17 (by decide), hb 18 (by decide), hb 19 (by decide), hb 20 (by decide), hb 21 (by decide), hb 22 (by decide), hb 23 (by decide), hb 44 (by decide), hb 45 (by decide), hb 46 (by decide), hb 47 (by decide), hb 48 (by decide), hb 49 (by decide), hb 50 (by decide), hb 51 (by decide), hb 52 (by decide), hb 53 (by decide), hb 54 (by decide), hb 55 (by decide), hb 56 (by decide), hb 57 (by decide), hb 58 (by decide), hb 59 (by decide), hb 60 (by decide), hb 61 (by decide), hb 62 (by decide), hb 63 (by decide), hb 64 (by decide), hb 65 (by decide), hb 66 (by decide), hb 67 (by decide), hb 68 (by decide), hb 69 (by decide), hb 70 (by decide), hb 71 (by decide), hb 72 (by decide), hb 73 (by decide), hb 74 (by decide), hb 75 (by decide), hb 76 (by decide), hb 77 (by decide), hb 78 (by decide), hb 79 (by decide), hb 80 (by decide), hb 81 (by decide), hb 82 (by decide), hb 83 (by decide), hb 84 (by decide), hb 85 (by decide), hb 86 (by decide), hb 87 (by decide), hb 88 (by decide), hb 89 (by decide), hb 90 (by decide), hb 91 (by decide), hb 92 (by decide), hb 93 (by decide), hb 94 (by decide), hb 95 (by decide), hb 96 (by decide), hb 97 (by decide), hb 98 (by decide), hb 99 (by decide), hb 100 (by decide), hb 101 (by decide), hb 102 (by decide), hb 103 (by decide), hb 104 (by decide), hb 105 (by decide), hb 106 (by decide), hb 107 (by decide), hb 108 (by decide), hb 109 (by decide), hb 110 (by decide), hb 111 (by decide)]
     simp only [Array.getD_eq_getD_getElem?, List.getElem?_toArray, List.getElem?_cons_succ, List.getElem?_cons_zero, Option.getD_some]
     clear b5 b43
     clear hb hz hdf h1 h2 h3 h4
     go_wp2_with fail
     go_roundw
     case rel => exact ⟨ix + 1, by go_num, by omega, q2, q1⟩
     case measure =>
      simp [intOf]
      omega
   ·have z2 : ¬ (ix : Int) < (cs.length : Int) := by omega
    obtain rfl : ix = cs.length := by omega
    have hpm : (turnL cs lf b cs.length).Perm cs := turn_perm (by omega)
    obtain ⟨A3, c3, rfl, n3, m3, C3⟩ := own_crs hix.symm own
    clear own
    obtain ⟨p2, hp2⟩ : ∃ p, p = turnL cs lf b cs.length := ⟨_, rfl⟩
    rw [← hp2] at hpm hix C3 n3
    rw [← hp2]
    replace hp2 := Lib.hid hp2
    replace hix := Lib.hid hix
    have er' := eX _ er
    replace hE := hE.trans (er'.mono hE.size)
    replace CW := CW.below er'
    clear er er' eX eB hB o0
    have P1 : PoolOk wr lf cs := CW.may hsm (fun c hc => List.mem_cons_of_mem _ hc) (by omega)
    have P2 : PoolOk wr lf p2 := CW.may hsm (fun c hc => List.mem_cons_of_mem _ (hpm.mem_iff.1 hc)) (by have := hix.out; omega)
    have hlk : Chn.Like (hse lf p2) (hse lf cs) := ⟨rfl, rfl, rfl⟩
    obtain ⟨r1, hr1⟩ : ∃ r, r = (hse lf cs).find (trB ts) := ⟨_, rfl⟩
    obtain ⟨r2, hr2⟩ : ∃ r, r = (hse lf p2).find (trB ts) := ⟨_, rfl⟩
    have hlike : r2.map List.length = r1.map List.length := by rw [hr1, hr2]; exact Chn.find_like hlk (fun c => hpm.mem_iff) _
    obtain ⟨L1, hL1⟩ : ∃ L, L = r1.getD [] := ⟨_, rfl⟩
    obtain ⟨b1, hb1⟩ : ∃ b, b = r1.isSome := ⟨_, rfl⟩
    obtain ⟨L2, hL2⟩ : ∃ L, L = r2.getD [] := ⟨_, rfl⟩
    have hb2 : r2.isSome = b1 := by rw [hb1, ← Option.isSome_map (f := List.length), hlike, Option.isSome_map]
    have hl12 : L2.length = L1.length := by
     rw [hL1, hL2]
     cases r1 <;> cases r2 <;> simp at hlike ⊢
     exact hlike
    have lenL : L1.length ≤ 8 := by rw [hL1, hr1]; exact find_lenD
    obtain ⟨L3, hL3⟩ : ∃ L, L = (hse lf cs).reach := ⟨_, rfl⟩
    obtain ⟨L4, hL4⟩ : ∃ L, L = (hse lf p2).reach := ⟨_, rfl⟩
    have q34 : ∀ c, c ∈ L4 ↔ c ∈ L3 := fun c => by rw [hL3, hL4]; exact Chn.reach_like hlk (fun c => hpm.mem_iff) c
    have h34 : L4.length = L3.length := by rw [hL3, hL4]; exact Chn.turned_reach hlk hpm
    have s3 : L3.length ≤ 8 := by rw [hL3]; have := Chn.reach_len (H := hse lf cs); have e : (hse lf cs).pool.length = cs.length := rfl; omega
    have okM : ∀ c ∈ L3, c ∈ lf :: cs := by rw [hL3]; exact reach_sub
    have hff := find_go P1 CW.crs (pc := pc) CW.anc
    have hfg := fun W (q : Below wr.heap.size wr W) => find_go (P2.below q) (C3.below q) (pc := c3) (CW.below q).anc
    have hfh := fun W (q : Below wr.heap.size wr W) => reach_go (P1.below q) (CW.below q).crs (pc := pc)
    have hfi := fun W (q : Below wr.heap.size wr W) => reach_go (P2.below q) (C3.below q) (pc := c3)
    unfold FndP at hff hfg
    unfold RchP at hfh hfi
    rw [← hr1, ← hL1, ← hb1] at hff
    simp only [← hr2, ← hL2, hb2] at hfg
    simp only [← hL3] at hfh
    simp only [← hL4] at hfi
    unfold Crt.val at hff hfg hfh hfi
    clear hlike hpm
    replace hr1 := Lib.hid hr1
    replace hr2 := Lib.hid hr2
    replace hL1 := Lib.hid hL1
    replace hL2 := Lib.hid hL2
    replace hb1 := Lib.hid hb1
    replace hb2 := Lib.hid hb2
    replace hL3 := Lib.hid hL3
    replace hL4 := Lib.hid hL4
    replace hl12 := Lib.hid hl12
    replace h34 := Lib.hid h34
    have k24 := CW.pool
    simp only at k24
    go_wp2_with ((with_reducible refine wpList_load_mid ?_ 30 (.tmp 45) ?_ g0 0 ?_ lf.cells _ CW.leaf.rng Tryz.underlying30 ?_ (sz_crt _) ?_); (· rfl); (· rfl); (· rfl); (· rfl))
    refine hff.mono ?_
    rintro e4 w4 ⟨b4, A4, c4, rfl, n4, m4, C4⟩
    have bz := b4
    replace hE := hE.trans (b4.mono hE.size)
    replace CW := CW.below b4
    clear hff C4 b4
    go_wp2_with ((with_reducible refine wpList_load_mid ?_ 30 (.tmp 55) ?_ g0 0 ?_ lf.cells _ CW.leaf.rng Tryz.underlying30 ?_ (sz_crt _) ?_); (· rfl); (· rfl); (· rfl); (· rfl))
    refine (hfg w4 bz).mono ?_
    rintro e5 w5 ⟨b5, A5, c5, rfl, n5, m5, C5⟩
    replace hE := hE.trans (b5.mono hE.size)
    replace CW := CW.below b5
    replace bz := bz.trans (b5.mono bz.size)
    clear hfg C5 b5
    have k24 := CW.pool
    simp only at k24
    go_wp2_with ((with_reducible refine wpList_load_mid ?_ 30 (.tmp 63) ?_ g0 0 ?_ lf.cells _ CW.leaf.rng Tryz.underlying30 ?_ (sz_crt _) ?_); (· rfl); (· rfl); (· rfl); (· rfl))
    refine (hfh w5 bz).mono ?_
    rintro e6 w6 ⟨b6, g6, c6, rfl, n6, m6, C6⟩
    replace hE := hE.trans (b6.mono hE.size)
    replace CW := CW.below b6
    replace bz := bz.trans (b6.mono bz.size)
    clear hfh b6
    go_wp2_with ((with_reducible refine wpList_load_mid ?_ 30 (.tmp 68) ?_ g0 0 ?_ lf.cells _ CW.leaf.rng Tryz.underlying30 ?_ (sz_crt _) ?_); (· rfl); (· rfl); (· rfl); (· rfl))
    refine (hfi w6 bz).mono ?_
    rintro e7 w7 ⟨b7, g7, c7, rfl, n7, m7, C7⟩
    replace hE := hE.trans (b7.mono hE.size)
    replace CW := CW.below b7
    replace C6 := C6.below b7
    clear hfi bz b7 P1 P2 C3
    have zl : (L2.length : Int) = (L1.length : Int) := by have := hl12.out; omega
    have zr : (L4.length : Int) = (L3.length : Int) := by have := h34.out; omega
    have zb : (b1 != b1) = false := by cases b1 <;> rfl
    go_upto_region 15 with fail
    clear zl zr zb
    go_loopw [13] (fun t wr => ∃ ix : Nat, t = .int .i64 (ix : Int) ∧ ix ≤ L3.length ∧ Below w7.heap.size w7 wr) (fun t _ => L3.length - (intOf t).toNat)
    case atStart => exact ⟨0, rfl, Nat.zero_le _, Below.refl _ _⟩
    case round =>
     obtain ⟨ix, rfl, hi, er⟩ := hrel
     have z9 : (ix : Int) ≤ 100 := by omega
     by_cases hlt : ix < L3.length
     ·have z1 : (ix : Int) < (L3.length : Int) := by omega
      have z3 : (ix : Int) < (L4.length : Int) := by have := h34.out; omega
      obtain ⟨d, hd⟩ : ∃ d, L3[ix]? = some d := ⟨_, List.getElem?_eq_getElem hlt⟩
      obtain ⟨d', hd'⟩ : ∃ d, L4[ix]? = some d := ⟨_, List.getElem?_eq_getElem (by have := h34.out; omega)⟩
      have dm := List.mem_of_getElem? hd
      have dm' := List.mem_of_getElem? hd'
      have Rd' := (crt_row C6 hd).below er
      rw [Nat.zero_add] at Rd'
      have okA := (CW.below er).ok
      have hq := within_any (W := _) (A := some ⟨g7, 0, none⟩) (c := d) (.inr ⟨g7, 0, rfl, C7.below er⟩) n7 m7 (okA d (okM d dm)) (fun x h => okA x (okM x ((q34 x).1 h))) (by have := h34.out; omega)
      rw [wiB_mem ((q34 d).2 dm)] at hq
      unfold Crt.val at hq
      go_wp2_with ((with_reducible refine wpList_load_mid ?_ 30 (.tmp 97) ?_ g6 (ix * 24) ?_ d.cells _ Rd'.rng Tryz.underlying30 ?_ (sz_crt _) ?_); (· rfl); (· rfl); (· rfl); (· rfl))
      refine hq.mono ?_
      rintro e9 w9 ⟨rfl, b9⟩
      clear hq okA Rd'
      have er9 := er.trans (b9.mono er.size)
      have Rd' := (crt_row C7 hd').below er9
      rw [Nat.zero_add] at Rd'
      have okA := (CW.below er9).ok
      have hq := within_any (W := w9) (A := some ⟨g6, 0, none⟩) (c := d') (.inr ⟨g6, 0, rfl, C6.below er9⟩) n6 m6 (okA d' (okM d' ((q34 d').1 dm'))) (fun x h => okA x (okM x h)) (by omega)
      rw [wiB_mem ((q34 d').1 dm')] at hq
      unfold Crt.val at hq
      go_wp2_with ((with_reducible refine wpList_load_if 30 (.tmp 105) ?_ g7 (ix * 24) d'.cells _ Rd'.rng Tryz.underlying30 ?_ (sz_crt _) ?_ ?_ ?_); (· rfl); (· rfl); (· rfl); (· rfl))
      refine hq.mono ?_
      rintro e10 w10 ⟨rfl, b10⟩
      clear hq okA Rd'
      go_wp2_with fail
      go_roundw
      case rel => exact ⟨ix + 1, by go_num, by omega, er9.trans (b10.mono er9.size)⟩
      case measure =>
       simp [intOf]
       omega
     ·have z1 : ¬ (ix : Int) < (L3.length : Int) := by omega
      replace hE := hE.trans (er.mono hE.size)
      go_wp2_with fail
      refine (works13_any _).mono ?_
      rintro r9 w9 ⟨rfl, b9⟩
      go_wp2_with fail
      go_ret
      exact ⟨rfl, hE.trans (b9.mono hE.size)⟩
end Go.Proofs.YtchaahnhpeoomaaGreat
