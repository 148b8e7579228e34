/-
  The statement ChainClimbs: of a ladder just those are reached, up to the first one that may not stand where it does.
-/
import Derived.Test.YtchaahnhpeoomaaGreatQCnLd
namespace Go.Proofs.YtchaahnhpeoomaaGreat
set_option linter.unusedVariables false
set_option linter.unusedSimpArgs false
set_option maxRecDepth 20000
open Go.RowKit
def clT (g5 o5 n c5 m : Nat) (lf : Crt) (pl L : List Crt) : Nat → Tg
 | 0 => tv (.slice (some ⟨g5, o5, none⟩) n c5)
 | 1 => tv (.pointer (some ⟨g5, o5 + 0 * 24, none⟩))
 | 2 => tv lf.val
 | 3 => tCr pl
 | 4 => tCr L
 | 5 => tv (.slice (some ⟨g5, o5, none⟩) n c5)
 | 6 => tv (.int .i64 (m : Int))
 | 7 => tCr L
 | _ => tv (.bool true)
theorem rg39 : List.range 39 = [0, 1, 2, 3, 4, 5, 6, 7, 8, 9, 10, 11, 12, 13, 14, 15, 16, 17, 18, 19, 20, 21, 22, 23, 24, 25, 26, 27, 28, 29, 30, 31, 32, 33, 34, 35, 36, 37, 38] := rfl
set_option maxRecDepth 100000 in
set_option maxHeartbeats 12800000 in
theorem cnCl_any (x : RIn) (w : World) (qr : QRow w x) : Calls Tryz.prog 18 #[.agg (CRow x).toArray] w (RetW true w) := by
 obtain ⟨L0, hL0⟩ : ∃ L, L = CRow x := ⟨_, rfl⟩
 rw [← hL0]
 obtain ⟨g0, hg0⟩ : ∃ g, g = w.heap.size := ⟨_, rfl⟩
 obtain ⟨w0, hw0⟩ : ∃ u, u = w.alloc (.cells L0.toArray 87) := ⟨_, rfl⟩
 have hE : Below w.heap.size w w0 := by rw [hw0]; exact (Below.refl _ _).alloc (Nat.le_refl _) _
 have R0 : Row w0 g0 0 L0 := by rw [hw0, hg0]; exact row_new _
 have lc : (Tryz.prog.info? 87).map (·.size) = some L0.length := by rw [hL0]; exact sz_rowC x
 replace hL0 := Lib.hid hL0
 go_enter Tryz.func18, Tryz.ntmps18
 go_upto_region 1 with fail
 refine wp_world hw0 ?_
 rw [← hg0]
 clear hw0
 replace hg0 := Lib.hid hg0
 have HL : LadOf (rowL x) := fun gl ol lc A kA W hA hR hk => ladder_told gl ol _ lc A (rowL x) kA 1 3 [1] W rfl (by rw [rowL_len]; have := rowN_range x; omega) (.inr hA) hR (rowL_W x) hk (by decide) (by decide)
 have hq := row_made x w0 qr HL
 rw [← hL0.out] at hq
 go_wp2_with ((with_reducible refine wpList_load_mid ?_ 87 (.tmp 1) ?_ g0 0 ?_ L0 _ R0.rng Tryz.underlying87 ?_ lc ?_); (· rfl); (· rfl); (· rfl); (· rfl))
 refine Calls.mono hq ?_
 rintro e4 w4 ⟨cs, lf, A5, A6, c5, c6, rfl, h0, hln, n5, m5, n6, m6, C5, C6, hsay, hok, b4⟩
 clear hq HL
 replace hE := hE.trans (b4.mono hE.size)
 replace R0 := R0.below b4
 have hpm : (rowPool x cs lf (rowN x - 1)).Perm (cs.drop 1) := pool_perm hln
 obtain ⟨pl, hpl⟩ : ∃ p, p = rowPool x cs lf (rowN x - 1) := ⟨_, rfl⟩
 rw [← hpl] at hpm n6 C6
 rw [← hpl]
 replace hpl := Lib.hid hpl
 have hnr := rowN_range x
 have hsh := lad_shortW hsay (rowL_W x) ⟨by decide, fun y hy => by simp at hy; omega⟩
 obtain ⟨g5, o5, rfl, R5⟩ := C5.resolve_left (by rintro rfl; simp at h0)
 have hn2 : 2 ≤ cs.length ∧ cs.length ≤ 10 := by omega
 have hpll : pl.length = cs.length - 1 := by rw [hpm.length_eq, List.length_drop]
 have P4 : PoolOk w4 lf pl := by
  have hm : ∀ c ∈ lf :: pl, c ∈ cs := fun c hc => by
   rcases List.mem_cons.1 hc with rfl | hc
   ·exact List.mem_of_getElem? h0
   ·exact List.mem_of_mem_drop (hpm.mem_iff.1 hc)
  exact ⟨Nat.lt_of_le_of_lt (Nat.zero_le _) R5.1, fun c hc => hok c (hm c hc), fun c hc => Nat.le_trans (hsh c (hm c hc)).1 (by decide), fun c hc => Nat.le_trans (hsh c (hm c hc)).2 (by decide), by omega⟩
 clear b4 hsh hnr
 have zc10 : (cs.length : Int) ≤ 10 := by omega
 have zc2 : (2 : Int) ≤ (cs.length : Int) := by omega
 replace hpll := Lib.hid hpll
 have qmay : ∀ W, Calls Tryz.prog 44 #[.agg L0.toArray, .int .i64 (cs.length : Int)] W (RetW (rowMay x) W) := fun W => by
  have h := row_may x W qr
  rw [← hL0.out, ← hln] at h
  exact h
 have hrch := row_reach hsay hln h0 hpm
 have hmr := rowM_range x
 obtain ⟨m, hm⟩ : ∃ m, m = min 8 (rowM x) := ⟨_, rfl⟩
 rw [← hm] at hrch
 have hml : m ≤ cs.length := by omega
 obtain ⟨mm, hmm⟩ : ∃ k, k = min cs.length 8 := ⟨_, rfl⟩
 have zmm : min (cs.length : Int) 8 = (mm : Int) := by omega
 obtain ⟨a0, ha0⟩ : ∃ k, k = rowA x := ⟨_, rfl⟩
 obtain ⟨xA, hxA⟩ : ∃ k, k = x.2.1 := ⟨_, rfl⟩
 have hxA2 : xA < 256 := by rw [hxA]; exact qr.2.1
 have ha' : a0 = xA % cs.length := by rw [ha0, hxA, hln]; rfl
 have kA : w4.cell? ⟨g0, 1, none⟩ = some (.int .u8 (xA : Int)) := by have q := R0.cell (i := 1) (v := .int .u8 (xA : Int)) (by rw [hL0.out, hxA]; rfl); rwa [Nat.zero_add] at q
 have g0l := R0.1
 have r1 : (xA : Int) % (cs.length : Int) = (a0 : Int) := by rw [ha']; norm_cast
 have r2 : (xA : Int).tmod (cs.length : Int) = (a0 : Int) := by rw [Int.tmod_eq_emod_of_nonneg (by omega)]; exact r1
 have nz : ¬ cs.length = 0 := by omega
 have hmt : rowMay x = true → mm = m := fun h => by rw [hmm, hm]; unfold rowM; rw [h, if_pos rfl, hln, Nat.min_comm]
 have hmf : rowMay x = false → min (mm : Int) (a0 : Int) = (m : Int) := fun h => by
  have e : rowM x = a0 := by unfold rowM; rw [h, ha0]; rfl
  rw [e] at hm hmr
  omega
 replace hm := Lib.hid hm
 replace hmm := Lib.hid hmm
 replace ha0 := Lib.hid ha0
 replace hxA := Lib.hid hxA
 replace ha' := Lib.hid ha'
 replace r1 := Lib.hid r1
 replace hrch := Lib.hid hrch
 replace hln := Lib.hid hln
 have hmay := qmay w4
 obtain ⟨b, hb⟩ : ∃ b, b = rowMay x := ⟨_, rfl⟩
 rw [← hb] at hmay hmt hmf
 replace hb := Lib.hid hb
 go_wp2_with ((with_reducible refine wpList_load_mid ?_ 87 (.tmp 1) ?_ g0 0 ?_ L0 _ R0.rng Tryz.underlying87 ?_ lc ?_); (· rfl); (· rfl); (· rfl); (· rfl))
 refine Calls.mono hmay ?_
 rintro e5 w5 ⟨rfl, b5⟩
 replace hE := hE.trans (b5.mono hE.size)
 replace R5 := R5.below b5
 replace C6 := C6.below b5
 replace P4 := P4.below b5
 replace hok := fun c hc => (hok c hc).below b5
 replace kA := (b5.cell (p := ⟨g0, 1, none⟩) g0l).trans kA
 clear hmay b5 R0
 have Rlf := crt_row R5 h0
 have hlt0 : 0 < cs.length := by omega
 obtain ⟨AT, hTr, CT⟩ := crs_take (k := m) (.inr ⟨g5, o5, rfl, R5⟩ : Crs w5 (some ⟨g5, o5, none⟩) cs) hml n5 m5
 have htl : (cs.take m).length = m := by rw [List.length_take]; omega
 have hmc : m ≤ c5 := Nat.le_trans hml n5
 replace htl := Lib.hid htl
 cases b
 case true =>
  obtain rfl := (hmt rfl).symm
  clear hmf hmt
  go_upto_region 5 with fail
  have hd0 : Below w5.heap.size w5 w5.drew := below_drewN (Below.refl _ _) 1
  refine wp_region_steps (by kernel_rfl) (fun i => if i = 12 then 2 else 27 + i) (fun i v W => Sp ((clT g5 o5 cs.length c5 m lf pl (cs.take m)) i) v W) (fun W => Below w5.heap.size w5 W) (by kernel_rfl) (by kernel_rfl) ?inj ?lt (fun i v W W' h hs => h.mono hs) hd0 ⟨?s0, ?s1, ?s2, ?s3, ?s4, ?s5, ?s6, ?s7, ?s8, ?s9, ?s10, ?s11, ?s12, trivial⟩ ?fin
  case inj =>
   intro i j hi hj h
   have h40 : i < 13 ∧ j < 13 := ⟨hi, hj⟩
   have h : (if i = 12 then 2 else 27 + i) = (if j = 12 then 2 else 27 + j) := h
   (repeat' split at h) <;> omega
  case lt =>
   intro i hi
   have h40 : i < 13 := hi
   show (if i = 12 then 2 else 27 + i) < 39
   (repeat' split) <;> omega
  case s0 => exact (st_move rfl (.inl rfl) (src_base (fun i hi => by have hi : i < 13 := hi; show (if i = 12 then 2 else 27 + i) ≠ 3; split <;> omega) rfl))
  case s1 => exact (st_index rfl rfl rfl (src_dep (j := 0) (e := ⟨0, .data⟩) (by simp) rfl rfl rfl) src_const (fun W => ia_cert g5 o5 cs.length c5 0 hlt0 W))
  case s2 => exact (st_loadR (b := g5) (off := (o5 + 0 * 24)) rfl rfl rfl (src_dep (j := 1) (e := ⟨1, .data⟩) (by simp) rfl rfl rfl) Tryz.underlying30 rfl (sz_crt _) (fun W h => (Rlf.below h).rng))
  case s3 => exact (st_move rfl (.inl rfl) (Src.cr (L := pl) (src_base (fun i hi => by have hi : i < 13 := hi; show (if i = 12 then 2 else 27 + i) ≠ 4; split <;> omega) rfl) n6 m6 C6))
  case s4 => exact (st_reach (lf := lf) (cs := pl) rfl (.tmp 29) (.tmp 30) _ rfl (by rw [hrch.out]; rfl) (src_dep (j := 2) (e := ⟨2, .data⟩) (by simp) rfl rfl rfl) (src_dep (j := 3) (e := ⟨3, .data⟩) (by simp) rfl rfl rfl) P4)
  case s5 => exact (st_move rfl (.inl rfl) (src_base (fun i hi => by have hi : i < 13 := hi; show (if i = 12 then 2 else 27 + i) ≠ 3; split <;> omega) rfl))
  case s6 => exact (st_move rfl (.inl rfl) (src_base (fun i hi => by have hi : i < 13 := hi; show (if i = 12 then 2 else 27 + i) ≠ 5; split <;> omega) rfl))
  case s7 => exact (st_run rfl fun a U hba hdp hg => by
    have h1 : a.eval (.tmp 32) = .slice (some ⟨g5, o5, none⟩) cs.length c5 := (hdp ⟨5, .data⟩ (by simp) rfl).now
    have h2' : a.eval (.tmp 33) = .int .i64 (m : Int) := (hdp ⟨6, .data⟩ (by simp) rfl).now
    have hrun := hTr (m : Int) U rfl
    refine ⟨.slice AT m c5, U, ?_, Sub.refl U, hg, ?_⟩
    ·unfold execOp
     have h2 : (some (Operand.tmp 33)).map a.eval = some (.int .i64 (m : Int)) := by rw [Option.map_some, h2']
     simp only [h1, h2, Option.map_none]
     first | exact congrArg _ hrun | (simp only [Sem.run_bind, hrun]; rfl) | go_simp
    ·have q := Sp.tCr (L := cs.take m) (c := c5) (by rw [htl.out]; exact hmc) m5 (CT.below hg)
     rw [htl.out] at q
     exact q)
  case s8 => exact (st_same (cs := cs.take m) (ds := cs.take m) rfl (.tmp 31) (.tmp 34) _ rfl true (decide_eq_true rfl) rfl (src_dep (j := 4) (e := ⟨4, .data⟩) (by simp) rfl rfl rfl) (src_dep (j := 7) (e := ⟨7, .data⟩) (by simp) rfl rfl rfl) (fun c hc => hok c (List.mem_of_mem_take hc)) (fun c hc => hok c (List.mem_of_mem_take hc)) (by rw [htl.out]; omega))
  case s9 => exact (st_move rfl (.inl rfl) (src_dep (j := 8) (e := ⟨8, .data⟩) (by simp) rfl rfl rfl))
  case s10 => exact (st_guard (j := 9) (b := true) (e := ⟨9, .guard⟩) rfl (by simp) rfl rfl rfl rfl (st_works rfl rfl rfl))
  case s11 => exact (st_pick rfl rfl (src_dep (j := 9) (e := ⟨9, .data⟩) (by simp) rfl rfl rfl) (src_dep (j := 10) (e := ⟨10, .data⟩) (by simp) rfl rfl rfl))
  case s12 => exact (st_move rfl (.inr rfl) (src_dep (j := 11) (e := ⟨11, .data⟩) (by simp) rfl rfl rfl))
  case fin =>
   intro a w6 h1 h2 h3 h4 h5
   have b2 : a.tmps.getD 2 undef = .bool true := (h4 12 (by show 12 < 13; omega)).now
   have hz : a.tmps.size = 39 := h2
   have hdf : a.defers = [] := h1
   rw [act_eq hz hdf]
   simp only [rg39, List.map_cons, List.map_nil, b2]
   clear b2 hz hdf h1 h2 h3 h4
   replace hE := hE.trans (h5.mono hE.size)
   go_wp2_with fail
   go_ret
   exact ⟨rfl, hE⟩
 case false =>
  have zmf := hmf rfl
  clear hmf hmt
  go_upto_region 5 with fail
  have hd0 : Below w5.heap.size w5 w5.drew := below_drewN (Below.refl _ _) 1
  refine wp_region_steps (by kernel_rfl) (fun i => if i = 12 then 2 else 27 + i) (fun i v W => Sp ((clT g5 o5 cs.length c5 m lf pl (cs.take m)) i) v W) (fun W => Below w5.heap.size w5 W) (by kernel_rfl) (by kernel_rfl) ?inj ?lt (fun i v W W' h hs => h.mono hs) hd0 ⟨?s0, ?s1, ?s2, ?s3, ?s4, ?s5, ?s6, ?s7, ?s8, ?s9, ?s10, ?s11, ?s12, trivial⟩ ?fin
  case inj =>
   intro i j hi hj h
   have h40 : i < 13 ∧ j < 13 := ⟨hi, hj⟩
   have h : (if i = 12 then 2 else 27 + i) = (if j = 12 then 2 else 27 + j) := h
   (repeat' split at h) <;> omega
  case lt =>
   intro i hi
   have h40 : i < 13 := hi
   show (if i = 12 then 2 else 27 + i) < 39
   (repeat' split) <;> omega
  case s0 => exact (st_move rfl (.inl rfl) (src_base (fun i hi => by have hi : i < 13 := hi; show (if i = 12 then 2 else 27 + i) ≠ 3; split <;> omega) rfl))
  case s1 => exact (st_index rfl rfl rfl (src_dep (j := 0) (e := ⟨0, .data⟩) (by simp) rfl rfl rfl) src_const (fun W => ia_cert g5 o5 cs.length c5 0 hlt0 W))
  case s2 => exact (st_loadR (b := g5) (off := (o5 + 0 * 24)) rfl rfl rfl (src_dep (j := 1) (e := ⟨1, .data⟩) (by simp) rfl rfl rfl) Tryz.underlying30 rfl (sz_crt _) (fun W h => (Rlf.below h).rng))
  case s3 => exact (st_move rfl (.inl rfl) (Src.cr (L := pl) (src_base (fun i hi => by have hi : i < 13 := hi; show (if i = 12 then 2 else 27 + i) ≠ 4; split <;> omega) rfl) n6 m6 C6))
  case s4 => exact (st_reach (lf := lf) (cs := pl) rfl (.tmp 29) (.tmp 30) _ rfl (by rw [hrch.out]; rfl) (src_dep (j := 2) (e := ⟨2, .data⟩) (by simp) rfl rfl rfl) (src_dep (j := 3) (e := ⟨3, .data⟩) (by simp) rfl rfl rfl) P4)
  case s5 => exact (st_move rfl (.inl rfl) (src_base (fun i hi => by have hi : i < 13 := hi; show (if i = 12 then 2 else 27 + i) ≠ 3; split <;> omega) rfl))
  case s6 => exact (st_move rfl (.inl rfl) (src_base (fun i hi => by have hi : i < 13 := hi; show (if i = 12 then 2 else 27 + i) ≠ 5; split <;> omega) rfl))
  case s7 => exact (st_run rfl fun a U hba hdp hg => by
    have h1 : a.eval (.tmp 32) = .slice (some ⟨g5, o5, none⟩) cs.length c5 := (hdp ⟨5, .data⟩ (by simp) rfl).now
    have h2' : a.eval (.tmp 33) = .int .i64 (m : Int) := (hdp ⟨6, .data⟩ (by simp) rfl).now
    have hrun := hTr (m : Int) U rfl
    refine ⟨.slice AT m c5, U, ?_, Sub.refl U, hg, ?_⟩
    ·unfold execOp
     have h2 : (some (Operand.tmp 33)).map a.eval = some (.int .i64 (m : Int)) := by rw [Option.map_some, h2']
     simp only [h1, h2, Option.map_none]
     first | exact congrArg _ hrun | (simp only [Sem.run_bind, hrun]; rfl) | go_simp
    ·have q := Sp.tCr (L := cs.take m) (c := c5) (by rw [htl.out]; exact hmc) m5 (CT.below hg)
     rw [htl.out] at q
     exact q)
  case s8 => exact (st_same (cs := cs.take m) (ds := cs.take m) rfl (.tmp 31) (.tmp 34) _ rfl true (decide_eq_true rfl) rfl (src_dep (j := 4) (e := ⟨4, .data⟩) (by simp) rfl rfl rfl) (src_dep (j := 7) (e := ⟨7, .data⟩) (by simp) rfl rfl rfl) (fun c hc => hok c (List.mem_of_mem_take hc)) (fun c hc => hok c (List.mem_of_mem_take hc)) (by rw [htl.out]; omega))
  case s9 => exact (st_move rfl (.inl rfl) (src_dep (j := 8) (e := ⟨8, .data⟩) (by simp) rfl rfl rfl))
  case s10 => exact (st_guard (j := 9) (b := true) (e := ⟨9, .guard⟩) rfl (by simp) rfl rfl rfl rfl (st_works rfl rfl rfl))
  case s11 => exact (st_pick rfl rfl (src_dep (j := 9) (e := ⟨9, .data⟩) (by simp) rfl rfl rfl) (src_dep (j := 10) (e := ⟨10, .data⟩) (by simp) rfl rfl rfl))
  case s12 => exact (st_move rfl (.inr rfl) (src_dep (j := 11) (e := ⟨11, .data⟩) (by simp) rfl rfl rfl))
  case fin =>
   intro a w6 h1 h2 h3 h4 h5
   have b2 : a.tmps.getD 2 undef = .bool true := (h4 12 (by show 12 < 13; omega)).now
   have hz : a.tmps.size = 39 := h2
   have hdf : a.defers = [] := h1
   rw [act_eq hz hdf]
   simp only [rg39, List.map_cons, List.map_nil, b2]
   clear b2 hz hdf h1 h2 h3 h4
   replace hE := hE.trans (h5.mono hE.size)
   go_wp2_with fail
   go_ret
   exact ⟨rfl, hE⟩
end Go.Proofs.YtchaahnhpeoomaaGreat
