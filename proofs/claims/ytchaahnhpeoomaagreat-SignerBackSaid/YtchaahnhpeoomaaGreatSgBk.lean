/-
  SignerBack: whoever signs is right for the kind and the digest, by the certificate that was given, and for no other digest, nor, with attributes, for another kind.
-/
import Derived.Test.YtchaahnhpeoomaaGreatSgC
namespace Go.Proofs.YtchaahnhpeoomaaGreat
set_option linter.unusedVariables false
set_option linter.unusedSimpArgs false
set_option maxRecDepth 20000
open Go.RowKit

def sgbkT (g2 g0 gA n cA oth : Nat) (c : Crt) : Nat → Tg
  | 0 => tv (.bool true)
  | 1 => tv (.bool false)
  | 2 => tv (.bool false)
  | 3 => tv (.agg c.cells.toArray)
  | 4 => tv (.pointer (some ⟨g2, 2, none⟩))
  | 5 => tv (.slice (some ⟨gA, 0, none⟩) n cA)
  | 6 => tv (.pointer (some ⟨g0, 34, none⟩))
  | 7 => tv (.int .u8 (oth : Int))
  | 8 => tv (.int .u8 ((oth % 3 : Nat) : Int))
  | 9 => tv (.int .i64 ((oth % 3 : Nat) : Int))
  | 10 => tv (.pointer (some ⟨gA, 0 + oth % 3 * 24, none⟩))
  | 11 => tv (.agg c.cells.toArray)
  | 12 => tv (.bool true)
  | _ => tv (.bool false)
def sgbkU (B : Nat) (Gc : List Value) (Q0 : Option Addr) (n Q1 : Nat) (kq ds : List Nat) (g0 : Nat) (o : Option Crt) : Nat → Tg
  | 0 => tv (.agg Gc.toArray)
  | 1 => tv (.slice Q0 n Q1)
  | 2 => tnew B kq
  | 3 => tv (.pointer (some ⟨g0, 1, none⟩))
  | 4 => tv (.agg (ints .u8 ds).toArray)
  | 5 => tv (.tuple #[.agg (o.getD Crt.none).cells.toArray, .bool o.isSome])
  | 6 => tv (.tuple #[.agg (o.getD Crt.none).cells.toArray, .bool o.isSome])
  | 7 => tv (.agg (o.getD Crt.none).cells.toArray)
  | 8 => tv (.bool o.isSome)
  | _ => tv (.bool o.isSome)
set_option maxRecDepth 100000 in
set_option maxHeartbeats 3200000 in
theorem sgBack_any (x0 : CaseV) (x1 : List Nat) (x2 : Option Addr × Nat × List Nat) (w : World) (q0 : QCase w x0) (q1 : x1.length = 32 ∧ Lim 256 x1) (q2 : SqOk w x2) : Calls Tryz.prog 6 #[.agg (CCase x0).toArray, .agg (ints .u8 x1).toArray, Sq x2] w (Yes w) := by
  obtain ⟨⟨K0, K1, K2⟩, ds, at_, oth⟩ := x0
  obtain ⟨Q0, Q1, Q2⟩ := x2
  obtain ⟨qk, dl, dm, qo⟩ := q0
  obtain ⟨n2, l2⟩ := q1
  simp only at qk dl dm qo
  replace n2 := Lib.hid n2
  replace dl := Lib.hid dl
  obtain ⟨L0, hL0⟩ : ∃ L, L = caseCells K0 K2.length K1 ds at_ oth := ⟨_, rfl⟩
  obtain ⟨L1, hL1⟩ : ∃ L, L = ints .u8 x1 := ⟨_, rfl⟩
  rw [show CCase ⟨(K0, K1, K2), ds, at_, oth⟩ = L0 by rw [hL0]; simp [CaseV.cells, caseCells, Sq], ← hL1]
  replace hL0 := Lib.hid hL0
  replace hL1 := Lib.hid hL1
  obtain ⟨g0, hg0⟩ : ∃ g, g = w.heap.size := ⟨_, rfl⟩
  obtain ⟨u0, hu0⟩ : ∃ u, u = w.alloc (.cells L0.toArray 61) := ⟨_, rfl⟩
  obtain ⟨w0, hw0⟩ : ∃ u, u = u0.alloc (.cells L1.toArray 49) := ⟨_, rfl⟩
  obtain ⟨gb, hgb⟩ : ∃ g, g = w.heap.size + 1 := ⟨_, rfl⟩
  have hu1 : u0.heap.size = gb := by rw [hu0, hgb]; simp
  have eu : Below w.heap.size w u0 := by rw [hu0]; exact (Below.refl _ _).alloc (Nat.le_refl _) _
  have ev : Below u0.heap.size u0 w0 := by rw [hw0]; exact (Below.refl _ _).alloc (Nat.le_refl _) _
  have hE : Below w.heap.size w w0 := eu.trans (ev.mono eu.size)
  have B0 : Cut u0 g0 0 L0 := by rw [hu0, hg0]; exact Cut.of_heap (heap_alloc_new _ _) fun i v hv => by simpa using hv
  replace B0 := B0.below ev
  have B1 : Cut w0 gb 0 L1 := by rw [hw0, ← hu1]; exact Cut.of_heap (heap_alloc_new _ _) fun i v hv => by simpa using hv
  go_enter Tryz.func6, Tryz.ntmps6
  go_upto_region 1 with fail
  refine wp_world (W' := w0) (by rw [hw0, hu0]) ?_
  rw [← hgb, ← hg0]
  clear hw0 hu0 eu ev hu1
  have hbb : gb = g0 + 1 := by rw [hgb, hg0]
  replace hgb := Lib.hid hgb
  replace hbb := Lib.hid hbb
  replace hg0 := Lib.hid hg0
  have lt0 : w.heap.size ≤ g0 := Nat.le_of_eq hg0.out.symm
  have lc : Hid (L0.length = 35) := by rw [hL0.out]; exact case_length _ _ _ _ _ _ dl.out
  replace B0 : Row w0 g0 0 L0 := Row.of_cut B0
  replace B1 : Row w0 gb 0 (ints .u8 x1) := by rw [← hL1.out]; exact Row.of_cut B1
  obtain ⟨P0, P1, P2⟩ : Row w0 g0 1 (ints .u8 ds) ∧ w0.cell? ⟨g0, 33, none⟩ = some (.bool at_) ∧ w0.cell? ⟨g0, 34, none⟩ = some (.int .u8 (oth : Int)) := by
    have q : Row w0 g0 0 ([.slice K0 K2.length K1] ++ (ints .u8 ds ++ [.bool at_, .int .u8 (oth : Int)])) := by rw [hL0.out] at B0; simpa [caseCells] using B0
    refine ⟨q.split.2.split.1, q.at_ (i := 33) ?_ rfl, q.at_ (i := 34) ?_ rfl⟩
    · rw [List.singleton_append, List.getElem?_cons_succ, List.getElem?_append_right (by rw [ints_length, dl.out]; omega), ints_length, dl.out]; rfl
    · rw [List.singleton_append, List.getElem?_cons_succ, List.getElem?_append_right (by rw [ints_length, dl.out]; omega), ints_length, dl.out]; rfl
  replace P1 : Row w0 g0 33 [.bool at_] := ⟨B0.1, fun i v hv => by rcases i with _ | i <;> simp at hv; rw [← hv]; exact P1⟩
  replace P2 : Row w0 g0 34 [.int .u8 (oth : Int)] := ⟨B0.1, fun i v hv => by rcases i with _ | i <;> simp at hv; rw [← hv]; exact P2⟩
  go_wp2_with (refine wpList_load_mid rfl 61 (.tmp 3) rfl g0 0 rfl L0 _ B0.2 Tryz.underlying61 rfl (by rw [lc.out]; exact sz_case) ?_)
  rw [show (Value.agg L0.toArray) = .agg (caseCells K0 K2.length K1 ds at_ oth).toArray by rw [hL0.out]]
  refine (made_case (qk.below hE) dl.out dm qo).mono ?_
  rintro r1 w1 ⟨G, cs, s, c, sum, gA, gz, rfl, M, hk, hcx, D, b⟩
  replace B0 := B0.below b
  replace B1 := B1.below b
  replace P0 := P0.below b
  replace P1 := P1.below b
  replace P2 := P2.below b
  replace hE := hE.trans (b.mono hE.size)
  clear b
  replace hk := Lib.hid hk
  clear hcx
  unfold Sgd.val
  go_upto_region 2 with (first
    | (refine wpList_alloc_row rfl 48 rfl sgd0 (by exact zero_sgd0) ?_; intro g2 wa2 hg2 V2 z2 e2)
    | (refine wpList_store_cut rfl 48 (.tmp 7) (.tmp 14) rfl g2 0 G.cells _ rfl rfl V2 rfl (by exact sz_sgd) (sgd_one _) ?_; intro w2 hst2))
  have b2 : Below w1.heap.size w1 w2 := below_only e2 hst2.1 e2.size (by have := hg2.out; omega)
  have D7 : Row w2 g2 0 G.cells := Row.of_cut hst2.2.2.1
  have lt2 : w.heap.size ≤ g2 := by have := hE.size; have := hg2.out; omega
  have rt2 : w1.heap.size = g2 := hg2.out.symm
  replace rt2 := Lib.hid rt2
  clear V2 z2 e2 hst2
  have l_g0_2 : g0 < g2 := by have := B0.1; have := hg2.out; omega
  have l_gb_2 : gb < g2 := by have := B1.1; have := hg2.out; omega
  replace B0 := B0.below b2
  replace B1 := B1.below b2
  replace P0 := P0.below b2
  replace P1 := P1.below b2
  replace P2 := P2.below b2
  replace M := M.below b2
  replace hE := hE.trans (b2.mono hE.size)
  clear b2
  have hgk := M.kind
  have hcok : c.ok w2 := M.cok c (List.mem_of_getElem? D.spot)
  obtain ⟨kv, hkv⟩ : ∃ kv, kv = G.kind := ⟨_, rfl⟩
  rw [← hkv] at hgk hk
  replace hkv := Lib.hid hkv
  have k0 : w2.cell? ⟨g2, 0, none⟩ = some (.slice kv.A kv.xs.length kv.c) := by rw [hkv.out]; exact D7.at_ (i := 0) rfl rfl
  go_upto_region 3 with fail
  clear k0
  have hR : ∀ kd ds', rightAt cs [s] 0 kd ds' = if (decide (ds = ds') && (!at_ || decide (kindB K2 = kd))) = true then some c else none := fun kd ds' => by simp [rightAt, D.right]
  have hk1 : kindB K2 = kv.xs := hk.out.symm
  have r1 : rightAt cs [s] 0 kv.xs ds = some c := by rw [hR, hk1]; simp
  have Q1 := right_mem M 0 (by omega) kv hgk ds dl.out dm
  rw [r1] at Q1
  go_wp2_with (first
    | (refine wpList_load_mid rfl 48 (.tmp 7) rfl g2 0 rfl G.cells _ D7.2 Tryz.underlying48 rfl sz_sgd ?_)
    | (refine wpList_load_mid rfl 49 (.tmp 20) rfl g0 1 rfl (ints .u8 ds) _ P0.2 Tryz.underlying49 rfl (by rw [ints_length, dl.out]; exact size_32u8) ?_))
  refine (Q1).mono ?_
  rintro r3 w3 ⟨rfl, b⟩
  replace B0 := B0.below b
  replace B1 := B1.below b
  replace P0 := P0.below b
  replace P1 := P1.below b
  replace P2 := P2.below b
  replace M := M.below b
  replace D7 := D7.below b
  replace hgk := hgk.below b
  replace hcok := hcok.below b
  replace hE := hE.trans (b.mono hE.size)
  clear b
  clear Q1
  go_upto_region 4 with (first
    | (refine wpList_alloc_row rfl 30 rfl Crt.none.cells (by exact zero_cert) ?_; intro g4 wa4 hg4 V4 z4 e4)
    | (refine wpList_store_cut rfl 30 (.tmp 9) (.tmp 23) rfl g4 0 c.cells _ rfl rfl V4 rfl (by exact sz_cert) (crt_one _) ?_; intro w4 hst4))
  have b4 : Below w3.heap.size w3 w4 := below_only e4 hst4.1 e4.size (by have := hg4.out; omega)
  have D9 : Row w4 g4 0 c.cells := Row.of_cut hst4.2.2.1
  have lt4 : w.heap.size ≤ g4 := by have := hE.size; have := hg4.out; omega
  have rt4 : w3.heap.size = g4 := hg4.out.symm
  replace rt4 := Lib.hid rt4
  clear V4 z4 e4 hst4
  have l_g0_4 : g0 < g4 := by have := B0.1; have := hg4.out; omega
  have l_gb_4 : gb < g4 := by have := B1.1; have := hg4.out; omega
  have l_g2_4 : g2 < g4 := by have := D7.1; have := hg4.out; omega
  replace B0 := B0.below b4
  replace B1 := B1.below b4
  replace P0 := P0.below b4
  replace P1 := P1.below b4
  replace P2 := P2.below b4
  replace M := M.below b4
  replace D7 := D7.below b4
  replace hgk := hgk.below b4
  replace hcok := hcok.below b4
  replace hE := hE.trans (b4.mono hE.size)
  clear b4
  have k2 : w4.cell? ⟨g2, 2, none⟩ = some (.slice (some ⟨gA, 0, none⟩) cs.length G.cc) := by
    have q := D7.at_ (i := 2) (o' := 2) (v := .slice G.CA G.cn G.cc) rfl rfl
    rwa [M.cA.resolve_left (by rintro rfl; have := D.len; simp at this), M.cn] at q
  have hi : oth % 3 < cs.length := by have := D.len; omega
  have Rc := crt_row M.cR D.spot
  have hd0 : Below w4.heap.size w4 w4.drew := below_drewN (Below.refl _ _) 1
  refine wp_region_steps (by kernel_rfl) (fun i => 25 + i) (fun i v W => Sp (sgbkT g2 g0 gA cs.length G.cc oth c i) v W) (fun W => Below w4.heap.size w4 W) (by kernel_rfl) (by kernel_rfl) ?inj ?lt (fun i v W W' h hs => h.mono hs) hd0 ⟨?s0, ?s1, ?s2, ?s3, ?s4, ?s5, ?s6, ?s7, ?s8, ?s9, ?s10, ?s11, ?s12, ?s13, ?s14, trivial⟩ ?fin
  case inj =>
    intro i j hi hj h
    have h40 : i < 15 ∧ j < 15 := ⟨hi, hj⟩
    have h : 25 + i = 25 + j := h
    omega
  case lt =>
    intro i hi
    have h40 : i < 15 := hi
    show 25 + i < 98
    omega
  case s0 => exact (st_move rfl (.inl rfl) (src_base (fun i hi => by have hi : i < 15 := hi; show 25 + i ≠ _; omega) rfl))
  case s1 => exact (st_pure (V := .bool true) (U := .bool false) rfl (src_dep (j := 0) (e := ⟨0, .data⟩) (by simp) rfl rfl rfl) (fun a h W => by
        have h : a.eval (.tmp 25) = .bool true := h
        unfold execOp
        simp only [h]
        rfl) (fun W hg => Sp.tv rfl))
  case s2 => exact (st_move rfl (.inl rfl) (src_dep (j := 1) (e := ⟨1, .data⟩) (by simp) rfl rfl rfl))
  case s3 => exact (st_guard (j := 2) (b := false) (e := ⟨2, .guard⟩) rfl (by simp) rfl rfl rfl rfl (st_loadR (b := g4) (off := 0) rfl rfl rfl (src_base (fun i hi => by have hi : i < 15 := hi; show 25 + i ≠ _; omega) rfl) Tryz.underlying30 rfl sz_cert (fun W h => (D9.below h).2)))
  case s4 => exact (st_guard (j := 2) (b := false) (e := ⟨2, .guard⟩) rfl (by simp) rfl rfl rfl rfl (st_field rfl rfl rfl (src_base (fun i hi => by have hi : i < 15 := hi; show 25 + i ≠ _; omega) rfl) (fun W => fa_sgd2 g2 0 W)))
  case s5 => exact (st_guard (j := 2) (b := false) (e := ⟨2, .guard⟩) rfl (by simp) rfl rfl rfl rfl (st_load rfl rfl rfl (src_dep (j := 4) (e := ⟨4, .data⟩) (by simp) rfl rfl rfl) (ld_certs _ _) (fun W h => (h.cell (p := ⟨g2, 2, none⟩) D7.1).trans k2)))
  case s6 => exact (st_guard (j := 2) (b := false) (e := ⟨2, .guard⟩) rfl (by simp) rfl rfl rfl rfl (st_field rfl rfl rfl (src_base (fun i hi => by have hi : i < 15 := hi; show 25 + i ≠ _; omega) rfl) (fun W => fa_case3 g0 0 W)))
  case s7 => exact (st_guard (j := 2) (b := false) (e := ⟨2, .guard⟩) rfl (by simp) rfl rfl rfl rfl (st_load rfl rfl rfl (src_dep (j := 6) (e := ⟨6, .data⟩) (by simp) rfl rfl rfl) (ld_u8 _ _) (fun W h => (h.cell (p := ⟨g0, 34, none⟩) P2.1).trans (P2.at_ (i := 0) rfl rfl))))
  case s8 => exact (st_guard (j := 2) (b := false) (e := ⟨2, .guard⟩) rfl (by simp) rfl rfl rfl rfl (st_pure (V := .int .u8 (oth : Int)) (U := .int .u8 ((oth % 3 : Nat) : Int)) rfl (src_dep (j := 7) (e := ⟨7, .data⟩) (by simp) rfl rfl rfl) (fun a h W => ex_rem_u8 rfl h W) (fun W hg => Sp.tv rfl)))
  case s9 => exact (st_guard (j := 2) (b := false) (e := ⟨2, .guard⟩) rfl (by simp) rfl rfl rfl rfl (st_pure (V := .int .u8 ((oth % 3 : Nat) : Int)) (U := .int .i64 ((oth % 3 : Nat) : Int)) rfl (src_dep (j := 8) (e := ⟨8, .data⟩) (by simp) rfl rfl rfl) (fun a h W => ex_conv_u8 (by omega) rfl h W) (fun W hg => Sp.tv rfl)))
  case s10 => exact (st_guard (j := 2) (b := false) (e := ⟨2, .guard⟩) rfl (by simp) rfl rfl rfl rfl (st_index rfl rfl rfl (src_dep (j := 5) (e := ⟨5, .data⟩) (by simp) rfl rfl rfl) (src_dep (j := 9) (e := ⟨9, .data⟩) (by simp) rfl rfl rfl) (fun W => ia_cert gA 0 cs.length G.cc (oth % 3) hi W)))
  case s11 => exact (st_guard (j := 2) (b := false) (e := ⟨2, .guard⟩) rfl (by simp) rfl rfl rfl rfl (st_loadR (b := gA) (off := 0 + oth % 3 * 24) rfl rfl rfl (src_dep (j := 10) (e := ⟨10, .data⟩) (by simp) rfl rfl rfl) Tryz.underlying30 rfl sz_cert (fun W h => (Rc.below h).2)))
  case s12 => exact (st_guard (j := 2) (b := false) (e := ⟨2, .guard⟩) rfl (by simp) rfl rfl rfl rfl (st_call rfl (fun a W => run_call rfl cf_sameC a W) (fun a W hb hd hg => by
      have h1 : a.eval (.tmp 28) = .agg c.cells.toArray := (hd ⟨3, .data⟩ (by simp) rfl).now
      have h2 : a.eval (.tmp 36) = .agg c.cells.toArray := (hd ⟨11, .data⟩ (by simp) rfl).now
      simp only [List.map_toArray, List.map_cons, List.map_nil, h1, h2]
      refine (sameC_any c c W (hcok.below hg) (hcok.below hg)).mono ?_
      rintro e W' ⟨rfl, hb'⟩
      exact ⟨_, rfl, hb', by simp only [decide_true]; exact Sp.tv rfl⟩)))
  case s13 => exact (st_guard (j := 2) (b := false) (e := ⟨2, .guard⟩) rfl (by simp) rfl rfl rfl rfl (st_pure (V := .bool true) (U := .bool false) rfl (src_dep (j := 12) (e := ⟨12, .data⟩) (by simp) rfl rfl rfl) (fun a h W => by
        have h : a.eval (.tmp 37) = .bool true := h
        unfold execOp
        simp only [h]
        rfl) (fun W hg => Sp.tv rfl)))
  case s14 => exact (st_pick_no rfl rfl (src_dep (j := 2) (e := ⟨2, .data⟩) (by simp) rfl rfl rfl) (src_dep (j := 13) (e := ⟨13, .data⟩) (by simp) rfl rfl rfl))
  case fin =>
    intro a W h1 h2 h3 h4 h5
    have b39 : a.tmps.getD 39 undef = .bool false := (h4 14 (by show 14 < 15; omega)).now
    have hz : a.tmps.size = 98 := h2
    have hdf : a.defers = [] := h1
    have b2 := h3 2 (fun i hi => by have h8 : i < 15 := hi; show (25 + i) ≠ 2; omega)
    replace b2 : a.tmps.getD 2 undef = .slice Q0 Q2.length Q1 := b2
    have b3 := h3 3 (fun i hi => by have h8 : i < 15 := hi; show (25 + i) ≠ 3; omega)
    replace b3 : a.tmps.getD 3 undef = .pointer (some ⟨g0, 0, none⟩) := b3
    have b4 := h3 4 (fun i hi => by have h8 : i < 15 := hi; show (25 + i) ≠ 4; omega)
    replace b4 : a.tmps.getD 4 undef = .pointer (some ⟨gb, 0, none⟩) := b4
    have b6 := h3 6 (fun i hi => by have h8 : i < 15 := hi; show (25 + i) ≠ 6; omega)
    replace b6 : a.tmps.getD 6 undef = .bool false := b6
    have b7 := h3 7 (fun i hi => by have h8 : i < 15 := hi; show (25 + i) ≠ 7; omega)
    replace b7 : a.tmps.getD 7 undef = .pointer (some ⟨g2, 0, none⟩) := b7
    have b8 := h3 8 (fun i hi => by have h8 : i < 15 := hi; show (25 + i) ≠ 8; omega)
    replace b8 : a.tmps.getD 8 undef = .slice kv.A kv.xs.length kv.c := b8
    have b10 := h3 10 (fun i hi => by have h8 : i < 15 := hi; show (25 + i) ≠ 10; omega)
    replace b10 : a.tmps.getD 10 undef = .bool true := b10
    rw [act_eq hz hdf]
    simp only [show List.range 98 = [0, 1, 2, 3, 4, 5, 6, 7, 8, 9, 10, 11, 12, 13, 14, 15, 16, 17, 18, 19, 20, 21, 22, 23, 24, 25, 26, 27, 28, 29, 30, 31, 32, 33, 34, 35, 36, 37, 38, 39, 40, 41, 42, 43, 44, 45, 46, 47, 48, 49, 50, 51, 52, 53, 54, 55, 56, 57, 58, 59, 60, 61, 62, 63, 64, 65, 66, 67, 68, 69, 70, 71, 72, 73, 74, 75, 76, 77, 78, 79, 80, 81, 82, 83, 84, 85, 86, 87, 88, 89, 90, 91, 92, 93, 94, 95, 96, 97] from rfl, List.map_cons, List.map_nil, b2, b3, b4, b6, b7, b8, b10, b39]
    clear b2 b3 b4 b6 b7 b8 b10 b39 hz hdf h1 h2 h3 h4
    clear k2 Rc hi
    replace B0 := B0.below h5
    replace B1 := B1.below h5
    replace P0 := P0.below h5
    replace P1 := P1.below h5
    replace P2 := P2.below h5
    replace M := M.below h5
    replace D7 := D7.below h5
    replace hgk := hgk.below h5
    replace hcok := hcok.below h5
    replace D9 := D9.below h5
    replace hE := hE.trans (h5.mono hE.size)
    clear h5
    have r2 : (rightAt cs [s] 0 kv.xs x1).isSome = decide (x1 = ds) := by rw [hR, hk1, show decide (ds = x1) = decide (x1 = ds) from decide_eq_decide.2 eq_comm]; cases decide (x1 = ds) <;> simp
    obtain ⟨o2, ho2⟩ : ∃ o, o = rightAt cs [s] 0 kv.xs x1 := ⟨_, rfl⟩
    rw [← ho2] at r2
    have Q1 := right_mem M 0 (by omega) kv hgk x1 n2.out l2
    rw [← ho2] at Q1
    clear ho2
    go_wp2_with (first
      | (refine wpList_load_mid rfl 48 (.tmp 7) rfl g2 0 rfl G.cells _ D7.2 Tryz.underlying48 rfl sz_sgd ?_)
      | (refine wpList_load_mid rfl 49 (.tmp 4) rfl gb 0 rfl (ints .u8 x1) _ B1.2 Tryz.underlying49 rfl (by rw [ints_length, n2.out]; exact size_32u8) ?_))
    refine (Q1).mono ?_
    rintro r5 w5 ⟨rfl, b⟩
    replace B0 := B0.below b
    replace B1 := B1.below b
    replace P0 := P0.below b
    replace P1 := P1.below b
    replace P2 := P2.below b
    replace M := M.below b
    replace D7 := D7.below b
    replace hgk := hgk.below b
    replace hcok := hcok.below b
    replace D9 := D9.below b
    replace hE := hE.trans (b.mono hE.size)
    clear b
    clear Q1
    go_upto_region 9 with (first
      | (refine wpList_load_mid rfl 49 (.tmp 4) rfl gb 0 rfl (ints .u8 x1) _ B1.2 Tryz.underlying49 rfl (by rw [ints_length, n2.out]; exact size_32u8) ?_)
      | (refine wpList_load_mid rfl 49 (.tmp 49) rfl g0 1 rfl (ints .u8 ds) _ P0.2 Tryz.underlying49 rfl (by rw [ints_length, dl.out]; exact size_32u8) ?_)
      | ((with_reducible refine wpList_eql_arr (.tmp 48) (.tmp 50) ?_ x1 ds n2.out dl.out ?_ ?_ ?_ ?_); (· rfl); (· rfl); (· rfl); (· rfl)))
    have hA := q2.below hE
    obtain ⟨k1, k2, k3⟩ := kindB_ok Q2
    obtain ⟨kq, hkq⟩ : ∃ kq, kq = kindB Q2 := ⟨_, rfl⟩
    rw [← hkq] at k1 k2 k3
    replace hkq := Lib.hid hkq
    obtain ⟨o3, ho3⟩ : ∃ o, o = rightAt cs [s] 0 kq ds := ⟨_, rfl⟩
    replace ho3 := Lib.hid ho3
    have hd0 : Below w5.heap.size w5 w5.drew := below_drewN (Below.refl _ _) 1
    refine wp_region_steps (by kernel_rfl) (fun i => if i = 6 then 53 else if i = 7 then 60 else if i = 8 then 61 else if i = 9 then 10 else 54 + i) (fun i v W => Sp (sgbkU w5.heap.size G.cells Q0 Q2.length Q1 kq ds g0 o3 i) v W) (fun W => Below w5.heap.size w5 W) (by kernel_rfl) (by kernel_rfl) ?inj ?lt (fun i v W W' h hs => h.mono hs) hd0 ⟨?s0, ?s1, ?s2, ?s3, ?s4, ?s5, ?s6, ?s7, ?s8, ?s9, trivial⟩ ?fin
    case inj =>
      intro i j hi hj h
      have h40 : i < 10 ∧ j < 10 := ⟨hi, hj⟩
      have h : (if i = 6 then 53 else if i = 7 then 60 else if i = 8 then 61 else if i = 9 then 10 else 54 + i) = (if j = 6 then 53 else if j = 7 then 60 else if j = 8 then 61 else if j = 9 then 10 else 54 + j) := h
      (repeat' split at h) <;> omega
    case lt =>
      intro i hi
      have h40 : i < 10 := hi
      show (if i = 6 then 53 else if i = 7 then 60 else if i = 8 then 61 else if i = 9 then 10 else 54 + i) < 98
      (repeat' split) <;> omega
    case s0 => exact (st_loadR (b := g2) (off := 0) rfl rfl rfl (src_base (fun i hi => by have hi : i < 10 := hi; show (if i = 6 then 53 else if i = 7 then 60 else if i = 8 then 61 else if i = 9 then 10 else 54 + i) ≠ _; (repeat' split) <;> omega) rfl) Tryz.underlying48 rfl sz_sgd (fun W h => (D7.below h).2))
    case s1 => exact (st_move rfl (.inl rfl) (src_base (fun i hi => by have hi : i < 10 := hi; show (if i = 6 then 53 else if i = 7 then 60 else if i = 8 then 61 else if i = 9 then 10 else 54 + i) ≠ _; (repeat' split) <;> omega) rfl))
    case s2 => exact (st_call rfl (fun a W => run_call rfl cf_kind a W) (fun a W hb hd hg => by
        have h1 : a.eval (.tmp 55) = .slice Q0 Q2.length Q1 := (hd ⟨1, .data⟩ (by simp) rfl).now
        simp only [List.map_toArray, List.map_cons, List.map_nil, h1]
        have h2 := kind_sl (hA.below hg)
        rw [show kindB (Q0, Q1, Q2).2.2 = kq from hkq.out.symm] at h2
        exact h2.mono fun _ _ h => h.sp hg.size))
    case s3 => exact (st_field rfl rfl rfl (src_base (fun i hi => by have hi : i < 10 := hi; show (if i = 6 then 53 else if i = 7 then 60 else if i = 8 then 61 else if i = 9 then 10 else 54 + i) ≠ _; (repeat' split) <;> omega) rfl) (fun W => fa_case1 g0 0 W))
    case s4 => exact (st_loadR (b := g0) (off := 1) rfl rfl rfl (src_dep (j := 3) (e := ⟨3, .data⟩) (by simp) rfl rfl rfl) Tryz.underlying49 rfl (by rw [ints_length, dl.out]; exact size_32u8) (fun W h => (P0.below h).2))
    case s5 => exact (st_call rfl (fun a W => run_call rfl cf_right a W) (fun a W hb hd hg => by
        have h1 : a.eval (.tmp 54) = .agg G.cells.toArray := (hd ⟨0, .data⟩ (by simp) rfl).now
        obtain ⟨A4, c4, h2, u1, u2, u3, u4⟩ := (hd ⟨2, .data⟩ (by simp) rfl).now
        have h2 : a.eval (.tmp 56) = _ := h2
        have h3 : a.eval (.tmp 58) = .agg (ints .u8 ds).toArray := (hd ⟨4, .data⟩ (by simp) rfl).now
        have h4 : a.eval (.const (.int .i64 0)) = .int .i64 0 := rfl
        simp only [List.map_toArray, List.map_cons, List.map_nil, h1, h2, h3, h4]
        have Q1 := right_mem (M.below hg) 0 (by omega) ⟨A4, c4, kq⟩ ⟨u3, k1, u1, u2⟩ ds dl.out dm
        rw [show rightAt cs [s] 0 (Sl.mk A4 c4 kq).xs ds = o3 from ho3.out.symm] at Q1
        refine Q1.mono ?_
        rintro e W' ⟨rfl, hb'⟩
        exact ⟨_, rfl, hb', Sp.tv rfl⟩))
    case s6 => exact (st_move rfl (.inl rfl) (src_dep (j := 5) (e := ⟨5, .data⟩) (by simp) rfl rfl rfl))
    case s7 => exact (st_pure (V := .tuple #[.agg (o3.getD Crt.none).cells.toArray, .bool o3.isSome]) (U := .agg (o3.getD Crt.none).cells.toArray) rfl (src_dep (j := 6) (e := ⟨6, .data⟩) (by simp) rfl rfl rfl) (fun a h W => by
          have h : a.eval (.tmp 53) = .tuple #[.agg (o3.getD Crt.none).cells.toArray, .bool o3.isSome] := h
          unfold execOp
          simp only [h]
          rfl) (fun W hg => Sp.tv rfl))
    case s8 => exact (st_pure (V := .tuple #[.agg (o3.getD Crt.none).cells.toArray, .bool o3.isSome]) (U := .bool o3.isSome) rfl (src_dep (j := 6) (e := ⟨6, .data⟩) (by simp) rfl rfl rfl) (fun a h W => by
          have h : a.eval (.tmp 53) = .tuple #[.agg (o3.getD Crt.none).cells.toArray, .bool o3.isSome] := h
          unfold execOp
          simp only [h]
          rfl) (fun W hg => Sp.tv rfl))
    case s9 => exact (st_move rfl (.inr rfl) (src_dep (j := 8) (e := ⟨8, .data⟩) (by simp) rfl rfl rfl))
    case fin =>
      intro a W h1 h2 h3 h4 h5
      have b10 : a.tmps.getD 10 undef = .bool o3.isSome := (h4 9 (by show 9 < 10; omega)).now
      have hz : a.tmps.size = 98 := h2
      have hdf : a.defers = [] := h1
      have b2 := h3 2 (fun i hi => by have h8 : i < 10 := hi; show (if i = 6 then 53 else if i = 7 then 60 else if i = 8 then 61 else if i = 9 then 10 else 54 + i) ≠ 2; (repeat' split) <;> omega)
      replace b2 : a.tmps.getD 2 undef = .slice Q0 Q2.length Q1 := b2
      have b3 := h3 3 (fun i hi => by have h8 : i < 10 := hi; show (if i = 6 then 53 else if i = 7 then 60 else if i = 8 then 61 else if i = 9 then 10 else 54 + i) ≠ 3; (repeat' split) <;> omega)
      replace b3 : a.tmps.getD 3 undef = .pointer (some ⟨g0, 0, none⟩) := b3
      have b4 := h3 4 (fun i hi => by have h8 : i < 10 := hi; show (if i = 6 then 53 else if i = 7 then 60 else if i = 8 then 61 else if i = 9 then 10 else 54 + i) ≠ 4; (repeat' split) <;> omega)
      replace b4 : a.tmps.getD 4 undef = .pointer (some ⟨gb, 0, none⟩) := b4
      have b6 := h3 6 (fun i hi => by have h8 : i < 10 := hi; show (if i = 6 then 53 else if i = 7 then 60 else if i = 8 then 61 else if i = 9 then 10 else 54 + i) ≠ 6; (repeat' split) <;> omega)
      replace b6 : a.tmps.getD 6 undef = .bool false := b6
      have b7 := h3 7 (fun i hi => by have h8 : i < 10 := hi; show (if i = 6 then 53 else if i = 7 then 60 else if i = 8 then 61 else if i = 9 then 10 else 54 + i) ≠ 7; (repeat' split) <;> omega)
      replace b7 : a.tmps.getD 7 undef = .pointer (some ⟨g2, 0, none⟩) := b7
      have b8 := h3 8 (fun i hi => by have h8 : i < 10 := hi; show (if i = 6 then 53 else if i = 7 then 60 else if i = 8 then 61 else if i = 9 then 10 else 54 + i) ≠ 8; (repeat' split) <;> omega)
      replace b8 : a.tmps.getD 8 undef = .slice kv.A kv.xs.length kv.c := b8
      rw [act_eq hz hdf]
      simp only [show List.range 98 = [0, 1, 2, 3, 4, 5, 6, 7, 8, 9, 10, 11, 12, 13, 14, 15, 16, 17, 18, 19, 20, 21, 22, 23, 24, 25, 26, 27, 28, 29, 30, 31, 32, 33, 34, 35, 36, 37, 38, 39, 40, 41, 42, 43, 44, 45, 46, 47, 48, 49, 50, 51, 52, 53, 54, 55, 56, 57, 58, 59, 60, 61, 62, 63, 64, 65, 66, 67, 68, 69, 70, 71, 72, 73, 74, 75, 76, 77, 78, 79, 80, 81, 82, 83, 84, 85, 86, 87, 88, 89, 90, 91, 92, 93, 94, 95, 96, 97] from rfl, List.map_cons, List.map_nil, b2, b3, b4, b6, b7, b8, b10]
      clear b2 b3 b4 b6 b7 b8 b10 hz hdf h1 h2 h3 h4
      replace B0 := B0.below h5
      replace B1 := B1.below h5
      replace P0 := P0.below h5
      replace P1 := P1.below h5
      replace P2 := P2.below h5
      replace M := M.below h5
      replace D7 := D7.below h5
      replace hgk := hgk.below h5
      replace hcok := hcok.below h5
      replace D9 := D9.below h5
      replace hA := hA.below h5
      replace hE := hE.trans (h5.mono hE.size)
      clear h5
      have kc : W.cell? ⟨g0, 33, none⟩ = some (.bool at_) := P1.at_ (i := 0) rfl rfl
      have r3 : o3.isSome = (!at_ || decide (kq = kv.xs)) := by rw [ho3.out, hR, hk1, show decide (kv.xs = kq) = decide (kq = kv.xs) from decide_eq_decide.2 eq_comm]; simp; split <;> simp_all
      have rp : rightAt cs [s] 1 kv.xs ds = none := by simp [rightAt]
      have rm : rightAt cs [s] (-1) kv.xs ds = none := by simp [rightAt]
      replace rp := Lib.hid rp
      replace rm := Lib.hid rm
      cases at_
      case false =>
        have r4 : o3.isSome = true := by rw [r3]; rfl
        clear r3
        have Q1 := right_mem M 1 (by omega) kv hgk ds dl.out dm
        rw [rp.out] at Q1
        go_wp2_with (first
          | (refine wpList_load_mid rfl 48 (.tmp 7) rfl g2 0 rfl G.cells _ D7.2 Tryz.underlying48 rfl sz_sgd ?_)
          | (refine wpList_load_mid rfl 49 (.tmp 76) rfl g0 1 rfl (ints .u8 ds) _ P0.2 Tryz.underlying49 rfl (by rw [ints_length, dl.out]; exact size_32u8) ?_))
        refine (Q1).mono ?_
        rintro r6 w6 ⟨rfl, b⟩
        replace B0 := B0.below b
        replace B1 := B1.below b
        replace P0 := P0.below b
        replace P1 := P1.below b
        replace P2 := P2.below b
        replace M := M.below b
        replace D7 := D7.below b
        replace hgk := hgk.below b
        replace hcok := hcok.below b
        replace D9 := D9.below b
        replace hA := hA.below b
        replace hE := hE.trans (b.mono hE.size)
        clear b
        clear Q1
        have Q1 := right_mem M (-1) (by omega) kv hgk ds dl.out dm
        rw [rm.out] at Q1
        go_wp2_with (first
          | (refine wpList_load_mid rfl 48 (.tmp 7) rfl g2 0 rfl G.cells _ D7.2 Tryz.underlying48 rfl sz_sgd ?_)
          | (refine wpList_load_mid rfl 49 (.tmp 84) rfl g0 1 rfl (ints .u8 ds) _ P0.2 Tryz.underlying49 rfl (by rw [ints_length, dl.out]; exact size_32u8) ?_))
        refine (Q1).mono ?_
        rintro r7 w7 ⟨rfl, b⟩
        replace B0 := B0.below b
        replace B1 := B1.below b
        replace P0 := P0.below b
        replace P1 := P1.below b
        replace P2 := P2.below b
        replace M := M.below b
        replace D7 := D7.below b
        replace hgk := hgk.below b
        replace hcok := hcok.below b
        replace D9 := D9.below b
        replace hA := hA.below b
        replace hE := hE.trans (b.mono hE.size)
        clear b
        clear Q1
        go_upto_region 14 with (first
          | (refine wpList_alloc_row rfl 30 rfl Crt.none.cells (by exact zero_cert) ?_; intro g8 wa8 hg8 V8 z8 e8)
          | (refine wpList_store_cut rfl 30 (.tmp 11) (.tmp 87) rfl g8 0 Crt.none.cells _ rfl rfl V8 rfl (by exact sz_cert) (crt_one _) ?_; intro w8 hst8))
        have b8 : Below w7.heap.size w7 w8 := below_only e8 hst8.1 e8.size (by have := hg8.out; omega)
        have D11 : Row w8 g8 0 Crt.none.cells := Row.of_cut hst8.2.2.1
        have lt8 : w.heap.size ≤ g8 := by have := hE.size; have := hg8.out; omega
        have rt8 : w7.heap.size = g8 := hg8.out.symm
        replace rt8 := Lib.hid rt8
        clear V8 z8 e8 hst8
        have l_g0_8 : g0 < g8 := by have := B0.1; have := hg8.out; omega
        have l_gb_8 : gb < g8 := by have := B1.1; have := hg8.out; omega
        have l_g2_8 : g2 < g8 := by have := D7.1; have := hg8.out; omega
        have l_g4_8 : g4 < g8 := by have := D9.1; have := hg8.out; omega
        replace B0 := B0.below b8
        replace B1 := B1.below b8
        replace P0 := P0.below b8
        replace P1 := P1.below b8
        replace P2 := P2.below b8
        replace M := M.below b8
        replace D7 := D7.below b8
        replace hgk := hgk.below b8
        replace hcok := hcok.below b8
        replace D9 := D9.below b8
        replace hA := hA.below b8
        replace hE := hE.trans (b8.mono hE.size)
        clear b8
        go_wp2_with fail
        refine (works15_any _).mono ?_
        rintro r w' ⟨rfl, b⟩
        go_wp2_with fail
        go_ret
        exact ⟨rfl, hE.trans (b.mono hE.size)⟩
      case true =>
        have r4 : o3.isSome = decide (kq = kv.xs) := by rw [r3]; rfl
        clear r3
        go_wp2_with fail
        refine (kind_sl hA).mono ?_
        rintro r w6 ⟨A4, c4, rfl, m1, m2, m3, b⟩
        have e4 : kindB (Q0, Q1, Q2).2.2 = kq := hkq.out.symm
        rw [e4] at m1 m3
        have hrd := m3.rd
        clear m2 m3
        replace B0 := B0.below b
        replace B1 := B1.below b
        replace P0 := P0.below b
        replace P1 := P1.below b
        replace P2 := P2.below b
        replace M := M.below b
        replace D7 := D7.below b
        replace hgk := hgk.below b
        replace hcok := hcok.below b
        replace D9 := D9.below b
        replace hA := hA.below b
        replace hE := hE.trans (b.mono hE.size)
        clear b
        simp only [e4]
        clear e4 kc
        go_wp2_with fail
        refine (eqBytes_any A4 kv.A kq.length kv.xs.length c4 kv.c kq kv.xs _ rfl rfl hrd hgk.rd k1 hgk.lim).mono ?_
        rintro r w' ⟨rfl, rfl⟩
        have Q1 := right_mem M 1 (by omega) kv hgk ds dl.out dm
        rw [rp.out] at Q1
        go_wp2_with (first
          | (refine wpList_load_mid rfl 48 (.tmp 7) rfl g2 0 rfl G.cells _ D7.2 Tryz.underlying48 rfl sz_sgd ?_)
          | (refine wpList_load_mid rfl 49 (.tmp 76) rfl g0 1 rfl (ints .u8 ds) _ P0.2 Tryz.underlying49 rfl (by rw [ints_length, dl.out]; exact size_32u8) ?_))
        refine (Q1).mono ?_
        rintro r7 w7 ⟨rfl, b⟩
        replace B0 := B0.below b
        replace B1 := B1.below b
        replace P0 := P0.below b
        replace P1 := P1.below b
        replace P2 := P2.below b
        replace M := M.below b
        replace D7 := D7.below b
        replace hgk := hgk.below b
        replace hcok := hcok.below b
        replace D9 := D9.below b
        replace hA := hA.below b
        replace hE := hE.trans (b.mono hE.size)
        clear b
        clear Q1
        have Q1 := right_mem M (-1) (by omega) kv hgk ds dl.out dm
        rw [rm.out] at Q1
        go_wp2_with (first
          | (refine wpList_load_mid rfl 48 (.tmp 7) rfl g2 0 rfl G.cells _ D7.2 Tryz.underlying48 rfl sz_sgd ?_)
          | (refine wpList_load_mid rfl 49 (.tmp 84) rfl g0 1 rfl (ints .u8 ds) _ P0.2 Tryz.underlying49 rfl (by rw [ints_length, dl.out]; exact size_32u8) ?_))
        refine (Q1).mono ?_
        rintro r8 w8 ⟨rfl, b⟩
        replace B0 := B0.below b
        replace B1 := B1.below b
        replace P0 := P0.below b
        replace P1 := P1.below b
        replace P2 := P2.below b
        replace M := M.below b
        replace D7 := D7.below b
        replace hgk := hgk.below b
        replace hcok := hcok.below b
        replace D9 := D9.below b
        replace hA := hA.below b
        replace hE := hE.trans (b.mono hE.size)
        clear b
        clear Q1
        go_upto_region 14 with (first
          | (refine wpList_alloc_row rfl 30 rfl Crt.none.cells (by exact zero_cert) ?_; intro g9 wa9 hg9 V9 z9 e9)
          | (refine wpList_store_cut rfl 30 (.tmp 11) (.tmp 87) rfl g9 0 Crt.none.cells _ rfl rfl V9 rfl (by exact sz_cert) (crt_one _) ?_; intro w9 hst9))
        have b9 : Below w8.heap.size w8 w9 := below_only e9 hst9.1 e9.size (by have := hg9.out; omega)
        have D11 : Row w9 g9 0 Crt.none.cells := Row.of_cut hst9.2.2.1
        have lt9 : w.heap.size ≤ g9 := by have := hE.size; have := hg9.out; omega
        have rt9 : w8.heap.size = g9 := hg9.out.symm
        replace rt9 := Lib.hid rt9
        clear V9 z9 e9 hst9
        have l_g0_9 : g0 < g9 := by have := B0.1; have := hg9.out; omega
        have l_gb_9 : gb < g9 := by have := B1.1; have := hg9.out; omega
        have l_g2_9 : g2 < g9 := by have := D7.1; have := hg9.out; omega
        have l_g4_9 : g4 < g9 := by have := D9.1; have := hg9.out; omega
        replace B0 := B0.below b9
        replace B1 := B1.below b9
        replace P0 := P0.below b9
        replace P1 := P1.below b9
        replace P2 := P2.below b9
        replace M := M.below b9
        replace D7 := D7.below b9
        replace hgk := hgk.below b9
        replace hcok := hcok.below b9
        replace D9 := D9.below b9
        replace hA := hA.below b9
        replace hE := hE.trans (b9.mono hE.size)
        clear b9
        go_wp2_with fail
        refine (works15_any _).mono ?_
        rintro r w' ⟨rfl, b⟩
        go_wp2_with fail
        go_ret
        exact ⟨rfl, hE.trans (b.mono hE.size)⟩
end Go.Proofs.YtchaahnhpeoomaaGreat
