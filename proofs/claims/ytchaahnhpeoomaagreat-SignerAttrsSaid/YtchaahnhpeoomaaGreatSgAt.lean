/-
  SignerAttrs: what attributes tell must be what is asked for.
-/
import Derived.Test.YtchaahnhpeoomaaGreatSgC
namespace Go.Proofs.YtchaahnhpeoomaaGreat
set_option linter.unusedVariables false
set_option linter.unusedSimpArgs false
set_option maxRecDepth 20000
open Go.RowKit

set_option maxRecDepth 100000 in
set_option maxHeartbeats 3200000 in
theorem sgAttrs_any (x0 : CaseV) (x1 : List Nat × List Nat × (Option Addr × Nat × List Nat)) (w : World) (q0 : QCase w x0) (q1 : QTurned w x1) : Calls Tryz.prog 11 #[.agg (CCase x0).toArray, .agg (CTurned x1).toArray] w (Yes w) := by
  obtain ⟨⟨K0, K1, K2⟩, ds, at_, oth⟩ := x0
  obtain ⟨tell, ask, ⟨Q0, Q1, Q2⟩⟩ := x1
  obtain ⟨qk, dl, dm, qo⟩ := q0
  obtain ⟨⟨n1, l1⟩, ⟨n2, l2⟩, qa⟩ := q1
  simp only at qk dl dm qo n1 l1 n2 l2 qa
  replace n1 := Lib.hid n1
  replace n2 := Lib.hid n2
  replace dl := Lib.hid dl
  obtain ⟨L0, hL0⟩ : ∃ L, L = caseCells K0 K2.length K1 ds at_ oth := ⟨_, rfl⟩
  obtain ⟨L1, hL1⟩ : ∃ L, L = CTurned (tell, ask, (Q0, Q1, Q2)) := ⟨_, rfl⟩
  rw [show CCase ⟨(K0, K1, K2), ds, at_, oth⟩ = L0 by rw [hL0]; simp [CaseV.cells, caseCells, Sq], ← hL1]
  replace hL0 := Lib.hid hL0
  replace hL1 := Lib.hid hL1
  obtain ⟨g0, hg0⟩ : ∃ g, g = w.heap.size := ⟨_, rfl⟩
  obtain ⟨u0, hu0⟩ : ∃ u, u = w.alloc (.cells L0.toArray 61) := ⟨_, rfl⟩
  obtain ⟨w0, hw0⟩ : ∃ u, u = u0.alloc (.cells L1.toArray 74) := ⟨_, rfl⟩
  obtain ⟨gb, hgb⟩ : ∃ g, g = w.heap.size + 1 := ⟨_, rfl⟩
  have hu1 : u0.heap.size = gb := by rw [hu0, hgb]; simp
  have eu : Below w.heap.size w u0 := by rw [hu0]; exact (Below.refl _ _).alloc (Nat.le_refl _) _
  have ev : Below u0.heap.size u0 w0 := by rw [hw0]; exact (Below.refl _ _).alloc (Nat.le_refl _) _
  have hE : Below w.heap.size w w0 := eu.trans (ev.mono eu.size)
  have B0 : Cut u0 g0 0 L0 := by rw [hu0, hg0]; exact Cut.of_heap (heap_alloc_new _ _) fun i v hv => by simpa using hv
  replace B0 := B0.below ev
  have B1 : Cut w0 gb 0 L1 := by rw [hw0, ← hu1]; exact Cut.of_heap (heap_alloc_new _ _) fun i v hv => by simpa using hv
  go_enter Tryz.func11, Tryz.ntmps11
  go_upto_region 1 with fail
  refine wp_world (W' := w0) (by rw [hw0, hu0]) ?_
  rw [← hgb, ← hg0]
  clear hw0 hu0 eu ev hu1
  have hbb : gb = g0 + 1 := by rw [hgb, hg0]
  replace hgb := Lib.hid hgb
  replace hbb := Lib.hid hbb
  replace hg0 := Lib.hid hg0
  have lt0 : w.heap.size ≤ g0 := Nat.le_of_eq hg0.out.symm
  obtain ⟨P1, C0⟩ := (show Row w0 gb 0 (ints .u8 tell ++ (ints .u8 ask ++ [.slice Q0 Q2.length Q1])) by rw [hL1.out] at B1; simpa [CTurned, Sq] using Row.of_cut B1).split
  obtain ⟨P2, P3⟩ := C0.split
  rw [ints_length, n1.out] at P2 P3
  rw [ints_length, n2.out] at P3
  clear hL1 C0 B1
  go_upto_region 2 with (first
    | (refine wpList_load_mid rfl 49 (.tmp 13) rfl gb 0 rfl (ints .u8 tell) _ P1.2 Tryz.underlying49 rfl (by rw [ints_length, n1.out]; exact size_32u8) ?_)
    | (refine wpList_alloc_arr rfl 49 rfl .u8 32 zero_32u8 ?_; intro g1 wa1 hg1 (V1 : Whl .u8 49 wa1 g1 z32) z1 e1)
    | (refine wpList_store_whl rfl 49 (.tmp 5) (.tmp 14) rfl g1 .u8 _ z32 tell rfl rfl V1 (by rw [n1.out]; rfl) (by exact size_32u8) ?_; intro w1 U1 hgg1 hss1))
  have b1 : Below w0.heap.size w0 w1 := below_only e1 hgg1 e1.size (by have := hg1.out; omega)
  have D1 : Row w1 g1 0 (ints .u8 tell) := Row.of_cut (Cut.of_blk U1.blk)
  clear V1 z1 e1 U1 hgg1 hss1
  have l_g0_1 : g0 < g1 := by have := B0.1; have := hg1.out; omega
  have l_gb_1 : gb < g1 := by have := P1.1; have := hg1.out; omega
  have lt1 : w.heap.size ≤ g1 := by have := hE.size; have := hg1.out; omega
  replace B0 := B0.below b1
  replace P1 := P1.below b1
  replace P2 := P2.below b1
  replace P3 := P3.below b1
  replace hE := hE.trans (b1.mono hE.size)
  clear b1
  go_upto_region 3 with (first
    | (refine wpList_load_mid rfl 49 (.tmp 15) rfl gb 32 rfl (ints .u8 ask) _ P2.2 Tryz.underlying49 rfl (by rw [ints_length, n2.out]; exact size_32u8) ?_)
    | (refine wpList_alloc_arr rfl 49 rfl .u8 32 zero_32u8 ?_; intro g2 wa2 hg2 (V2 : Whl .u8 49 wa2 g2 z32) z2 e2)
    | (refine wpList_store_whl rfl 49 (.tmp 6) (.tmp 16) rfl g2 .u8 _ z32 ask rfl rfl V2 (by rw [n2.out]; rfl) (by exact size_32u8) ?_; intro w2 U2 hgg2 hss2))
  have b2 : Below w1.heap.size w1 w2 := below_only e2 hgg2 e2.size (by have := hg2.out; omega)
  have D2 : Row w2 g2 0 (ints .u8 ask) := Row.of_cut (Cut.of_blk U2.blk)
  clear V2 z2 e2 U2 hgg2 hss2
  have l_g0_2 : g0 < g2 := by have := B0.1; have := hg2.out; omega
  have l_gb_2 : gb < g2 := by have := P1.1; have := hg2.out; omega
  have l_g1_2 : g1 < g2 := by have := D1.1; have := hg2.out; omega
  have lt2 : w.heap.size ≤ g2 := by have := hE.size; have := hg2.out; omega
  replace B0 := B0.below b2
  replace P1 := P1.below b2
  replace P2 := P2.below b2
  replace P3 := P3.below b2
  replace D1 := D1.below b2
  replace hE := hE.trans (b2.mono hE.size)
  clear b2
  have kA : w2.cell? ⟨gb, 64, none⟩ = some (.slice Q0 Q2.length Q1) := P3.at_ (i := 0) rfl rfl
  go_upto_region 4 with fail
  clear kA
  have kc : w2.cell? ⟨g0, 33, none⟩ = some (.bool at_) := by have q := B0.cell (i := 33) (v := .bool at_) (by rw [hL0.out]; exact case_at _ _ _ _ _ _ dl.out); rwa [Nat.zero_add] at q
  have kf : w2.frozen? ⟨g0, 33, none⟩ = false := by have q := B0.frozen (i := 33) (v := .bool at_) (by rw [hL0.out]; exact case_at _ _ _ _ _ _ dl.out); rwa [Nat.zero_add] at q
  clear P1 P2 P3
  have hset : L0.set 33 (.bool true) = caseCells K0 K2.length K1 ds true oth := by rw [hL0.out]; exact case_set _ _ _ _ _ _ dl.out
  go_upto_region 5 with fail
  obtain ⟨w3, hw3⟩ : ∃ W, W = w2.setCell ⟨g0, 33, none⟩ (.bool true) := ⟨_, rfl⟩
  refine wp_world hw3 ?_
  replace hE := hE.setCell (p := ⟨g0, 33, none⟩) (by show _ ≤ g0; exact lt0) (.bool true)
  rw [← hw3] at hE
  replace B0 : Cut w3 g0 0 (caseCells K0 K2.length K1 ds true oth) := by rw [hw3]; have q := B0.set (i := 33) (by rw [hL0.out]; exact case_at _ _ _ _ _ _ dl.out) (.bool true); rw [Nat.zero_add, hset] at q; exact q
  replace D1 := D1.far (p := ⟨g0, 33, none⟩) (by show g1 ≠ g0; omega) (.bool true)
  rw [← hw3] at D1
  replace D2 := D2.far (p := ⟨g0, 33, none⟩) (by show g2 ≠ g0; omega) (.bool true)
  rw [← hw3] at D2
  clear hw3
  have lc : Hid ((caseCells K0 K2.length K1 ds true oth).length = 35) := Lib.hid (case_length _ _ _ _ _ _ dl.out)
  clear kc kf hset
  go_wp2_with (refine wpList_load_mid rfl 61 (.tmp 2) rfl g0 0 rfl (caseCells K0 K2.length K1 ds true oth) _ B0.range Tryz.underlying61 rfl (by rw [lc.out]; exact sz_case) ?_)
  refine (made_case (qk.below hE) dl.out dm qo).mono ?_
  rintro r4 w4 ⟨G, cs, s, c, sum, gA, gz, rfl, M, hk, hcx, D, b⟩
  replace B0 := B0.below b
  replace D1 := D1.below b
  replace D2 := D2.below b
  replace hE := hE.trans (b.mono hE.size)
  clear b
  replace hk := Lib.hid hk
  clear hcx
  unfold Sgd.val
  go_upto_region 6 with (first
    | (refine wpList_alloc_row rfl 48 rfl sgd0 (by exact zero_sgd0) ?_; intro g5 wa5 hg5 V5 z5 e5)
    | (refine wpList_store_cut rfl 48 (.tmp 8) (.tmp 21) rfl g5 0 G.cells _ rfl rfl V5 rfl (by exact sz_sgd) (sgd_one _) ?_; intro w5 hst5))
  have b5 : Below w4.heap.size w4 w5 := below_only e5 hst5.1 e5.size (by have := hg5.out; omega)
  have D8 : Row w5 g5 0 G.cells := Row.of_cut hst5.2.2.1
  have lt5 : w.heap.size ≤ g5 := by have := hE.size; have := hg5.out; omega
  have rt5 : w4.heap.size = g5 := hg5.out.symm
  replace rt5 := Lib.hid rt5
  clear V5 z5 e5 hst5
  have l_g0_5 : g0 < g5 := by have := B0.1; have := hg5.out; omega
  have l_g1_5 : g1 < g5 := by have := D1.1; have := hg5.out; omega
  have l_g2_5 : g2 < g5 := by have := D2.1; have := hg5.out; omega
  replace B0 := B0.below b5
  replace D1 := D1.below b5
  replace D2 := D2.below b5
  replace M := M.below b5
  replace hE := hE.trans (b5.mono hE.size)
  clear b5
  have MR : Row w5 gz 0 s.cells := by have q := M.sR 0 s rfl; simpa using q
  have k3 : w5.cell? ⟨g5, 3, none⟩ = some (.slice (some ⟨gz, 0, none⟩) 1 G.sc) := by
    have q := D8.at_ (i := 3) (o' := 3) (v := .slice G.SA G.sn G.sc) rfl rfl
    rwa [M.sA.resolve_left (by simp), M.sn] at q
  have EA : Below w5.heap.size w5 w5 := Below.refl _ _
  go_upto_region 7 with (first
    | (refine wpList_load_mid rfl 67 (.tmp 24) rfl gz 0 rfl s.cells _ MR.2 Tryz.underlying67 rfl sz_sgr ?_)
    | (refine wpList_alloc_row rfl 67 rfl sgn0 (by exact zero_sgn0) ?_; intro g6 wa6 hg6 V6 z6 e6)
    | (refine wpList_store_cut rfl 67 (.tmp 9) (.tmp 25) rfl g6 0 s.cells _ rfl rfl V6 rfl (by exact sz_sgr) (sgn_one s) ?_; intro w6 hst6))
  have b6 : Below w5.heap.size w5 w6 := below_only e6 hst6.1 e6.size (by have := hg6.out; omega)
  have D9 : Cut w6 g6 0 s.cells := hst6.2.2.1
  have lt6 : w.heap.size ≤ g6 := by have := hE.size; have := hg6.out; omega
  have rt6 : w5.heap.size = g6 := hg6.out.symm
  replace rt6 := Lib.hid rt6
  clear V6 z6 e6 hst6
  replace hE := hE.trans (b6.mono hE.size)
  replace EA := EA.trans (b6.mono EA.size)
  clear b6
  clear MR k3
  go_wp2_with fail
  have rt := (D1.below EA).rd
  refine (copyBytes_any (some ⟨g1, 0, none⟩) 32 32 tell w6 n1.out.symm (by omega) rt).mono ?_
  intro r w7 q
  obtain ⟨A3, c3, rfl, m1, m2, m3, b⟩ := clone_gives q
  obtain ⟨hd, od⟩ := sl_gives l1 m1 m2 m3
  replace od := od g6 D9.1
  clear q m1 m2 m3 rt
  replace D9 := D9.below b
  replace hE := hE.trans (b.mono hE.size)
  replace EA := EA.trans (b.mono EA.size)
  clear b
  have kc : w7.cell? ⟨g6, 4, none⟩ = some (s.digest.val) := by have q := D9.cell (i := 4) (v := s.digest.val) (rfl); rwa [Nat.zero_add] at q
  have kf : w7.frozen? ⟨g6, 4, none⟩ = false := by have q := D9.frozen (i := 4) (v := s.digest.val) (rfl); rwa [Nat.zero_add] at q
  go_upto_region 8 with fail
  obtain ⟨w8, hw8⟩ : ∃ W, W = w7.setCell ⟨g6, 4, none⟩ (.slice A3 tell.length c3) := ⟨_, rfl⟩
  refine wp_world hw8 ?_
  replace EA := EA.setCell (p := ⟨g6, 4, none⟩) (by show _ ≤ g6; exact Nat.le_of_eq rt6.out) (.slice A3 tell.length c3)
  rw [← hw8] at EA
  replace hE := hE.setCell (p := ⟨g6, 4, none⟩) (by show _ ≤ g6; exact lt6) (.slice A3 tell.length c3)
  rw [← hw8] at hE
  replace D9 : Cut w8 g6 0 (Sgn.cells { s with digest := ⟨A3, c3, tell⟩ }) := by rw [hw8]; have q := D9.set (i := 4) (rfl) (.slice A3 tell.length c3); rw [Nat.zero_add] at q; exact q
  replace hd := hd.far (p := ⟨g6, 4, none⟩) od (.slice A3 tell.length c3)
  rw [← hw8] at hd
  clear hw8
  clear kc kf
  go_wp2_with fail
  refine (kind_sl (qa.below hE)).mono ?_
  rintro r w9 ⟨A4, c4, rfl, m1, m2, m3, b⟩
  obtain ⟨k1, k2, k3⟩ := kindB_ok Q2
  obtain ⟨hkd, okd⟩ := sl_gives k1 m1 m2 m3
  replace okd := okd g6 D9.1
  clear m1 m2 m3
  replace D9 := D9.below b
  replace hd := hd.below b
  replace hE := hE.trans (b.mono hE.size)
  replace EA := EA.trans (b.mono EA.size)
  clear b
  obtain ⟨kq, hkq⟩ : ∃ kq, kq = kindB Q2 := ⟨_, rfl⟩
  replace hkq := Lib.hid hkq
  rw [← hkq.out] at hkd okd
  rw [show kindB (Q0, Q1, Q2).2.2 = kq from hkq.out.symm]
  clear k1 k2 k3
  have kc : w9.cell? ⟨g6, 3, none⟩ = some (s.kind.val) := by have q := D9.cell (i := 3) (v := s.kind.val) (rfl); rwa [Nat.zero_add] at q
  have kf : w9.frozen? ⟨g6, 3, none⟩ = false := by have q := D9.frozen (i := 3) (v := s.kind.val) (rfl); rwa [Nat.zero_add] at q
  go_upto_region 9 with fail
  obtain ⟨w10, hw10⟩ : ∃ W, W = w9.setCell ⟨g6, 3, none⟩ (.slice A4 kq.length c4) := ⟨_, rfl⟩
  refine wp_world hw10 ?_
  replace EA := EA.setCell (p := ⟨g6, 3, none⟩) (by show _ ≤ g6; exact Nat.le_of_eq rt6.out) (.slice A4 kq.length c4)
  rw [← hw10] at EA
  replace hE := hE.setCell (p := ⟨g6, 3, none⟩) (by show _ ≤ g6; exact lt6) (.slice A4 kq.length c4)
  rw [← hw10] at hE
  replace D9 : Cut w10 g6 0 (Sgn.cells { s with digest := ⟨A3, c3, tell⟩, kind := ⟨A4, c4, kq⟩ }) := by rw [hw10]; have q := D9.set (i := 3) (rfl) (.slice A4 kq.length c4); rw [Nat.zero_add] at q; exact q
  replace hd := hd.far (p := ⟨g6, 3, none⟩) od (.slice A4 kq.length c4)
  rw [← hw10] at hd
  replace hkd := hkd.far (p := ⟨g6, 3, none⟩) okd (.slice A4 kq.length c4)
  rw [← hw10] at hkd
  clear hw10
  clear kc kf
  replace B0 := B0.below EA
  replace D1 := D1.below EA
  replace D2 := D2.below EA
  replace M := M.below EA
  replace D8 := D8.below EA
  clear EA
  obtain ⟨s1, hs1⟩ : ∃ s1 : Sgn, s1 = { s with digest := ⟨A3, c3, tell⟩, kind := ⟨A4, c4, kq⟩ } := ⟨_, rfl⟩
  rw [← hs1] at D9
  have so := M.sok s (by simp)
  have hso : s1.ok w10 := by rw [hs1]; exact ⟨so.issuer, so.serial, so.attrs, hkd, hd, so.sig⟩
  have hsa : s1.attrs.xs.length ≤ 1099511627776 := by rw [hs1]; exact M.sa s (by simp)
  clear so
  replace hs1 := Lib.hid hs1
  have EB : Below w10.heap.size w10 w10 := Below.refl _ _
  go_upto_region 10 with (first
    | (refine wpList_load_mid rfl 48 (.tmp 8) rfl g5 0 rfl G.cells _ (D8.2) Tryz.underlying48 rfl sz_sgd ?_)
    | (refine wpList_alloc_row rfl 48 rfl sgd0 (by exact zero_sgd0) ?_; intro g11 wa11 hg11 V11 z11 e11)
    | (refine wpList_store_cut rfl 48 (.tmp 10) (.tmp 32) rfl g11 0 G.cells _ rfl rfl V11 rfl (by exact sz_sgd) (sgd_one _) ?_; intro w11 hst11))
  have b11 : Below w10.heap.size w10 w11 := below_only e11 hst11.1 e11.size (by have := hg11.out; omega)
  have D10 : Cut w11 g11 0 G.cells := hst11.2.2.1
  have lt11 : w.heap.size ≤ g11 := by have := hE.size; have := hg11.out; omega
  have rt11 : w10.heap.size = g11 := hg11.out.symm
  replace rt11 := Lib.hid rt11
  clear V11 z11 e11 hst11
  replace hE := hE.trans (b11.mono hE.size)
  replace EB := EB.trans (b11.mono EB.size)
  clear b11
  go_upto_region 11 with (first
    | (refine wpList_load_mid rfl 67 (.tmp 9) rfl g6 0 rfl s1.cells _ (D9.below EB).range Tryz.underlying67 rfl sz_sgr ?_)
    | (refine wpList_build_sgrV rfl (.tmp 33) rfl s1 rfl ?_; intro gN12 wN12 hgN12 RN12 eN12; have kc : wN12.cell? ⟨g11, 3, none⟩ = some (.slice G.SA G.sn G.sc) := (by have q := (D10.below eN12).cell (i := 3) (v := .slice G.SA G.sn G.sc) (by rfl); rwa [Nat.zero_add] at q); have kf : wN12.frozen? ⟨g11, 3, none⟩ = false := (by have q := (D10.below eN12).frozen (i := 3) (v := .slice G.SA G.sn G.sc) (by rfl); rwa [Nat.zero_add] at q)))
  have nN12 : gN12 ≠ g11 := by have := hgN12.out; have := D10.1; omega
  have gG12 : w.heap.size ≤ gN12 := by have := hgN12.out; have := hE.size; omega
  replace D10 := D10.below eN12
  replace hE := hE.trans (eN12.mono hE.size)
  replace EB := EB.trans (eN12.mono EB.size)
  clear eN12
  clear kc kf
  obtain ⟨w13, hw13⟩ : ∃ W, W = wN12.setCell ⟨g11, 3, none⟩ (.slice (some ⟨gN12, 0, none⟩) 1 1) := ⟨_, rfl⟩
  refine wp_world hw13 ?_
  replace EB := EB.setCell (p := ⟨g11, 3, none⟩) (by show _ ≤ g11; exact Nat.le_of_eq rt11.out) (.slice (some ⟨gN12, 0, none⟩) 1 1)
  rw [← hw13] at EB
  replace hE := hE.setCell (p := ⟨g11, 3, none⟩) (by show _ ≤ g11; exact lt11) (.slice (some ⟨gN12, 0, none⟩) 1 1)
  rw [← hw13] at hE
  replace D10 : Cut w13 g11 0 (Sgd.cells { G with SA := some ⟨gN12, 0, none⟩, sn := 1, sc := 1 }) := by rw [hw13]; have q := D10.set (i := 3) (rfl) (.slice (some ⟨gN12, 0, none⟩) 1 1); rw [Nat.zero_add] at q; exact q
  replace RN12 := RN12.far (p := ⟨g11, 3, none⟩) nN12 (.slice (some ⟨gN12, 0, none⟩) 1 1)
  rw [← hw13] at RN12
  clear hw13
  replace B0 := B0.below EB
  replace D1 := D1.below EB
  replace D2 := D2.below EB
  replace M := M.below EB
  replace D8 := D8.below EB
  replace D9 := D9.below EB
  replace hd := hd.below EB
  replace hkd := hkd.below EB
  replace hso := hso.below EB
  clear EB
  have M2 := M.signer1 (c := 1) RN12 hso hsa
  have hM := hs1.out ▸ made_tells D ⟨A3, c3, tell⟩ ⟨A4, c4, kq⟩ G.kind.xs ask
  have k0 : w13.cell? ⟨g5, 0, none⟩ = some G.kind.val := D8.at_ (i := 0) rfl rfl
  have hgk := M.kind
  obtain ⟨ro, hro⟩ : ∃ ro, ro = rightAt cs [s1] 0 G.kind.xs ask := ⟨_, rfl⟩
  have Q1 := right_mem M2 0 (by omega) G.kind hgk ask n2.out l2
  rw [← hro] at Q1 hM
  have hri : ro.isSome = (decide (kq = G.kind.xs) && decide (tell = ask)) := by rw [hM]; split <;> simp_all
  clear hro hM
  replace hri := Lib.hid hri
  go_wp2_with (first
    | (refine wpList_load_mid rfl 48 (.tmp 10) rfl g11 0 rfl (Sgd.cells { G with SA := some ⟨gN12, 0, none⟩, sn := 1, sc := 1 }) _ D10.range Tryz.underlying48 rfl sz_sgd ?_)
    | (refine wpList_load_mid rfl 49 (.tmp 6) rfl g2 0 rfl (ints .u8 ask) _ D2.2 Tryz.underlying49 rfl (by rw [ints_length, n2.out]; exact size_32u8) ?_))
  refine (Q1).mono ?_
  rintro r14 w14 ⟨rfl, b⟩
  replace B0 := B0.below b
  replace D1 := D1.below b
  replace D2 := D2.below b
  replace M := M.below b
  replace D8 := D8.below b
  replace D9 := D9.below b
  replace hd := hd.below b
  replace hkd := hkd.below b
  replace hso := hso.below b
  replace D10 := D10.below b
  replace RN12 := RN12.below b
  replace M2 := M2.below b
  replace hgk := hgk.below b
  replace hE := hE.trans (b.mono hE.size)
  clear b
  clear Q1 k0
  go_upto_region 12 with (first
    | (refine wpList_alloc_row rfl 30 rfl Crt.none.cells (by exact zero_cert) ?_; intro g15 wa15 hg15 V15 z15 e15)
    | (refine wpList_store_cut rfl 30 (.tmp 11) (.tmp 42) rfl g15 0 (ro.getD Crt.none).cells _ rfl rfl V15 rfl (by exact sz_cert) (crt_one _) ?_; intro w15 hst15))
  have b15 : Below w14.heap.size w14 w15 := below_only e15 hst15.1 e15.size (by have := hg15.out; omega)
  have D11 : Row w15 g15 0 (ro.getD Crt.none).cells := Row.of_cut hst15.2.2.1
  have lt15 : w.heap.size ≤ g15 := by have := hE.size; have := hg15.out; omega
  have rt15 : w14.heap.size = g15 := hg15.out.symm
  replace rt15 := Lib.hid rt15
  clear V15 z15 e15 hst15
  have l_g0_15 : g0 < g15 := by have := B0.1; have := hg15.out; omega
  have l_g1_15 : g1 < g15 := by have := D1.1; have := hg15.out; omega
  have l_g2_15 : g2 < g15 := by have := D2.1; have := hg15.out; omega
  have l_g5_15 : g5 < g15 := by have := D8.1; have := hg15.out; omega
  have l_g6_15 : g6 < g15 := by have := D9.1; have := hg15.out; omega
  have l_g11_15 : g11 < g15 := by have := D10.1; have := hg15.out; omega
  replace B0 := B0.below b15
  replace D1 := D1.below b15
  replace D2 := D2.below b15
  replace M := M.below b15
  replace D8 := D8.below b15
  replace D9 := D9.below b15
  replace hd := hd.below b15
  replace hkd := hkd.below b15
  replace hso := hso.below b15
  replace D10 := D10.below b15
  replace RN12 := RN12.below b15
  replace M2 := M2.below b15
  replace hgk := hgk.below b15
  replace hE := hE.trans (b15.mono hE.size)
  clear b15
  have k9 : w15.cell? ⟨g6, 3, none⟩ = some (.slice A4 kq.length c4) := by have q := D9.cell (i := 3) (v := .slice A4 kq.length c4) (by rw [hs1.out]; rfl); rwa [Nat.zero_add] at q
  have k0 : w15.cell? ⟨g5, 0, none⟩ = some (.slice G.kind.A G.kind.xs.length G.kind.c) := D8.at_ (i := 0) rfl rfl
  have y1 := D1.2
  have y2 := D2.2
  have hc : (decide (tell = ask) = true ∧ decide (kq = G.kind.xs) = true) ∨ (decide (tell = ask) = true ∧ decide (kq = G.kind.xs) = false) ∨ decide (tell = ask) = false := by
    cases decide (tell = ask) <;> cases decide (kq = G.kind.xs) <;> simp
  rcases hc with ⟨c1, c2⟩ | ⟨c1, c2⟩ | c1
  · have c3 : ro.isSome = true := by rw [hri.out, c2, c1]; rfl
    go_wp2_with (first
      | ((with_reducible refine wpList_load_if 49 (.tmp 5) ?_ g1 0 (ints .u8 tell) _ y1 Tryz.underlying49 ?_ (sz_arr n1) ?_ ?_ ?_); (· rfl); (· rfl); (· rfl); (· rfl))
      | ((with_reducible refine wpList_load_if 49 (.tmp 6) ?_ g2 0 (ints .u8 ask) _ y2 Tryz.underlying49 ?_ (sz_arr n2) ?_ ?_ ?_); (· rfl); (· rfl); (· rfl); (· rfl))
      | ((with_reducible refine wpList_eql_arr (.tmp 45) (.tmp 46) ?_ tell ask n1.out n2.out ?_ ?_ ?_ ?_); (· rfl); (· rfl); (· rfl); (· rfl)))
    refine (eqBytes_any A4 G.kind.A kq.length G.kind.xs.length c4 G.kind.c kq G.kind.xs _ rfl rfl hkd.rd hgk.rd hkd.lim hgk.lim).mono ?_
    rintro r w' ⟨rfl, rfl⟩
    rw [c2]
    go_wp2_with fail
    refine (works15_any _).mono ?_
    rintro r w' ⟨rfl, b⟩
    go_wp2_with fail
    go_ret
    exact ⟨rfl, hE.trans (b.mono hE.size)⟩
  · have c3 : ro.isSome = false := by rw [hri.out, c2, c1]; rfl
    go_wp2_with (first
      | ((with_reducible refine wpList_load_if 49 (.tmp 5) ?_ g1 0 (ints .u8 tell) _ y1 Tryz.underlying49 ?_ (sz_arr n1) ?_ ?_ ?_); (· rfl); (· rfl); (· rfl); (· rfl))
      | ((with_reducible refine wpList_load_if 49 (.tmp 6) ?_ g2 0 (ints .u8 ask) _ y2 Tryz.underlying49 ?_ (sz_arr n2) ?_ ?_ ?_); (· rfl); (· rfl); (· rfl); (· rfl))
      | ((with_reducible refine wpList_eql_arr (.tmp 45) (.tmp 46) ?_ tell ask n1.out n2.out ?_ ?_ ?_ ?_); (· rfl); (· rfl); (· rfl); (· rfl)))
    refine (eqBytes_any A4 G.kind.A kq.length G.kind.xs.length c4 G.kind.c kq G.kind.xs _ rfl rfl hkd.rd hgk.rd hkd.lim hgk.lim).mono ?_
    rintro r w' ⟨rfl, rfl⟩
    rw [c2]
    go_wp2_with fail
    refine (works15_any _).mono ?_
    rintro r w' ⟨rfl, b⟩
    go_wp2_with fail
    go_ret
    exact ⟨rfl, hE.trans (b.mono hE.size)⟩
  · have c3 : ro.isSome = false := by rw [hri.out, c1, Bool.and_false]
    go_wp2_with (first
      | ((with_reducible refine wpList_load_if 49 (.tmp 5) ?_ g1 0 (ints .u8 tell) _ y1 Tryz.underlying49 ?_ (sz_arr n1) ?_ ?_ ?_); (· rfl); (· rfl); (· rfl); (· rfl))
      | ((with_reducible refine wpList_load_if 49 (.tmp 6) ?_ g2 0 (ints .u8 ask) _ y2 Tryz.underlying49 ?_ (sz_arr n2) ?_ ?_ ?_); (· rfl); (· rfl); (· rfl); (· rfl))
      | ((with_reducible refine wpList_eql_arr (.tmp 45) (.tmp 46) ?_ tell ask n1.out n2.out ?_ ?_ ?_ ?_); (· rfl); (· rfl); (· rfl); (· rfl)))
    refine (works15_any _).mono ?_
    rintro r w' ⟨rfl, b⟩
    go_wp2_with fail
    go_ret
    exact ⟨rfl, hE.trans (b.mono hE.size)⟩
end Go.Proofs.YtchaahnhpeoomaaGreat
