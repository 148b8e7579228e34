/-
  SignerPlaces: of several signers each is asked by itself.
-/
import Derived.Test.YtchaahnhpeoomaaGreatSgC
namespace Go.Proofs.YtchaahnhpeoomaaGreat
set_option linter.unusedVariables false
set_option linter.unusedSimpArgs false
set_option maxRecDepth 20000
open Go.RowKit

set_option maxRecDepth 100000 in
set_option maxHeartbeats 3200000 in
theorem sgPlaces_any (x0 : CaseV) (x1 x2 : Nat) (w : World) (q0 : QCase w x0) (q1 : x1 < 256) (q2 : x2 < 256) : Calls Tryz.prog 10 #[.agg (CCase x0).toArray, .int .u8 (x1 : Int), .int .u8 (x2 : Int)] w (Yes w) := by
  obtain ⟨⟨K0, K1, K2⟩, ds, at_, oth⟩ := x0
  obtain ⟨qk, dl, dm, qo⟩ := q0
  simp only at qk dl dm qo
  replace dl := Lib.hid dl
  obtain ⟨L0, hL0⟩ : ∃ L, L = caseCells K0 K2.length K1 ds at_ oth := ⟨_, rfl⟩
  rw [show CCase ⟨(K0, K1, K2), ds, at_, oth⟩ = L0 by rw [hL0]; simp [CaseV.cells, caseCells, Sq]]
  replace hL0 := Lib.hid hL0
  obtain ⟨p, hp⟩ : ∃ p, p = x1 % 8 := ⟨_, rfl⟩
  obtain ⟨N, hN⟩ : ∃ N, N = 1 + p := ⟨_, rfl⟩
  obtain ⟨r, hr⟩ : ∃ r, r = x2 % N := ⟨_, rfl⟩
  have hN1 : 1 ≤ N ∧ N ≤ 8 := by omega
  have hrN : r < N := by rw [hr]; exact Nat.mod_lt _ (by omega)
  have t1 : (x1 : Int).tmod 8 = (p : Int) := by rw [Int.tmod_eq_emod_of_nonneg (by omega)]; omega
  have t2 : (x2 : Int).tmod (N : Int) = (r : Int) := by rw [Int.tmod_eq_emod_of_nonneg (by omega), hr]; omega
  have t3 : (1 : Int) + (p : Int) = (N : Int) := by omega
  have c1 : IntKind.i64.wrap (x1 : Int) = (x1 : Int) := IntWalk.i64_in _ (by omega)
  have c2 : IntKind.i64.wrap (x2 : Int) = (x2 : Int) := IntWalk.i64_in _ (by omega)
  have c3 : IntKind.i64.wrap (p : Int) = (p : Int) := IntWalk.i64_in _ (by omega)
  have c4 : IntKind.i64.wrap (N : Int) = (N : Int) := IntWalk.i64_in _ (by omega)
  have c5 : IntKind.i64.wrap (r : Int) = (r : Int) := IntWalk.i64_in _ (by omega)
  have n0 : ¬ (N : Int) = 0 := by omega
  replace hp := Lib.hid hp
  replace hN := Lib.hid hN
  replace hr := Lib.hid hr
  obtain ⟨g0, hg0⟩ : ∃ g, g = w.heap.size := ⟨_, rfl⟩
  obtain ⟨w0, hw0⟩ : ∃ u, u = w.alloc (.cells L0.toArray 61) := ⟨_, rfl⟩
  have hE : Below w.heap.size w w0 := by rw [hw0]; exact (Below.refl _ _).alloc (Nat.le_refl _) _
  have B0 : Cut w0 g0 0 L0 := by rw [hw0, hg0]; exact Cut.of_heap (heap_alloc_new _ _) fun i v hv => by simpa using hv
  go_enter Tryz.func10, Tryz.ntmps10
  go_upto_region 1 with fail
  refine wp_world hw0 ?_
  rw [← hg0]
  clear hw0
  replace hg0 := Lib.hid hg0
  have lt0 : w.heap.size ≤ g0 := Nat.le_of_eq hg0.out.symm
  have lc : Hid (L0.length = 35) := by rw [hL0.out]; exact case_length _ _ _ _ _ _ dl.out
  replace B0 : Row w0 g0 0 L0 := Row.of_cut B0
  obtain ⟨P0, P2⟩ := case_parts (by rw [← hL0.out]; exact B0) dl.out
  clear P2
  go_wp2_with (refine wpList_load_mid rfl 61 (.tmp 3) rfl g0 0 rfl L0 _ B0.2 Tryz.underlying61 rfl (by rw [lc.out]; exact sz_case) ?_)
  rw [show (Value.agg L0.toArray) = .agg (caseCells K0 K2.length K1 ds at_ oth).toArray by rw [hL0.out]]
  refine (made_case (qk.below hE) dl.out dm qo).mono ?_
  rintro r1 w1 ⟨G, cs, s, c, sum, gA, gz, rfl, M, hk, hcx, D, b⟩
  replace B0 := B0.below b
  replace P0 := P0.below b
  replace hE := hE.trans (b.mono hE.size)
  clear b
  replace hk := Lib.hid hk
  clear hcx
  unfold Sgd.val
  go_upto_region 2 with (first
    | (refine wpList_alloc_row rfl 48 rfl sgd0 (by exact zero_sgd0) ?_; intro g2 wa2 hg2 V2 z2 e2)
    | (refine wpList_store_cut rfl 48 (.tmp 7) (.tmp 17) rfl g2 0 G.cells _ rfl rfl V2 rfl (by exact sz_sgd) (sgd_one _) ?_; intro w2 hst2))
  have b2 : Below w1.heap.size w1 w2 := below_only e2 hst2.1 e2.size (by have := hg2.out; omega)
  have D7 : Row w2 g2 0 G.cells := Row.of_cut hst2.2.2.1
  have lt2 : w.heap.size ≤ g2 := by have := hE.size; have := hg2.out; omega
  have rt2 : w1.heap.size = g2 := hg2.out.symm
  replace rt2 := Lib.hid rt2
  clear V2 z2 e2 hst2
  have l_g0_2 : g0 < g2 := by have := B0.1; have := hg2.out; omega
  replace B0 := B0.below b2
  replace P0 := P0.below b2
  replace M := M.below b2
  replace hE := hE.trans (b2.mono hE.size)
  clear b2
  have hgk := M.kind
  obtain ⟨kv, hkv⟩ : ∃ kv, kv = G.kind := ⟨_, rfl⟩
  rw [← hkv] at hgk hk
  replace hkv := Lib.hid hkv
  have MR : Row w2 gz 0 s.cells := by have q := M.sR 0 s rfl; simpa using q
  have k3 : w2.cell? ⟨g2, 3, none⟩ = some (.slice (some ⟨gz, 0, none⟩) 1 G.sc) := by
    have q := D7.at_ (i := 3) (o' := 3) (v := .slice G.SA G.sn G.sc) rfl rfl
    rwa [M.sA.resolve_left (by simp), M.sn] at q
  go_upto_region 3 with (first
    | (refine wpList_load_mid rfl 67 (.tmp 20) rfl gz 0 rfl s.cells _ MR.2 Tryz.underlying67 rfl sz_sgr ?_)
    | (refine wpList_alloc_row rfl 67 rfl sgn0 (by exact zero_sgn0) ?_; intro g3 wa3 hg3 V3 z3 e3)
    | (refine wpList_store_cut rfl 67 (.tmp 8) (.tmp 21) rfl g3 0 s.cells _ rfl rfl V3 rfl (by exact sz_sgr) (sgn_one s) ?_; intro w3 hst3))
  have b3 : Below w2.heap.size w2 w3 := below_only e3 hst3.1 e3.size (by have := hg3.out; omega)
  have D8 : Row w3 g3 0 s.cells := Row.of_cut hst3.2.2.1
  have lt3 : w.heap.size ≤ g3 := by have := hE.size; have := hg3.out; omega
  have rt3 : w2.heap.size = g3 := hg3.out.symm
  replace rt3 := Lib.hid rt3
  clear V3 z3 e3 hst3
  have l_g0_3 : g0 < g3 := by have := B0.1; have := hg3.out; omega
  have l_g2_3 : g2 < g3 := by have := D7.1; have := hg3.out; omega
  replace B0 := B0.below b3
  replace P0 := P0.below b3
  replace M := M.below b3
  replace D7 := D7.below b3
  replace hgk := hgk.below b3
  replace hE := hE.trans (b3.mono hE.size)
  clear b3
  clear MR k3
  have EA : Below w3.heap.size w3 w3 := Below.refl _ _
  go_upto_region 4 with (first
    | (refine wpList_load_mid rfl 67 (.tmp 8) rfl g3 0 rfl s.cells _ D8.2 Tryz.underlying67 rfl sz_sgr ?_)
    | (refine wpList_alloc_row rfl 67 rfl sgn0 (by exact zero_sgn0) ?_; intro g4 wa4 hg4 V4 z4 e4)
    | (refine wpList_store_cut rfl 67 (.tmp 9) (.tmp 22) rfl g4 0 s.cells _ rfl rfl V4 rfl (by exact sz_sgr) (sgn_one s) ?_; intro w4 hst4))
  have b4 : Below w3.heap.size w3 w4 := below_only e4 hst4.1 e4.size (by have := hg4.out; omega)
  have D9 : Cut w4 g4 0 s.cells := hst4.2.2.1
  have lt4 : w.heap.size ≤ g4 := by have := hE.size; have := EA.size; have := hg4.out; omega
  have rt4 : w3.heap.size = g4 := hg4.out.symm
  replace rt4 := Lib.hid rt4
  clear V4 z4 e4 hst4
  replace hE := hE.trans (b4.mono hE.size)
  replace EA := EA.trans (b4.mono EA.size)
  clear b4
  have kc : w4.cell? ⟨g4, 5, none⟩ = some (s.sig.val) := by have q := D9.cell (i := 5) (v := s.sig.val) (rfl); rwa [Nat.zero_add] at q
  have kf : w4.frozen? ⟨g4, 5, none⟩ = false := by have q := D9.frozen (i := 5) (v := s.sig.val) (rfl); rwa [Nat.zero_add] at q
  go_upto_region 5 with fail
  obtain ⟨w5, hw5⟩ : ∃ W, W = w4.setCell ⟨g4, 5, none⟩ (.slice none 0 0) := ⟨_, rfl⟩
  refine wp_world hw5 ?_
  replace EA := EA.setCell (p := ⟨g4, 5, none⟩) (by show _ ≤ g4; exact Nat.le_of_eq rt4.out) (.slice none 0 0)
  rw [← hw5] at EA
  replace hE := hE.setCell (p := ⟨g4, 5, none⟩) (by show _ ≤ g4; exact lt4) (.slice none 0 0)
  rw [← hw5] at hE
  replace D9 : Cut w5 g4 0 (Sgn.cells { s with sig := Sl.nil }) := by rw [hw5]; have q := D9.set (i := 5) (rfl) (.slice none 0 0); rw [Nat.zero_add] at q; exact q
  clear hw5
  clear kc kf
  replace B0 := B0.below EA
  replace P0 := P0.below EA
  replace M := M.below EA
  replace D7 := D7.below EA
  replace hgk := hgk.below EA
  replace D8 := D8.below EA
  clear EA
  obtain ⟨s1, hs1⟩ : ∃ s1 : Sgn, s1 = { s with sig := Sl.nil } := ⟨_, rfl⟩
  rw [← hs1] at D9
  have so := M.sok s (by simp)
  have hso : s1.ok w5 := by rw [hs1]; exact ⟨so.issuer, so.serial, so.attrs, so.kind, so.digest, Sl.ok_nil _⟩
  have hsa : s1.attrs.xs.length ≤ 1099511627776 := by rw [hs1]; exact M.sa s (by simp)
  have hsa0 : s.attrs.xs.length ≤ 1099511627776 := M.sa s (by simp)
  replace hs1 := Lib.hid hs1
  replace D9 := Row.of_cut D9
  go_upto_region 6 with fail
  have hEp := hE
  have EC : Below w5.heap.size w5 w5 := Below.refl _ _
  go_upto_region 7 with (first
    | (refine wpList_load_mid rfl 48 (.tmp 7) rfl g2 0 rfl G.cells _ D7.2 Tryz.underlying48 rfl sz_sgd ?_)
    | (refine wpList_alloc_row rfl 48 rfl sgd0 (by exact zero_sgd0) ?_; intro g6 wa6 hg6 V6 z6 e6)
    | (refine wpList_store_cut rfl 48 (.tmp 11) (.tmp 28) rfl g6 0 G.cells _ rfl rfl V6 rfl (by exact sz_sgd) (sgd_one _) ?_; intro w6 hst6))
  have b6 : Below w5.heap.size w5 w6 := below_only e6 hst6.1 e6.size (by have := hg6.out; omega)
  have D11 : Cut w6 g6 0 G.cells := hst6.2.2.1
  have lt6 : w.heap.size ≤ g6 := by have := hE.size; have := EC.size; have := hg6.out; omega
  have rt6 : w5.heap.size = g6 := hg6.out.symm
  replace rt6 := Lib.hid rt6
  clear V6 z6 e6 hst6
  replace hE := hE.trans (b6.mono hE.size)
  replace EC := EC.trans (b6.mono EC.size)
  clear b6
  have kc : w6.cell? ⟨g6, 3, none⟩ = some (.slice G.SA G.sn G.sc) := by have q := D11.cell (i := 3) (v := .slice G.SA G.sn G.sc) (rfl); rwa [Nat.zero_add] at q
  have kf : w6.frozen? ⟨g6, 3, none⟩ = false := by have q := D11.frozen (i := 3) (v := .slice G.SA G.sn G.sc) (rfl); rwa [Nat.zero_add] at q
  go_upto_region 8 with fail
  obtain ⟨w7, hw7⟩ : ∃ W, W = w6.setCell ⟨g6, 3, none⟩ (.slice none 0 0) := ⟨_, rfl⟩
  refine wp_world hw7 ?_
  replace EC := EC.setCell (p := ⟨g6, 3, none⟩) (by show _ ≤ g6; exact Nat.le_of_eq rt6.out) (.slice none 0 0)
  rw [← hw7] at EC
  replace hE := hE.setCell (p := ⟨g6, 3, none⟩) (by show _ ≤ g6; exact lt6) (.slice none 0 0)
  rw [← hw7] at hE
  replace D11 : Cut w7 g6 0 (Sgd.cells { G with SA := none, sn := 0, sc := 0 }) := by rw [hw7]; have q := D11.set (i := 3) (rfl) (.slice none 0 0); rw [Nat.zero_add] at q; exact q
  clear hw7
  clear kc kf
  obtain ⟨W0, hW0⟩ : ∃ W0, W0 = w7 := ⟨_, rfl⟩
  have B11 : g6 < W0.heap.size := by rw [hW0]; exact D11.1
  have hB0 : w5.heap.size ≤ W0.heap.size := by rw [hW0]; exact EC.size
  obtain ⟨BB, hBB⟩ : ∃ BB, BB = W0.heap.size := ⟨_, rfl⟩
  rw [← hBB] at B11 hB0
  have hBW : BB ≤ w7.heap.size := by rw [hBB, hW0]; exact Nat.le_refl _
  replace hBB := Lib.hid hBB
  clear hW0
  go_wp2_with fail
  go_loopw [12] (fun t wr => ∃ (i : Nat) (A : Option Addr) (c : Nat), t = .int .i64 (i : Int) ∧ i ≤ N ∧ Cut wr g6 0 (Sgd.cells { G with SA := A, sn := i, sc := c }) ∧ wr.ownsRow BB 67 6 (.slice A i c) i (sgnCells (placed s r i)) ∧ Below w5.heap.size w5 wr ∧ BB ≤ wr.heap.size) (fun t _ => N - (intOf t).toNat)
  case atStart => exact ⟨0, none, 0, rfl, Nat.zero_le _, D11, World.ownsRow_nil _ _ _ _, EC, hBW⟩
  case round =>
    obtain ⟨i, A, c0, rfl, hi, D11, own, EC, hBr⟩ := hrel
    by_cases hlt : i < N
    · have z1 : (i : Int) < (N : Int) := by omega
      have z8 : (i : Int) ≤ 8 := by omega
      have kc : wr.cell? ⟨g6, 3, none⟩ = some (.slice A i c0) := by have q := D11.cell (i := 3) (v := .slice A i c0) rfl; rwa [Nat.zero_add] at q
      have LE : w5.heap.size ≤ g6 := Nat.le_of_eq rt6.out
      by_cases hir : i = r
      · have z2 : ((i : Int) == (r : Int)) = true := by simp [hir]
        replace hir := Lib.hid hir
        have y1 := (D8.below EC).2
        go_wp2_with (first
          | (refine wpList_load_mid rfl 67 (.tmp 8) rfl g3 0 rfl s.cells _ y1 Tryz.underlying67 rfl sz_sgr ?_)
          | (refine wpList_build_sgrV rfl (.tmp 43) rfl s rfl ?_; intro gN wN hgN RN eN)
          | ((at_builtin; (refine wpList_append_sgr rfl rfl (.tmp 42) (.tmp 44) rfl BB (.slice A i c0) (placed s r i) i rfl (placed_length s r i).symm (row_below own eN) gN 0 1 1 [s] rfl rfl (by simpa [sgnCells] using RN) (by omega) (by have := eN.size; omega) ?_; intro v2 w2 o2 h2; obtain ⟨ga, ca, rfl, m1, m2, Ra, m3⟩ := row_own2 o2 (by omega); have bb := h2 _ (Below.refl _ _); have DX := (D11.below eN).belowB bb B11; have kc2 : w2.cell? ⟨g6, 3, none⟩ = some (.slice A i c0) := (by have q := DX.cell (i := 3) (v := .slice A i c0) rfl; rwa [Nat.zero_add] at q); have kf2 : w2.frozen? ⟨g6, 3, none⟩ = false := (by have q := DX.frozen (i := 3) (v := .slice A i c0) rfl; rwa [Nat.zero_add] at q)))))
        go_roundw
        case rel =>
          refine ⟨i + 1, some ⟨ga, 0, none⟩, ca, by go_num, by omega, ?_, ?_, ?_, ?_⟩
          · have q := DX.set (i := 3) (v := .slice A i c0) rfl (.slice (some ⟨ga, 0, none⟩) (i + 1) ca)
            rw [Nat.zero_add] at q
            exact q
          · rw [placed_succ, if_pos hir.out]
            exact row_keep o2 fun k hk => Below.heap_setCell w2 ⟨g6, 3, none⟩ _ k (by have := (o2.lt k hk).1; show k ≠ g6; omega)
          · exact ((EC.trans (eN.mono EC.size)).trans (bb.mono hB0)).setCell (p := ⟨g6, 3, none⟩) (by show _ ≤ g6; exact LE) _
          · have := bb.size; have := eN.size; simp; omega
        case measure =>
          simp [intOf]
          omega
      · have z2 : ((i : Int) == (r : Int)) = false := by simp; omega
        replace hir := Lib.hid hir
        have y1 := (D9.below EC).2
        go_wp2_with (first
          | (refine wpList_load_mid rfl 67 (.tmp 9) rfl g4 0 rfl s1.cells _ y1 Tryz.underlying67 rfl sz_sgr ?_)
          | (refine wpList_build_sgrV rfl (.tmp 49) rfl s1 rfl ?_; intro gN wN hgN RN eN)
          | ((at_builtin; (refine wpList_append_sgr rfl rfl (.tmp 48) (.tmp 50) rfl BB (.slice A i c0) (placed s r i) i rfl (placed_length s r i).symm (row_below own eN) gN 0 1 1 [s1] rfl rfl (by simpa [sgnCells] using RN) (by omega) (by have := eN.size; omega) ?_; intro v2 w2 o2 h2; obtain ⟨ga, ca, rfl, m1, m2, Ra, m3⟩ := row_own2 o2 (by omega); have bb := h2 _ (Below.refl _ _); have DX := (D11.below eN).belowB bb B11; have kc2 : w2.cell? ⟨g6, 3, none⟩ = some (.slice A i c0) := (by have q := DX.cell (i := 3) (v := .slice A i c0) rfl; rwa [Nat.zero_add] at q); have kf2 : w2.frozen? ⟨g6, 3, none⟩ = false := (by have q := DX.frozen (i := 3) (v := .slice A i c0) rfl; rwa [Nat.zero_add] at q)))))
        go_roundw
        case rel =>
          refine ⟨i + 1, some ⟨ga, 0, none⟩, ca, by go_num, by omega, ?_, ?_, ?_, ?_⟩
          · have q := DX.set (i := 3) (v := .slice A i c0) rfl (.slice (some ⟨ga, 0, none⟩) (i + 1) ca)
            rw [Nat.zero_add] at q
            exact q
          · rw [placed_succ, if_neg hir.out, ← hs1.out]
            exact row_keep o2 fun k hk => Below.heap_setCell w2 ⟨g6, 3, none⟩ _ k (by have := (o2.lt k hk).1; show k ≠ g6; omega)
          · exact ((EC.trans (eN.mono EC.size)).trans (bb.mono hB0)).setCell (p := ⟨g6, 3, none⟩) (by show _ ≤ g6; exact LE) _
          · have := bb.size; have := eN.size; simp; omega
        case measure =>
          simp [intOf]
          omega
    · have z1 : ¬ (i : Int) < (N : Int) := by omega
      obtain rfl : i = N := by omega
      obtain ⟨ga, ca, hsl, m1, m2, Ra, m3⟩ := row_own2 own (by omega)
      cases hsl
      obtain ⟨W9, hW9⟩ : ∃ W9, W9 = wr := ⟨_, rfl⟩
      subst hW9
      have hE : Below w.heap.size w W9 := hEp.trans (EC.mono hEp.size)
      have M2 : SMem { G with SA := some ⟨ga, 0, none⟩, sn := i, sc := c0 } cs (placed s r i) gA 0 ga 0 W9 := (M.below EC).signers (placed_length _ _ _).symm (by rw [placed_length]; omega) (fun j d hd => sgn_row Ra hd) (fun d hd => by
        simp only [placed, List.mem_map] at hd
        obtain ⟨j, _, rfl⟩ := hd
        split
        · exact so.below EC
        · rw [← hs1.out]; exact hso.below EC) (fun d hd => by
        simp only [placed, List.mem_map] at hd
        obtain ⟨j, _, rfl⟩ := hd
        split
        · exact hsa0
        · rw [← hs1.out]; exact hsa)
      have P0 := P0.below EC
      have D7 := D7.below EC
      have hgk := hgk.below EC
      clear own D8 D9 hso so M hi z1
      go_wp2_with fail
      go_loopw [13] (fun t wz => ∃ k : Nat, t = .int .i64 (k : Int) ∧ k ≤ i ∧ Below W9.heap.size W9 wz) (fun t _ => i - (intOf t).toNat)
      case atStart => exact ⟨0, rfl, Nat.zero_le _, Below.refl _ _⟩
      case round =>
        obtain ⟨k, rfl, hk8, er⟩ := hrel
        by_cases hlt : k < i
        · have z1 : (k : Int) < (i : Int) := by omega
          have z8 : (k : Int) ≤ 8 := by omega
          have r1 := placed_right D r i k hlt
          rw [← hk.out] at r1
          have M3 := M2.below er
          have P3 := P0.below er
          have D3 := Row.of_cut (D11.below er)
          have h3 := hgk.below er
          have k0 : wr.cell? ⟨g2, 0, none⟩ = some (.slice kv.A kv.xs.length kv.c) := by rw [hkv.out]; exact (D7.below er).at_ (i := 0) rfl rfl
          have Q1 := right_mem M3 (k : Int) (by omega) kv h3 ds dl.out dm
          by_cases hir : k = r
          · have z2 : ((k : Int) == (r : Int)) = true := by simp [hir]
            rw [if_pos hir] at r1
            rw [r1] at Q1
            replace hir := Lib.hid hir
            clear r1
            go_wp2_with (first
              | (refine wpList_load_mid rfl 48 (.tmp 11) rfl g6 0 rfl (Sgd.cells { G with SA := some ⟨ga, 0, none⟩, sn := i, sc := c0 }) _ D3.2 Tryz.underlying48 rfl sz_sgd ?_)
              | (refine wpList_load_mid rfl 49 (.tmp 63) rfl g0 1 rfl (ints .u8 ds) _ P3.2 Tryz.underlying49 rfl (by rw [ints_length, dl.out]; exact size_32u8) ?_))
            refine Q1.mono ?_
            rintro r5 w5 ⟨rfl, b5⟩
            go_upto_region 18 with (first
              | (refine wpList_alloc_row rfl 30 rfl Crt.none.cells (by exact zero_cert) ?_; intro gx wa hgx Vx zx ex)
              | (refine wpList_store_cut rfl 30 (.tmp 14) (.tmp 66) rfl gx 0 c.cells _ rfl rfl Vx rfl (by exact sz_cert) (crt_one _) ?_; intro w6 hst))
            have b6 : Below w5.heap.size w5 w6 := below_only ex hst.1 ex.size (by have := hgx.out; omega)
            have b7 : Below W9.heap.size W9 w6 := er.trans ((b5.trans (b6.mono b5.size)).mono er.size)
            clear Vx zx ex hst
            go_wp2_with fail
            go_roundw
            case rel => exact ⟨k + 1, by go_num, by omega, b7⟩
            case measure =>
              simp [intOf]
              omega
          · have z2 : ((k : Int) == (r : Int)) = false := by simp; omega
            rw [if_neg hir] at r1
            rw [r1] at Q1
            replace hir := Lib.hid hir
            clear r1
            go_wp2_with (first
              | (refine wpList_load_mid rfl 48 (.tmp 11) rfl g6 0 rfl (Sgd.cells { G with SA := some ⟨ga, 0, none⟩, sn := i, sc := c0 }) _ D3.2 Tryz.underlying48 rfl sz_sgd ?_)
              | (refine wpList_load_mid rfl 49 (.tmp 63) rfl g0 1 rfl (ints .u8 ds) _ P3.2 Tryz.underlying49 rfl (by rw [ints_length, dl.out]; exact size_32u8) ?_))
            refine Q1.mono ?_
            rintro r5 w5 ⟨rfl, b5⟩
            go_upto_region 18 with (first
              | (refine wpList_alloc_row rfl 30 rfl Crt.none.cells (by exact zero_cert) ?_; intro gx wa hgx Vx zx ex)
              | (refine wpList_store_cut rfl 30 (.tmp 14) (.tmp 66) rfl gx 0 Crt.none.cells _ rfl rfl Vx rfl (by exact sz_cert) (crt_one _) ?_; intro w6 hst))
            have b6 : Below w5.heap.size w5 w6 := below_only ex hst.1 ex.size (by have := hgx.out; omega)
            have b7 : Below W9.heap.size W9 w6 := er.trans ((b5.trans (b6.mono b5.size)).mono er.size)
            clear Vx zx ex hst
            go_wp2_with fail
            go_roundw
            case rel => exact ⟨k + 1, by go_num, by omega, b7⟩
            case measure =>
              simp [intOf]
              omega
        · have z1 : ¬ (k : Int) < (i : Int) := by omega
          go_wp2_with fail
          refine (works15_any _).mono ?_
          rintro r w' ⟨rfl, b⟩
          go_wp2_with fail
          go_ret
          have hF := hE.trans (er.mono hE.size)
          exact ⟨rfl, hF.trans (b.mono hF.size)⟩
end Go.Proofs.YtchaahnhpeoomaaGreat
