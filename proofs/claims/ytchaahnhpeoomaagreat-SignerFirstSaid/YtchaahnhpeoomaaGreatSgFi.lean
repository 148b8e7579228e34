/-
  SignerFirst: of several certificates of one name and number the first one counts.
-/
import Derived.Test.YtchaahnhpeoomaaGreatSgC
namespace Go.Proofs.YtchaahnhpeoomaaGreat
set_option linter.unusedVariables false
set_option linter.unusedSimpArgs false
set_option maxRecDepth 20000
open Go.RowKit

theorem case_parts {w : World} {g kn kc oth : Nat} {KA : Option Addr} {ds : List Nat} {at_ : Bool} (h : Row w g 0 (caseCells KA kn kc ds at_ oth)) (hd : ds.length = 32) : Row w g 1 (ints .u8 ds) ∧ Row w g 34 [.int .u8 (oth : Int)] := by
  have q : Row w g 0 ([.slice KA kn kc] ++ (ints .u8 ds ++ [.bool at_, .int .u8 (oth : Int)])) := by simpa [caseCells] using h
  refine ⟨q.split.2.split.1, h.1, fun i v hv => ?_⟩
  rcases i with _ | i
  · have hv : Value.int .u8 (oth : Int) = v := by simpa using hv
    rw [← hv]
    refine q.at_ (i := 34) ?_ rfl
    rw [List.singleton_append, List.getElem?_cons_succ, List.getElem?_append_right (by rw [ints_length, hd]; omega), ints_length, hd]
    rfl
  · simp at hv
set_option maxRecDepth 100000 in
set_option maxHeartbeats 3200000 in
theorem sgFirst_any (x0 : CaseV) (x1 : Sl) (w : World) (q0 : QCase w x0) (q1 : x1.ok w) : Calls Tryz.prog 9 #[.agg (CCase x0).toArray, x1.val] w (Yes w) := by
  obtain ⟨⟨K0, K1, K2⟩, ds, at_, oth⟩ := x0
  obtain ⟨An, cn, ns⟩ := x1
  obtain ⟨qk, dl, dm, qo⟩ := q0
  simp only at qk dl dm qo
  replace dl := Lib.hid dl
  rw [show Sl.val ⟨An, cn, ns⟩ = .slice An ns.length cn from rfl]
  obtain ⟨L0, hL0⟩ : ∃ L, L = caseCells K0 K2.length K1 ds at_ oth := ⟨_, rfl⟩
  rw [show CCase ⟨(K0, K1, K2), ds, at_, oth⟩ = L0 by rw [hL0]; simp [CaseV.cells, caseCells, Sq]]
  replace hL0 := Lib.hid hL0
  obtain ⟨g0, hg0⟩ : ∃ g, g = w.heap.size := ⟨_, rfl⟩
  obtain ⟨w0, hw0⟩ : ∃ u, u = w.alloc (.cells L0.toArray 61) := ⟨_, rfl⟩
  have hE : Below w.heap.size w w0 := by rw [hw0]; exact (Below.refl _ _).alloc (Nat.le_refl _) _
  have B0 : Cut w0 g0 0 L0 := by rw [hw0, hg0]; exact Cut.of_heap (heap_alloc_new _ _) fun i v hv => by simpa using hv
  go_enter Tryz.func9, Tryz.ntmps9
  go_upto_region 1 with fail
  refine wp_world hw0 ?_
  rw [← hg0]
  clear hw0
  replace hg0 := Lib.hid hg0
  have lt0 : w.heap.size ≤ g0 := Nat.le_of_eq hg0.out.symm
  have lc : Hid (L0.length = 35) := by rw [hL0.out]; exact case_length _ _ _ _ _ _ dl.out
  replace B0 : Row w0 g0 0 L0 := Row.of_cut B0
  obtain ⟨P0, P2⟩ := case_parts (by rw [← hL0.out]; exact B0) dl.out
  have hn := q1.below hE
  go_wp2_with (refine wpList_load_mid rfl 61 (.tmp 2) rfl g0 0 rfl L0 _ B0.2 Tryz.underlying61 rfl (by rw [lc.out]; exact sz_case) ?_)
  rw [show (Value.agg L0.toArray) = .agg (caseCells K0 K2.length K1 ds at_ oth).toArray by rw [hL0.out]]
  refine (made_case (qk.below hE) dl.out dm qo).mono ?_
  rintro r1 w1 ⟨G, cs, s, c, sum, gA, gz, rfl, M, hk, hcx, D, b⟩
  replace B0 := B0.below b
  replace P0 := P0.below b
  replace P2 := P2.below b
  replace hn := hn.below b
  replace hE := hE.trans (b.mono hE.size)
  clear b
  replace hk := Lib.hid hk
  clear hcx
  unfold Sgd.val
  go_upto_region 2 with (first
    | (refine wpList_alloc_row rfl 48 rfl sgd0 (by exact zero_sgd0) ?_; intro g2 wa2 hg2 V2 z2 e2)
    | (refine wpList_store_cut rfl 48 (.tmp 5) (.tmp 16) rfl g2 0 G.cells _ rfl rfl V2 rfl (by exact sz_sgd) (sgd_one _) ?_; intro w2 hst2))
  have b2 : Below w1.heap.size w1 w2 := below_only e2 hst2.1 e2.size (by have := hg2.out; omega)
  have D5 : Row w2 g2 0 G.cells := Row.of_cut hst2.2.2.1
  have lt2 : w.heap.size ≤ g2 := by have := hE.size; have := hg2.out; omega
  have rt2 : w1.heap.size = g2 := hg2.out.symm
  replace rt2 := Lib.hid rt2
  clear V2 z2 e2 hst2
  have l_g0_2 : g0 < g2 := by have := B0.1; have := hg2.out; omega
  replace B0 := B0.below b2
  replace P0 := P0.below b2
  replace P2 := P2.below b2
  replace hn := hn.below b2
  replace M := M.below b2
  replace hE := hE.trans (b2.mono hE.size)
  clear b2
  have z : (200 : Int) < (ns.length : Int) ∨ ¬ (200 : Int) < (ns.length : Int) := by omega
  rcases z with z | z
  · go_wp2_with fail
    refine (works15_any _).mono ?_
    rintro r w3 ⟨rfl, b⟩
    go_wp2_with fail
    go_ret
    exact ⟨rfl, hE.trans (b.mono hE.size)⟩
  have zn : ns.length ≤ 200 := by omega
  go_upto_region 4 with fail
  clear z
  have hgk := M.kind
  have hcok : c.ok w2 := M.cok c (List.mem_of_getElem? D.spot)
  obtain ⟨kv, hkv⟩ : ∃ kv, kv = G.kind := ⟨_, rfl⟩
  rw [← hkv] at hgk hk
  replace hkv := Lib.hid hkv
  obtain ⟨j, hj⟩ : ∃ j, j = oth % 3 := ⟨_, rfl⟩
  have hi : (0 : Int) ≤ (j : Int) ∧ (j : Int) < (cs.length : Int) := by have := D.len; omega
  have Rc := crt_row M.cR D.spot
  rw [← hj] at Rc
  have Rc2 : Row w2 gA (j * 24) c.cells := Rc.move (by omega)
  have ht : (oth : Int).tmod 3 = (j : Int) := by rw [Int.tmod_eq_emod_of_nonneg (by omega)]; omega
  have hcv : IntKind.i64.wrap (j : Int) = (j : Int) := IntWalk.i64_in _ (by omega)
  have k2 : w2.cell? ⟨g2, 2, none⟩ = some (.slice (some ⟨gA, 0, none⟩) cs.length G.cc) := by
    have q := D5.at_ (i := 2) (o' := 2) (v := .slice G.CA G.cn G.cc) rfl rfl
    rwa [M.cA.resolve_left (by rintro rfl; have := D.len; simp at this), M.cn] at q
  have k34 : w2.cell? ⟨g0, 34, none⟩ = some (.int .u8 (oth : Int)) := P2.at_ (i := 0) rfl rfl
  replace hj := Lib.hid hj
  go_upto_region 5 with (first
    | (refine wpList_load_mid rfl 30 (.tmp 27) rfl gA (j * 24) rfl c.cells _ Rc2.2 Tryz.underlying30 rfl sz_cert ?_)
    | (refine wpList_alloc_row rfl 30 rfl Crt.none.cells (by exact zero_cert) ?_; intro g3 wa3 hg3 V3 z3 e3)
    | (refine wpList_store_cut rfl 30 (.tmp 6) (.tmp 28) rfl g3 0 c.cells _ rfl rfl V3 rfl (by exact sz_cert) (crt_one _) ?_; intro w3 hst3))
  have b3 : Below w2.heap.size w2 w3 := below_only e3 hst3.1 e3.size (by have := hg3.out; omega)
  have D6 : Row w3 g3 0 c.cells := Row.of_cut hst3.2.2.1
  have lt3 : w.heap.size ≤ g3 := by have := hE.size; have := hg3.out; omega
  have rt3 : w2.heap.size = g3 := hg3.out.symm
  replace rt3 := Lib.hid rt3
  clear V3 z3 e3 hst3
  have l_g0_3 : g0 < g3 := by have := B0.1; have := hg3.out; omega
  have l_g2_3 : g2 < g3 := by have := D5.1; have := hg3.out; omega
  replace B0 := B0.below b3
  replace P0 := P0.below b3
  replace P2 := P2.below b3
  replace hn := hn.below b3
  replace M := M.below b3
  replace D5 := D5.below b3
  replace hgk := hgk.below b3
  replace hcok := hcok.below b3
  replace hE := hE.trans (b3.mono hE.size)
  clear b3
  clear Rc Rc2 ht hcv hi k2 k34
  have EA : Below w3.heap.size w3 w3 := Below.refl _ _
  go_upto_region 6 with (first
    | (refine wpList_load_mid rfl 30 (.tmp 6) rfl g3 0 rfl c.cells _ D6.2 Tryz.underlying30 rfl sz_cert ?_)
    | (refine wpList_alloc_row rfl 30 rfl Crt.none.cells (by exact zero_cert) ?_; intro g4 wa4 hg4 V4 z4 e4)
    | (refine wpList_store_cut rfl 30 (.tmp 7) (.tmp 29) rfl g4 0 c.cells _ rfl rfl V4 rfl (by exact sz_cert) (crt_one _) ?_; intro w4 hst4))
  have b4 : Below w3.heap.size w3 w4 := below_only e4 hst4.1 e4.size (by have := hg4.out; omega)
  have D7 : Cut w4 g4 0 c.cells := hst4.2.2.1
  have lt4 : w.heap.size ≤ g4 := by have := hE.size; have := EA.size; have := hg4.out; omega
  have rt4 : w3.heap.size = g4 := hg4.out.symm
  replace rt4 := Lib.hid rt4
  clear V4 z4 e4 hst4
  replace hE := hE.trans (b4.mono hE.size)
  replace EA := EA.trans (b4.mono EA.size)
  clear b4
  have KC := key_cut17 D7
  go_upto_region 7 with (first
    | (refine wpList_store_cut rfl 28 (.tmp 32) (.tmp 31) rfl g4 17 [.slice An ns.length cn, .int .u64 3] _ rfl rfl KC rfl (by exact size_key) (fun u hu => by simp at hu; rcases hu with rfl | rfl <;> rfl) ?_; intro w5 hst5)
    | (refine wpList_build_at rfl 28 _ rfl [.slice An ns.length cn, .int .u64 3] (by kernel_rfl) ?_))
  replace EA : Below w3.heap.size w3 w5 := below_only EA hst5.1 EA.size (Nat.le_of_eq rt4.out)
  replace hE : Below w.heap.size w w5 := below_only hE hst5.1 hE.size lt4
  obtain ⟨c1, hc1⟩ : ∃ c1 : Crt, c1 = { c with key := ⟨An, cn, ns⟩, e := 3 } := ⟨_, rfl⟩
  replace D7 : Row w5 g4 0 c1.cells := by rw [hc1]; exact key_stored (k := ⟨An, cn, ns⟩) (e := 3) D7 hst5
  clear KC hst5
  replace hc1 := Lib.hid hc1
  replace B0 := B0.below EA
  replace P0 := P0.below EA
  replace P2 := P2.below EA
  replace hn := hn.below EA
  replace M := M.below EA
  replace D5 := D5.below EA
  replace hgk := hgk.below EA
  replace hcok := hcok.below EA
  replace D6 := D6.below EA
  clear EA
  have hc1o : c1.ok w5 := by rw [hc1.out]; exact ⟨hcok.raw, hcok.tbs, hcok.issuer, hcok.subject, hcok.serial, hn, hcok.sig, hcok.frm, hcok.til, show (3 : Nat) < 18446744073709551616 by decide⟩
  have hc1k : c1.key.xs.length ≤ 70000 := by rw [hc1.out]; show ns.length ≤ 70000; omega
  have lcs : Hid (cs.length = oth % 3 + 2) := D.len
  have FA : Below w5.heap.size w5 w5 := Below.refl _ _
  go_upto_region 9 with (first
    | (refine wpList_load_mid rfl 30 (.tmp 7) rfl g4 0 rfl c1.cells _ D7.2 Tryz.underlying30 rfl sz_cert ?_)
    | (refine wpList_build_certV rfl (.tmp 34) rfl c1 rfl ?_; intro gN6 wN6 hgN6 RN6 eN6)
    | (at_builtin; refine wpList_append_crt rfl rfl (.tmp 33) (.tmp 35) rfl (w5.heap.size) (.slice none 0 0) ([]) (0) rfl (rfl) (World.ownsRow_nil _ _ _ _) gN6 (0) (1) (1) ([c1]) rfl (rfl) (by simpa [crtCells] using RN6) (by omega) (eN6.size) ?_; intro v7 w7 o7 h7))
  replace FA := h7 _ (FA.trans (eN6.mono FA.size))
  have k2 : w7.cell? ⟨g2, 2, none⟩ = some (.slice (some ⟨gA, 0, none⟩) cs.length G.cc) := by
    have q := (D5.below FA).at_ (i := 2) (o' := 2) (v := .slice G.CA G.cn G.cc) rfl rfl
    rwa [M.cA.resolve_left (by rintro rfl; have := lcs.out; simp at this), M.cn] at q
  go_upto_region 10 with (at_builtin; refine wpList_append_crt rfl rfl (.tmp 37) (.tmp 39) rfl (w5.heap.size) (v7) (([] ++ [c1])) ((0 + 1)) rfl (rfl) (o7) gA (0) (G.cc) (cs.length) (cs) rfl (rfl) ((M.below FA).cR) (by have := lcs.out; omega) (FA.size) ?_; intro v8 w8 o8 h8)
  clear k2
  replace FA := h8 _ FA
  obtain ⟨ga, ca, rfl, na1, na2, Ra, na3⟩ := row_own2 o8 (by omega)
  obtain ⟨na, hna⟩ : ∃ na, na = 0 + 1 + cs.length := ⟨_, rfl⟩
  rw [← hna]
  replace hna := Lib.hid hna
  replace Ra : Row w8 ga 0 (crtCells (c1 :: cs)) := by simpa using Ra
  clear o8 h8 o7 h7 na1 na2 na3
  replace B0 := B0.below FA
  replace P0 := P0.below FA
  replace P2 := P2.below FA
  replace hn := hn.below FA
  replace M := M.below FA
  replace D5 := D5.below FA
  replace hgk := hgk.below FA
  replace hcok := hcok.below FA
  replace D6 := D6.below FA
  replace D7 := D7.below FA
  replace hc1o := hc1o.below FA
  replace hE := hE.trans (FA.mono hE.size)
  clear FA
  clear RN6 eN6 hgN6
  have FB : Below w8.heap.size w8 w8 := Below.refl _ _
  have k2 : w8.cell? ⟨g2, 2, none⟩ = some (.slice (some ⟨gA, 0, none⟩) cs.length G.cc) := by
    have q := D5.at_ (i := 2) (o' := 2) (v := .slice G.CA G.cn G.cc) rfl rfl
    rwa [M.cA.resolve_left (by rintro rfl; have := lcs.out; simp at this), M.cn] at q
  go_upto_region 11 with (at_builtin; refine wpList_append_crt rfl rfl (.tmp 41) (.tmp 43) rfl (w8.heap.size) (.slice none 0 0) ([]) (0) rfl (rfl) (World.ownsRow_nil _ _ _ _) gA (0) (G.cc) (cs.length) (cs) rfl (rfl) (M.cR) (by have := lcs.out; omega) (Nat.le_refl _) ?_; intro v9 w9 o9 h9)
  clear k2
  replace FB := h9 _ FB
  go_upto_region 12 with (first
    | (refine wpList_load_mid rfl 30 (.tmp 7) rfl g4 0 rfl c1.cells _ (D7.below FB).2 Tryz.underlying30 rfl sz_cert ?_)
    | (refine wpList_build_certV rfl (.tmp 46) rfl c1 rfl ?_; intro gN10 wN10 hgN10 RN10 eN10)
    | (at_builtin; refine wpList_append_crt rfl rfl (.tmp 45) (.tmp 47) rfl (w8.heap.size) (v9) (([] ++ cs)) ((0 + cs.length)) rfl (by simp) (row_below o9 eN10) gN10 (0) (1) (1) ([c1]) rfl (rfl) (by simpa [crtCells] using RN10) (by have := lcs.out; omega) (by have := FB.size; have := eN10.size; omega) ?_; intro v11 w11 o11 h11))
  replace FB := h11 _ (FB.trans (eN10.mono FB.size))
  obtain ⟨gb, cb, rfl, nb1, nb2, Rb, nb3⟩ := row_own2 o11 (by omega)
  obtain ⟨nb, hnb⟩ : ∃ nb, nb = 0 + cs.length + 1 := ⟨_, rfl⟩
  rw [← hnb]
  replace hnb := Lib.hid hnb
  replace Rb : Row w11 gb 0 (crtCells (cs ++ [c1])) := by simpa using Rb
  clear o11 h11 o9 h9 nb1 nb2 nb3
  replace B0 := B0.below FB
  replace P0 := P0.below FB
  replace P2 := P2.below FB
  replace hn := hn.below FB
  replace M := M.below FB
  replace D5 := D5.below FB
  replace hgk := hgk.below FB
  replace hcok := hcok.below FB
  replace D6 := D6.below FB
  replace D7 := D7.below FB
  replace hc1o := hc1o.below FB
  replace Ra := Ra.below FB
  replace hE := hE.trans (FB.mono hE.size)
  clear FB
  clear RN10 eN10 hgN10
  have EC : Below w11.heap.size w11 w11 := Below.refl _ _
  go_upto_region 13 with (first
    | (refine wpList_load_mid rfl 48 (.tmp 5) rfl g2 0 rfl G.cells _ D5.2 Tryz.underlying48 rfl sz_sgd ?_)
    | (refine wpList_alloc_row rfl 48 rfl sgd0 (by exact zero_sgd0) ?_; intro g12 wa12 hg12 V12 z12 e12)
    | (refine wpList_store_cut rfl 48 (.tmp 10) (.tmp 49) rfl g12 0 G.cells _ rfl rfl V12 rfl (by exact sz_sgd) (sgd_one _) ?_; intro w12 hst12))
  have b12 : Below w11.heap.size w11 w12 := below_only e12 hst12.1 e12.size (by have := hg12.out; omega)
  have D10 : Cut w12 g12 0 G.cells := hst12.2.2.1
  have lt12 : w.heap.size ≤ g12 := by have := hE.size; have := EC.size; have := hg12.out; omega
  have rt12 : w11.heap.size = g12 := hg12.out.symm
  replace rt12 := Lib.hid rt12
  clear V12 z12 e12 hst12
  replace hE := hE.trans (b12.mono hE.size)
  replace EC := EC.trans (b12.mono EC.size)
  clear b12
  have kc : w12.cell? ⟨g12, 2, none⟩ = some (.slice G.CA G.cn G.cc) := by have q := D10.cell (i := 2) (v := .slice G.CA G.cn G.cc) (rfl); rwa [Nat.zero_add] at q
  have kf : w12.frozen? ⟨g12, 2, none⟩ = false := by have q := D10.frozen (i := 2) (v := .slice G.CA G.cn G.cc) (rfl); rwa [Nat.zero_add] at q
  go_upto_region 14 with fail
  obtain ⟨w13, hw13⟩ : ∃ W, W = w12.setCell ⟨g12, 2, none⟩ (.slice (some ⟨ga, 0, none⟩) na ca) := ⟨_, rfl⟩
  refine wp_world hw13 ?_
  replace EC := EC.setCell (p := ⟨g12, 2, none⟩) (by show _ ≤ g12; exact Nat.le_of_eq rt12.out) (.slice (some ⟨ga, 0, none⟩) na ca)
  rw [← hw13] at EC
  replace hE := hE.setCell (p := ⟨g12, 2, none⟩) (by show _ ≤ g12; exact lt12) (.slice (some ⟨ga, 0, none⟩) na ca)
  rw [← hw13] at hE
  replace D10 : Cut w13 g12 0 (Sgd.cells { G with CA := some ⟨ga, 0, none⟩, cn := na, cc := ca }) := by rw [hw13]; have q := D10.set (i := 2) (rfl) (.slice (some ⟨ga, 0, none⟩) na ca); rw [Nat.zero_add] at q; exact q
  clear hw13
  clear kc kf
  have M1 : SMem { G with CA := some ⟨ga, 0, none⟩, cn := na, cc := ca } (c1 :: cs) [s] ga 0 gz 0 w13 := (M.below EC).certs (by rw [hna.out]; simp; omega) (by have := lcs.out; simp; omega) (Ra.below EC) (fun d hd => by
    rcases List.mem_cons.1 hd with rfl | hd
    · exact hc1o.below EC
    · exact (M.below EC).cok d hd) (fun d hd => by
    rcases List.mem_cons.1 hd with rfl | hd
    · exact hc1k
    · exact M.ck d hd)
  have k0 : w13.cell? ⟨g2, 0, none⟩ = some (.slice kv.A kv.xs.length kv.c) := by rw [hkv.out]; exact (D5.below EC).at_ (i := 0) rfl rfl
  have r1 : rightAt (c1 :: cs) [s] 0 kv.xs ds = none := by rw [hc1.out]; exact made_first D ⟨An, cn, ns⟩ 3 zn _ _
  have Q1 := right_mem M1 0 (by omega) kv (hgk.below EC) ds dl.out dm
  rw [r1] at Q1
  go_wp2_with (first
    | (refine wpList_load_mid rfl 48 (.tmp 10) rfl g12 0 rfl (Sgd.cells { G with CA := some ⟨ga, 0, none⟩, cn := na, cc := ca }) _ D10.range Tryz.underlying48 rfl sz_sgd ?_)
    | (refine wpList_load_mid rfl 49 (.tmp 56) rfl g0 1 rfl (ints .u8 ds) _ (P0.below EC).2 Tryz.underlying49 rfl (by rw [ints_length, dl.out]; exact size_32u8) ?_))
  refine (Q1).mono ?_
  rintro r14 w14 ⟨rfl, b⟩
  replace D10 := D10.below b
  replace hE := hE.trans (b.mono hE.size)
  replace EC := EC.trans (b.mono EC.size)
  clear b
  clear Q1 k0 r1 M1
  go_upto_region 15 with (first
    | (refine wpList_alloc_row rfl 30 rfl Crt.none.cells (by exact zero_cert) ?_; intro g15 wa15 hg15 V15 z15 e15)
    | (refine wpList_store_cut rfl 30 (.tmp 11) (.tmp 59) rfl g15 0 Crt.none.cells _ rfl rfl V15 rfl (by exact sz_cert) (crt_one _) ?_; intro w15 hst15))
  have b15 : Below w14.heap.size w14 w15 := below_only e15 hst15.1 e15.size (by have := hg15.out; omega)
  have D11 : Row w15 g15 0 Crt.none.cells := Row.of_cut hst15.2.2.1
  have lt15 : w.heap.size ≤ g15 := by have := hE.size; have := EC.size; have := hg15.out; omega
  have rt15 : w14.heap.size = g15 := hg15.out.symm
  replace rt15 := Lib.hid rt15
  clear V15 z15 e15 hst15
  have l_g12_15 : g12 < g15 := by have := D10.1; have := hg15.out; omega
  replace D10 := D10.below b15
  replace hE := hE.trans (b15.mono hE.size)
  replace EC := EC.trans (b15.mono EC.size)
  clear b15
  clear D11
  have kc : w15.cell? ⟨g12, 2, none⟩ = some (.slice (some ⟨ga, 0, none⟩) na ca) := by have q := D10.cell (i := 2) (v := .slice (some ⟨ga, 0, none⟩) na ca) (rfl); rwa [Nat.zero_add] at q
  have kf : w15.frozen? ⟨g12, 2, none⟩ = false := by have q := D10.frozen (i := 2) (v := .slice (some ⟨ga, 0, none⟩) na ca) (rfl); rwa [Nat.zero_add] at q
  go_upto_region 16 with fail
  obtain ⟨w16, hw16⟩ : ∃ W, W = w15.setCell ⟨g12, 2, none⟩ (.slice (some ⟨gb, 0, none⟩) nb cb) := ⟨_, rfl⟩
  refine wp_world hw16 ?_
  replace EC := EC.setCell (p := ⟨g12, 2, none⟩) (by show _ ≤ g12; exact Nat.le_of_eq rt12.out) (.slice (some ⟨gb, 0, none⟩) nb cb)
  rw [← hw16] at EC
  replace hE := hE.setCell (p := ⟨g12, 2, none⟩) (by show _ ≤ g12; exact lt12) (.slice (some ⟨gb, 0, none⟩) nb cb)
  rw [← hw16] at hE
  replace D10 : Cut w16 g12 0 (Sgd.cells { G with CA := some ⟨gb, 0, none⟩, cn := nb, cc := cb }) := by rw [hw16]; have q := D10.set (i := 2) (rfl) (.slice (some ⟨gb, 0, none⟩) nb cb); rw [Nat.zero_add] at q; exact q
  clear hw16
  clear kc kf
  replace B0 := B0.below EC
  replace P0 := P0.below EC
  replace P2 := P2.below EC
  replace hn := hn.below EC
  replace M := M.below EC
  replace D5 := D5.below EC
  replace hgk := hgk.below EC
  replace hcok := hcok.below EC
  replace D6 := D6.below EC
  replace D7 := D7.below EC
  replace hc1o := hc1o.below EC
  replace Ra := Ra.below EC
  replace Rb := Rb.below EC
  clear EC
  have M1 : SMem { G with CA := some ⟨gb, 0, none⟩, cn := nb, cc := cb } (cs ++ [c1]) [s] gb 0 gz 0 w16 := M.certs (by rw [hnb.out]; simp) (by have := lcs.out; simp; omega) Rb (fun d hd => by
    rcases List.mem_append.1 hd with hd | hd
    · exact M.cok d hd
    · rw [List.mem_singleton.1 hd]; exact hc1o) (fun d hd => by
    rcases List.mem_append.1 hd with hd | hd
    · exact M.ck d hd
    · rw [List.mem_singleton.1 hd]; exact hc1k)
  have k0 : w16.cell? ⟨g2, 0, none⟩ = some (.slice kv.A kv.xs.length kv.c) := by rw [hkv.out]; exact D5.at_ (i := 0) rfl rfl
  have r1 : rightAt (cs ++ [c1]) [s] 0 kv.xs ds = some c := by rw [hk.out]; exact made_last D _
  have Q1 := right_mem M1 0 (by omega) kv hgk ds dl.out dm
  rw [r1] at Q1
  go_wp2_with (first
    | (refine wpList_load_mid rfl 48 (.tmp 10) rfl g12 0 rfl (Sgd.cells { G with CA := some ⟨gb, 0, none⟩, cn := nb, cc := cb }) _ D10.range Tryz.underlying48 rfl sz_sgd ?_)
    | (refine wpList_load_mid rfl 49 (.tmp 67) rfl g0 1 rfl (ints .u8 ds) _ P0.2 Tryz.underlying49 rfl (by rw [ints_length, dl.out]; exact size_32u8) ?_))
  refine (Q1).mono ?_
  rintro r17 w17 ⟨rfl, b⟩
  replace B0 := B0.below b
  replace P0 := P0.below b
  replace P2 := P2.below b
  replace hn := hn.below b
  replace M := M.below b
  replace D5 := D5.below b
  replace hgk := hgk.below b
  replace hcok := hcok.below b
  replace D6 := D6.below b
  replace D7 := D7.below b
  replace hc1o := hc1o.below b
  replace Ra := Ra.below b
  replace Rb := Rb.below b
  replace D10 := D10.below b
  replace hE := hE.trans (b.mono hE.size)
  clear b
  clear Q1 k0 r1 M1
  go_upto_region 17 with (first
    | (refine wpList_alloc_row rfl 30 rfl Crt.none.cells (by exact zero_cert) ?_; intro g18 wa18 hg18 V18 z18 e18)
    | (refine wpList_store_cut rfl 30 (.tmp 13) (.tmp 70) rfl g18 0 c.cells _ rfl rfl V18 rfl (by exact sz_cert) (crt_one _) ?_; intro w18 hst18))
  have b18 : Below w17.heap.size w17 w18 := below_only e18 hst18.1 e18.size (by have := hg18.out; omega)
  have D13 : Row w18 g18 0 c.cells := Row.of_cut hst18.2.2.1
  have lt18 : w.heap.size ≤ g18 := by have := hE.size; have := hg18.out; omega
  have rt18 : w17.heap.size = g18 := hg18.out.symm
  replace rt18 := Lib.hid rt18
  clear V18 z18 e18 hst18
  have l_g0_18 : g0 < g18 := by have := B0.1; have := hg18.out; omega
  have l_g2_18 : g2 < g18 := by have := D5.1; have := hg18.out; omega
  have l_g3_18 : g3 < g18 := by have := D6.1; have := hg18.out; omega
  have l_g4_18 : g4 < g18 := by have := D7.1; have := hg18.out; omega
  have l_g12_18 : g12 < g18 := by have := D10.1; have := hg18.out; omega
  replace B0 := B0.below b18
  replace P0 := P0.below b18
  replace P2 := P2.below b18
  replace hn := hn.below b18
  replace M := M.below b18
  replace D5 := D5.below b18
  replace hgk := hgk.below b18
  replace hcok := hcok.below b18
  replace D6 := D6.below b18
  replace D7 := D7.below b18
  replace hc1o := hc1o.below b18
  replace Ra := Ra.below b18
  replace Rb := Rb.below b18
  replace D10 := D10.below b18
  replace hE := hE.trans (b18.mono hE.size)
  clear b18
  have y1 := D13.2
  have y2 := D6.2
  go_wp2_with (first
    | ((with_reducible refine wpList_load_if 30 (.tmp 13) ?_ g18 0 c.cells _ y1 Tryz.underlying30 ?_ (sz_crt _) ?_ ?_ ?_); (· rfl); (· rfl); (· rfl); (· rfl))
    | ((with_reducible refine wpList_load_if 30 (.tmp 6) ?_ g3 0 c.cells _ y2 Tryz.underlying30 ?_ (sz_crt _) ?_ ?_ ?_); (· rfl); (· rfl); (· rfl); (· rfl)))
  refine (sameC_any c c w18 hcok hcok).mono ?_
  rintro r19 w19 ⟨rfl, b⟩
  replace B0 := B0.below b
  replace P0 := P0.below b
  replace P2 := P2.below b
  replace hn := hn.below b
  replace M := M.below b
  replace D5 := D5.below b
  replace hgk := hgk.below b
  replace hcok := hcok.below b
  replace D6 := D6.below b
  replace D7 := D7.below b
  replace hc1o := hc1o.below b
  replace Ra := Ra.below b
  replace Rb := Rb.below b
  replace D10 := D10.below b
  replace D13 := D13.below b
  replace hE := hE.trans (b.mono hE.size)
  clear b
  simp only [decide_true]
  clear y1 y2
  go_wp2_with fail
  refine (works15_any _).mono ?_
  rintro r w' ⟨rfl, b⟩
  go_wp2_with fail
  go_ret
  exact ⟨rfl, hE.trans (b.mono hE.size)⟩
end Go.Proofs.YtchaahnhpeoomaaGreat
