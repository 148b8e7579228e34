/-
 SignerRight: Right and Of answer as the document says.
-/
import Derived.Test.YtchaahnhpeoomaaGreatPRefR
import Derived.Test.YtchaahnhpeoomaaGreatPOpnS
namespace Go.Proofs.YtchaahnhpeoomaaGreat
set_option linter.unusedVariables false
set_option linter.unusedSimpArgs false
set_option maxRecDepth 20000
open Go.RowKit
theorem of_pair (xs : List Nat) : ∃ (dz : List Nat) (fb : Bool), dz.length = 32 ∧ ∀ w e w', OfPost xs w e w' → e = .returned (.tuple #[.agg (ints .u8 dz).toArray, .bool fb]) ∧ Below w.heap.size w w' := by
 cases h : bodyB xs with
 | none => exact ⟨List.replicate 32 0, false, by simp, fun w e w' q => by unfold OfPost at q; rw [h] at q; exact ⟨q.2, q.1⟩⟩
 | some b => exact ⟨digest b, true, digest_length b, fun w e w' q => by unfold OfPost at q; rw [h] at q; exact ⟨q.2, q.1⟩⟩
set_option maxRecDepth 100000 in
set_option maxHeartbeats 30000000 in
theorem sgRight_any (x0 : SIn) (x1 : Int × Sl × List Nat) (w : World) (q0 : QSigned w x0) (q1 : QAsk w x1) : Calls Tryz.prog 5 #[.agg (CSigned x0).toArray, .agg (CAsk x1).toArray] w (Yes w) := by
 obtain ⟨K, kd, ds⟩ := x1
 obtain ⟨hK, hkd, n2, l2⟩ := q1
 simp only at hK hkd n2 l2
 replace n2 := Lib.hid n2
 obtain ⟨kA, kc0, kx⟩ := kd
 obtain ⟨L0, hL0⟩ : ∃ L, L = CSigned x0 := ⟨_, rfl⟩
 obtain ⟨L1, hL1⟩ : ∃ L, L = CAsk (K, ⟨kA, kc0, kx⟩, ds) := ⟨_, rfl⟩
 rw [← hL0, ← hL1]
 replace hL0 := Lib.hid hL0
 replace hL1 := Lib.hid hL1
 obtain ⟨g0, hg0⟩ : ∃ g, g = w.heap.size := ⟨_, rfl⟩
 obtain ⟨u0, hu0⟩ : ∃ u, u = w.alloc (.cells L0.toArray 48) := ⟨_, rfl⟩
 obtain ⟨w0, hw0⟩ : ∃ u, u = u0.alloc (.cells L1.toArray 51) := ⟨_, rfl⟩
 obtain ⟨gb, hgb⟩ : ∃ g, g = w.heap.size + 1 := ⟨_, rfl⟩
 have hu1 : u0.heap.size = gb := by rw [hu0, hgb]; simp
 have eu : Below w.heap.size w u0 := by rw [hu0]; exact (Below.refl _ _).alloc (Nat.le_refl _) _
 have ev : Below u0.heap.size u0 w0 := by rw [hw0]; exact (Below.refl _ _).alloc (Nat.le_refl _) _
 have hE : Below w.heap.size w w0 := eu.trans (ev.mono eu.size)
 have B0 : Cut u0 g0 0 L0 := by rw [hu0, hg0]; exact Cut.of_heap (heap_alloc_new _ _) fun i v hv => by simpa using hv
 replace B0 := B0.below ev
 have B1 : Cut w0 gb 0 L1 := by rw [hw0, ← hu1]; exact Cut.of_heap (heap_alloc_new _ _) fun i v hv => by simpa using hv
 go_enter Tryz.func5, Tryz.ntmps5
 go_upto_region 1 with fail
 refine wp_world (W' := w0) (by rw [hw0, hu0]) ?_
 rw [← hgb, ← hg0]
 clear hw0 hu0 eu ev hu1
 have hbb : gb = g0 + 1 := by rw [hgb, hg0]
 replace hgb := Lib.hid hgb
 replace hbb := Lib.hid hbb
 replace hg0 := Lib.hid hg0
 have lt0 : w.heap.size ≤ g0 := Nat.le_of_eq hg0.out.symm
 have lc : (Tryz.prog.info? 48).map (·.size) = some L0.length := by rw [hL0.out]; exact sz_sgd
 replace B0 : Row w0 g0 0 L0 := Row.of_cut B0
 obtain ⟨R1, R3⟩ := (show Row w0 gb 0 ([.int .i64 K, .slice kA kx.length kc0] ++ ints .u8 ds) by have q := Row.of_cut B1; rw [hL1.out] at q; simpa [CAsk, Sl.val] using q).split
 replace R3 : Row w0 gb 2 (ints .u8 ds) := R3
 have q0' := q0.below hE
 have hkd' := hkd.below hE
 clear B1
 go_wp2_with ((with_reducible refine wpList_load_mid ?_ 48 (.tmp 2) ?_ g0 0 ?_ L0 _ B0.rng Tryz.underlying48 ?_ lc ?_); (· rfl); (· rfl); (· rfl); (· rfl))
 rw [show (Value.agg L0.toArray) = .agg (CSigned x0).toArray by rw [hL0.out]]
 refine (large15_any x0 w0 q0').mono ?_
 rintro r1 w1 ⟨big, rfl, hsm, b⟩
 replace B0 := B0.below b
 replace R1 := R1.below b
 replace R3 := R3.below b
 replace q0' := q0'.below b
 replace hkd' := hkd'.below b
 replace hE := hE.trans (b.mono hE.size)
 clear b
 cases big
 case true =>
  go_wp2_with fail
  refine (works15_any _).mono ?_
  rintro r w' ⟨rfl, b⟩
  go_wp2_with fail
  go_ret
  exact ⟨rfl, hE.trans (b.mono hE.size)⟩
 case false =>
  have hsm := hsm rfl
  obtain ⟨gc, oc, gs, os, M⟩ := smem_of_in q0' hsm (by have := B0.1; omega)
  have hct : x0.G.content.xs.length ≤ 16384 := hsm.2.2.1
  obtain ⟨cs, hcs⟩ : ∃ l, l = x0.cs := ⟨_, rfl⟩
  obtain ⟨ss, hss⟩ : ∃ l, l = x0.ss := ⟨_, rfl⟩
  obtain ⟨G, hG⟩ : ∃ G, G = x0.G := ⟨_, rfl⟩
  rw [← hcs, ← hss, ← hG] at M
  rw [← hG] at hct
  replace B0 : Row w1 g0 0 G.cells := by rw [hG, show x0.G.cells = CSigned x0 from rfl, ← hL0.out]; exact B0
  replace hG := Lib.hid hG
  clear hcs hss hsm lc q0'
  obtain ⟨o, ho⟩ : ∃ o, o = rightAt cs ss K kx ds := ⟨_, rfl⟩
  have hco : (o.getD Crt.none).ok w1 := by
   cases o with
   | none => exact Crt.ok_none _
   | some c =>
    refine M.cok c ?_
    unfold rightAt at ho
    split at ho
    ·cases ho
    ·cases hs : ss[K.toNat]? with
     | none => rw [hs] at ho; cases ho
     | some s =>
      rw [hs] at ho
      have h2 : some c = (cs.find? (fitsB s)).filter (sgYes s kx ds) := ho
      cases hf : cs.find? (fitsB s) with
      | none => rw [hf] at h2; cases h2
      | some d =>
       rw [hf, Option.filter_some] at h2
       split at h2
       ·cases h2
        exact List.mem_of_find?_eq_some hf
       ·cases h2
  replace ho := Lib.hid ho
  obtain ⟨dz, fb, ndz, hof⟩ := of_pair G.content.xs
  replace ndz := Lib.hid ndz
  have ka : w1.cell? ⟨gb, 0, none⟩ = some (.int .i64 K) := R1.at_ (i := 0) rfl rfl
  have kb : w1.cell? ⟨gb, 1, none⟩ = some (.slice kA kx.length kc0) := R1.at_ (i := 1) rfl rfl
  go_wp2_with (first
   | ((with_reducible refine wpList_load_mid ?_ 48 (.tmp 2) ?_ g0 0 ?_ G.cells _ B0.rng Tryz.underlying48 ?_ (sz_sg _) ?_); (· rfl); (· rfl); (· rfl); (· rfl))
   | ((with_reducible refine wpList_load_mid ?_ 49 (.tmp 22) ?_ gb 2 ?_ (ints .u8 ds) _ R3.rng Tryz.underlying49 ?_ (sz_arr n2) ?_); (· rfl); (· rfl); (· rfl); (· rfl)))
  have Q1 := right_mem M K (by omega) ⟨kA, kc0, kx⟩ hkd' ds n2.out l2
  rw [← ho.out] at Q1
  clear ka kb
  refine (Q1).mono ?_
  rintro r2 w2 ⟨rfl, b⟩
  replace B0 := B0.below b
  replace R1 := R1.below b
  replace R3 := R3.below b
  replace hkd' := hkd'.below b
  replace M := M.below b
  replace hco := hco.below b
  replace hE := hE.trans (b.mono hE.size)
  clear b
  clear Q1
  go_upto_region 4 with (first
   | ((with_reducible refine wpList_alloc_row ?_ 30 ?_ Crt.none.cells zero_cert ?_); (· rfl); (· rfl); intro g3 wa3 hg3 V3 z3 e3)
   | ((with_reducible refine wpList_store_cut ?_ 30 (.tmp 5) (.tmp 25) ?_ g3 0 (o.getD Crt.none).cells _ ?_ ?_ V3 ?_ (sz_crt _) (crt_one _) ?_); (· rfl); (· rfl); (· rfl); (· rfl); (· rfl); intro w3 hst3))
  have b3 : Below w2.heap.size w2 w3 := below_only e3 hst3.1 e3.size (by have := hg3.out; omega)
  have D3 : Row w3 g3 0 (o.getD Crt.none).cells := Row.of_cut hst3.2.2.1
  have lt3 : w.heap.size ≤ g3 := by have := hE.size; have := hg3.out; omega
  have rt3 : w2.heap.size = g3 := hg3.out.symm
  replace rt3 := Lib.hid rt3
  clear V3 z3 e3 hst3
  replace B0 := B0.below b3
  replace R1 := R1.below b3
  replace R3 := R3.below b3
  replace hkd' := hkd'.below b3
  replace M := M.below b3
  replace hco := hco.below b3
  replace hE := hE.trans (b3.mono hE.size)
  clear b3
  have ka : w3.cell? ⟨gb, 0, none⟩ = some (.int .i64 K) := R1.at_ (i := 0) rfl rfl
  have kb : w3.cell? ⟨gb, 1, none⟩ = some (.slice kA kx.length kc0) := R1.at_ (i := 1) rfl rfl
  go_wp2_with (first
   | ((with_reducible refine wpList_load_mid ?_ 48 (.tmp 2) ?_ g0 0 ?_ G.cells _ B0.rng Tryz.underlying48 ?_ (sz_sg _) ?_); (· rfl); (· rfl); (· rfl); (· rfl))
   | ((with_reducible refine wpList_load_mid ?_ 49 (.tmp 33) ?_ gb 2 ?_ (ints .u8 ds) _ R3.rng Tryz.underlying49 ?_ (sz_arr n2) ?_); (· rfl); (· rfl); (· rfl); (· rfl)))
  have Q1 := rRight_any M K (by omega) ⟨kA, kc0, kx⟩ hkd' ds n2.out l2
  rw [← ho.out] at Q1
  clear ka kb
  refine (Q1).mono ?_
  rintro r4 w4 ⟨rfl, b⟩
  replace B0 := B0.below b
  replace R1 := R1.below b
  replace R3 := R3.below b
  replace hkd' := hkd'.below b
  replace M := M.below b
  replace hco := hco.below b
  replace D3 := D3.below b
  replace hE := hE.trans (b.mono hE.size)
  clear b
  clear Q1
  go_upto_region 5 with (first
   | ((with_reducible refine wpList_alloc_row ?_ 30 ?_ Crt.none.cells zero_cert ?_); (· rfl); (· rfl); intro g5 wa5 hg5 V5 z5 e5)
   | ((with_reducible refine wpList_store_cut ?_ 30 (.tmp 7) (.tmp 36) ?_ g5 0 (o.getD Crt.none).cells _ ?_ ?_ V5 ?_ (sz_crt _) (crt_one _) ?_); (· rfl); (· rfl); (· rfl); (· rfl); (· rfl); intro w5 hst5))
  have b5 : Below w4.heap.size w4 w5 := below_only e5 hst5.1 e5.size (by have := hg5.out; omega)
  have D4 : Row w5 g5 0 (o.getD Crt.none).cells := Row.of_cut hst5.2.2.1
  have lt5 : w.heap.size ≤ g5 := by have := hE.size; have := hg5.out; omega
  have rt5 : w4.heap.size = g5 := hg5.out.symm
  replace rt5 := Lib.hid rt5
  clear V5 z5 e5 hst5
  have l_g3_5 : g3 < g5 := by have := D3.1; have := hg5.out; omega
  replace B0 := B0.below b5
  replace R1 := R1.below b5
  replace R3 := R3.below b5
  replace hkd' := hkd'.below b5
  replace M := M.below b5
  replace hco := hco.below b5
  replace D3 := D3.below b5
  replace hE := hE.trans (b5.mono hE.size)
  clear b5
  go_wp2_with ((with_reducible refine wpList_load_mid ?_ 48 (.tmp 2) ?_ g0 0 ?_ G.cells _ B0.rng Tryz.underlying48 ?_ (sz_sg _) ?_); (· rfl); (· rfl); (· rfl); (· rfl))
  have Q1 := sOf_any G w5 M.content (by omega)
  refine Q1.mono ?_
  rintro r6 w6 hq
  obtain ⟨rfl, b⟩ := hof _ _ _ hq
  clear Q1 hq
  replace B0 := B0.below b
  replace R1 := R1.below b
  replace R3 := R3.below b
  replace hkd' := hkd'.below b
  replace M := M.below b
  replace hco := hco.below b
  replace D3 := D3.below b
  replace D4 := D4.below b
  replace hE := hE.trans (b.mono hE.size)
  clear b
  go_upto_region 6 with (first
   | (refine wpList_alloc_arr rfl 49 rfl .u8 32 zero_32u8 ?_; intro g7 wa7 hg7 (V7 : Whl .u8 49 wa7 g7 z32) z7 e7)
   | (refine wpList_store_whl rfl 49 (.tmp 9) (.tmp 41) rfl g7 .u8 _ z32 dz rfl rfl V7 (by rw [ndz.out]; rfl) (by exact size_32u8) ?_; intro w7 U7 hgg7 hss7))
  have b7 : Below w6.heap.size w6 w7 := below_only e7 hgg7 e7.size (by have := hg7.out; omega)
  have D5 : Row w7 g7 0 (ints .u8 dz) := Row.of_cut (Cut.of_blk U7.blk)
  clear V7 z7 e7 U7 hgg7 hss7
  have l_g3_7 : g3 < g7 := by have := D3.1; have := hg7.out; omega
  have l_g5_7 : g5 < g7 := by have := D4.1; have := hg7.out; omega
  have lt7 : w.heap.size ≤ g7 := by have := hE.size; have := hg7.out; omega
  replace B0 := B0.below b7
  replace R1 := R1.below b7
  replace R3 := R3.below b7
  replace hkd' := hkd'.below b7
  replace M := M.below b7
  replace hco := hco.below b7
  replace D3 := D3.below b7
  replace D4 := D4.below b7
  replace hE := hE.trans (b7.mono hE.size)
  clear b7
  go_wp2_with ((with_reducible refine wpList_load_mid ?_ 48 (.tmp 2) ?_ g0 0 ?_ G.cells _ B0.rng Tryz.underlying48 ?_ (sz_sg _) ?_); (· rfl); (· rfl); (· rfl); (· rfl))
  have Q1 := rOf_any G w7 M.content (by omega)
  refine Q1.mono ?_
  rintro r8 w8 hq
  obtain ⟨rfl, b⟩ := hof _ _ _ hq
  clear Q1 hq
  replace B0 := B0.below b
  replace R1 := R1.below b
  replace R3 := R3.below b
  replace hkd' := hkd'.below b
  replace M := M.below b
  replace hco := hco.below b
  replace D3 := D3.below b
  replace D4 := D4.below b
  replace D5 := D5.below b
  replace hE := hE.trans (b.mono hE.size)
  clear b
  go_upto_region 7 with (first
   | (refine wpList_alloc_arr rfl 49 rfl .u8 32 zero_32u8 ?_; intro g9 wa9 hg9 (V9 : Whl .u8 49 wa9 g9 z32) z9 e9)
   | (refine wpList_store_whl rfl 49 (.tmp 11) (.tmp 46) rfl g9 .u8 _ z32 dz rfl rfl V9 (by rw [ndz.out]; rfl) (by exact size_32u8) ?_; intro w9 U9 hgg9 hss9))
  have b9 : Below w8.heap.size w8 w9 := below_only e9 hgg9 e9.size (by have := hg9.out; omega)
  have D6 : Row w9 g9 0 (ints .u8 dz) := Row.of_cut (Cut.of_blk U9.blk)
  clear V9 z9 e9 U9 hgg9 hss9
  have l_g3_9 : g3 < g9 := by have := D3.1; have := hg9.out; omega
  have l_g5_9 : g5 < g9 := by have := D4.1; have := hg9.out; omega
  have l_g7_9 : g7 < g9 := by have := D5.1; have := hg9.out; omega
  have lt9 : w.heap.size ≤ g9 := by have := hE.size; have := hg9.out; omega
  replace B0 := B0.below b9
  replace R1 := R1.below b9
  replace R3 := R3.below b9
  replace hkd' := hkd'.below b9
  replace M := M.below b9
  replace hco := hco.below b9
  replace D3 := D3.below b9
  replace D4 := D4.below b9
  replace D5 := D5.below b9
  replace hE := hE.trans (b9.mono hE.size)
  clear b9
  obtain ⟨ob, hob⟩ : ∃ b, b = o.isSome := ⟨_, rfl⟩
  rw [← hob]
  clear hob
  have y3 := D3.2
  have y4 := D4.2
  generalize o.getD Crt.none = cc at *
  go_wp2_with (first
   | ((with_reducible refine wpList_load_if 30 (.tmp 5) ?_ g3 0 cc.cells _ y3 Tryz.underlying30 ?_ (sz_crt _) ?_ ?_ ?_); (· rfl); (· rfl); (· rfl); (· rfl))
   | ((with_reducible refine wpList_load_if 30 (.tmp 7) ?_ g5 0 cc.cells _ y4 Tryz.underlying30 ?_ (sz_crt _) ?_ ?_ ?_); (· rfl); (· rfl); (· rfl); (· rfl)))
  refine (sameC_any cc cc w9 hco hco).mono ?_
  rintro r10 w10 ⟨rfl, b⟩
  replace B0 := B0.below b
  replace R1 := R1.below b
  replace R3 := R3.below b
  replace hkd' := hkd'.below b
  replace M := M.below b
  replace hco := hco.below b
  replace D3 := D3.below b
  replace D4 := D4.below b
  replace D5 := D5.below b
  replace D6 := D6.below b
  replace hE := hE.trans (b.mono hE.size)
  clear b
  clear y3 y4
  have y5 := D5.2
  have y6 := D6.2
  simp only [decide_true]
  go_wp2_with (first
   | ((with_reducible refine wpList_load_if 49 (.tmp 9) ?_ g7 0 (ints .u8 dz) _ y5 Tryz.underlying49 ?_ (sz_arr ndz) ?_ ?_ ?_); (· rfl); (· rfl); (· rfl); (· rfl))
   | ((with_reducible refine wpList_load_if 49 (.tmp 11) ?_ g9 0 (ints .u8 dz) _ y6 Tryz.underlying49 ?_ (sz_arr ndz) ?_ ?_ ?_); (· rfl); (· rfl); (· rfl); (· rfl))
   | ((with_reducible refine wpList_eql_arr (.tmp 57) (.tmp 58) ?_ dz dz ndz.out ndz.out ?_ ?_ ?_ ?_); (· rfl); (· rfl); (· rfl); (· rfl)))
  refine (works15_any _).mono ?_
  rintro r w' ⟨rfl, b⟩
  go_wp2_with fail
  go_ret
  exact ⟨rfl, hE.trans (b.mono hE.size)⟩
end Go.Proofs.YtchaahnhpeoomaaGreat
