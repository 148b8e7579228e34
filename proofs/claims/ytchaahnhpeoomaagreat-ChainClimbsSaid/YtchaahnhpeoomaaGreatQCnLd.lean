/-
  The statement ChainLadders: of a ladder whose last one is trusted all of it is found.
-/
import Derived.Test.YtchaahnhpeoomaaGreatQCnLp
namespace Go.Proofs.YtchaahnhpeoomaaGreat
set_option linter.unusedVariables false
set_option linter.unusedSimpArgs false
set_option maxRecDepth 20000
open Go.RowKit
set_option maxRecDepth 100000 in
set_option maxHeartbeats 12800000 in
theorem cnLd_any (x : RIn) (w : World) (qr : QRow w x) : Calls Tryz.prog 17 #[.agg (CRow x).toArray] w (RetW true w) := by
 obtain ⟨L0, hL0⟩ : ∃ L, L = CRow x := ⟨_, rfl⟩
 rw [← hL0]
 obtain ⟨g0, hg0⟩ : ∃ g, g = w.heap.size := ⟨_, rfl⟩
 obtain ⟨w0, hw0⟩ : ∃ u, u = w.alloc (.cells L0.toArray 87) := ⟨_, rfl⟩
 have hE : Below w.heap.size w w0 := by rw [hw0]; exact (Below.refl _ _).alloc (Nat.le_refl _) _
 have R0 : Row w0 g0 0 L0 := by rw [hw0, hg0]; exact row_new _
 have lc : (Tryz.prog.info? 87).map (·.size) = some L0.length := by rw [hL0]; exact sz_rowC x
 replace hL0 := Lib.hid hL0
 go_enter Tryz.func17, Tryz.ntmps17
 go_upto_region 1 with fail
 refine wp_world hw0 ?_
 rw [← hg0]
 clear hw0
 replace hg0 := Lib.hid hg0
 have HL : LadOf (rowL x) := fun gl ol lc A kA W hA hR hk => ladder_told gl ol _ lc A (rowL x) kA 1 3 [1] W rfl (by rw [rowL_len]; have := rowN_range x; omega) (.inr hA) hR (rowL_W x) hk (by decide) (by decide)
 have hq := row_made x w0 qr HL
 rw [← hL0.out] at hq
 go_wp2_with ((with_reducible refine wpList_load_mid ?_ 87 (.tmp 1) ?_ g0 0 ?_ L0 _ R0.rng Tryz.underlying87 ?_ lc ?_); (· rfl); (· rfl); (· rfl); (· rfl))
 refine Calls.mono hq ?_
 rintro e4 w4 ⟨cs, lf, A5, A6, c5, c6, rfl, h0, hln, n5, m5, n6, m6, C5, C6, hsay, hok, b4⟩
 clear hq HL
 replace hE := hE.trans (b4.mono hE.size)
 replace R0 := R0.below b4
 have hpm : (rowPool x cs lf (rowN x - 1)).Perm (cs.drop 1) := pool_perm hln
 obtain ⟨pl, hpl⟩ : ∃ p, p = rowPool x cs lf (rowN x - 1) := ⟨_, rfl⟩
 rw [← hpl] at hpm n6 C6
 rw [← hpl]
 replace hpl := Lib.hid hpl
 have hnr := rowN_range x
 have hsh := lad_shortW hsay (rowL_W x) ⟨by decide, fun y hy => by simp at hy; omega⟩
 obtain ⟨g5, o5, rfl, R5⟩ := C5.resolve_left (by rintro rfl; simp at h0)
 have hn2 : 2 ≤ cs.length ∧ cs.length ≤ 10 := by omega
 have hpll : pl.length = cs.length - 1 := by rw [hpm.length_eq, List.length_drop]
 have P4 : PoolOk w4 lf pl := by
  have hm : ∀ c ∈ lf :: pl, c ∈ cs := fun c hc => by
   rcases List.mem_cons.1 hc with rfl | hc
   ·exact List.mem_of_getElem? h0
   ·exact List.mem_of_mem_drop (hpm.mem_iff.1 hc)
  exact ⟨Nat.lt_of_le_of_lt (Nat.zero_le _) R5.1, fun c hc => hok c (hm c hc), fun c hc => Nat.le_trans (hsh c (hm c hc)).1 (by decide), fun c hc => Nat.le_trans (hsh c (hm c hc)).2 (by decide), by omega⟩
 clear b4 hsh hnr
 have zc10 : (cs.length : Int) ≤ 10 := by omega
 have zc2 : (2 : Int) ≤ (cs.length : Int) := by omega
 replace hpll := Lib.hid hpll
 have qmay : ∀ W, Calls Tryz.prog 44 #[.agg L0.toArray, .int .i64 (cs.length : Int)] W (RetW (rowMay x) W) := fun W => by
  have h := row_may x W qr
  rw [← hL0.out, ← hln] at h
  exact h
 obtain ⟨k, hk⟩ : ∃ k, k = cs.length - 1 := ⟨_, rfl⟩
 obtain ⟨lt, hlt⟩ : ∃ c, cs[k]? = some c := ⟨_, List.getElem?_eq_getElem (by omega)⟩
 have hfind := row_find hsay hln h0 hpm (last := lt) (by rw [← hk]; exact hlt)
 have zk : (cs.length : Int) - 1 = (k : Int) := by omega
 have zk2 : (k : Int) < (cs.length : Int) := by omega
 have kr : w4.cell? ⟨g5, o5 + k * 24, none⟩ = some (.slice lt.raw.A lt.raw.xs.length lt.raw.c) := (crt_row R5 hlt).cell (i := 0) (v := .slice lt.raw.A lt.raw.xs.length lt.raw.c) rfl
 have oklt := (hok lt (List.mem_of_getElem? hlt)).raw
 replace hk := Lib.hid hk
 replace hln := Lib.hid hln
 go_upto_region 3 with (refine wpList_build_sls rfl [.tmp 19] [lt.raw] 1 #[(0, .tmp 19)] rfl rfl (by rfl) rfl (by decide) (by decide) ?_)
 clear kr zk zk2
 obtain ⟨gs, hgs⟩ : ∃ g, g = w4.heap.size := ⟨_, rfl⟩
 obtain ⟨g7, hg7⟩ : ∃ g, g = gs + 1 := ⟨_, rfl⟩
 obtain ⟨u1, hu1⟩ : ∃ u, u = w4.alloc (.cells [lt.raw.val].toArray 22) := ⟨_, rfl⟩
 obtain ⟨w6, hw6⟩ : ∃ u, u = u1.alloc (.cells [Value.slice (some ⟨gs, 0, none⟩) 1 1].toArray 34) := ⟨_, rfl⟩
 have zu1 : u1.heap.size = g7 := by rw [hu1, hg7, hgs]; simp
 have f1 : Below w4.heap.size w4 u1 := by rw [hu1]; exact (Below.refl _ _).alloc (Nat.le_refl _) _
 have f2 : Below u1.heap.size u1 w6 := by rw [hw6]; exact (Below.refl _ _).alloc (Nat.le_refl _) _
 have Q1 : Row u1 gs 0 [lt.raw.val] := by rw [hu1, hgs]; exact row_new _
 have Q2 : Row w6 g7 0 [Value.slice (some ⟨gs, 0, none⟩) 1 1] := by rw [hw6, ← zu1]; exact row_new _
 replace Q1 := Q1.below f2
 have e46 : Below w4.heap.size w4 w6 := f1.trans (f2.mono f1.size)
 refine wp_world (W' := w6) (by rw [hw6, hu1, hgs]) ?_
 rw [← hgs, ← hg7]
 clear hw6 hu1 zu1 f1 f2
 have AN : Anc w6 24 #[.pointer (some ⟨g7, 0, none⟩)] (trB [lt.raw]) := anc_is (t := ⟨some ⟨gs, 0, none⟩, 1, [lt.raw]⟩) (Q2.2 0 _ rfl) ⟨by show 1 ≤ 1; decide, by show 1 ≤ 9223372036854775807; decide, .inr ⟨gs, 0, rfl, Q1⟩, fun s h => by
  rw [List.mem_singleton.1 h]
  exact oklt.below e46⟩
 clear Q1 Q2 oklt
 replace hgs := Lib.hid hgs
 replace hg7 := Lib.hid hg7
 replace hE := hE.trans (e46.mono hE.size)
 replace R0 := R0.below e46
 replace R5 := R5.below e46
 replace C6 := C6.below e46
 replace P4 := P4.below e46
 replace hok := fun c hc => (hok c hc).below e46
 clear e46
 have Rlf := crt_row R5 h0
 rw [Nat.zero_mul, Nat.add_zero] at Rlf
 have hff := find_go P4 C6 (pc := c6) AN
 unfold FndP at hff
 unfold Crt.val at hff
 by_cases hbig : cs.length ≤ 8 ∧ rowMay x = true
 case pos =>
  rw [if_pos hbig] at hfind
  simp only [hfind] at hff
  obtain ⟨hb8, hbm⟩ := hbig
  have z8 : ¬ (8 : Int) < (cs.length : Int) := by omega
  go_wp2_with ((with_reducible refine wpList_load_mid ?_ 30 (.tmp 24) ?_ g5 o5 ?_ lf.cells _ Rlf.rng Tryz.underlying30 ?_ (sz_crt _) ?_); (· rfl); (· rfl); (· rfl); (· rfl))
  refine hff.mono ?_
  rintro e8 w8 ⟨b8, A8, c8, rfl, n8, m8, C8⟩
  replace hE := hE.trans (b8.mono hE.size)
  replace R0 := R0.below b8
  replace R5 := R5.below b8
  replace hok := fun c hc => (hok c hc).below b8
  clear hff b8 Rlf C6 P4 AN
  simp only [Option.getD_some, Option.isSome_some] at n8 C8 ⊢
  have hmay := qmay w8
  rw [hbm] at hmay
  go_wp2_with ((with_reducible refine wpList_load_if 87 (.tmp 1) ?_ g0 0 L0 _ R0.rng Tryz.underlying87 ?_ lc ?_ ?_ ?_); (· rfl); (· rfl); (· rfl); (· first | rfl | (show (some (decide ((8 : Int) < (cs.length : Int))) == some false) = true; rw [decide_eq_false (show ¬ (8 : Int) < (cs.length : Int) by omega)]; rfl)))
  refine Calls.mono hmay ?_
  rintro e9 w9 ⟨rfl, b9⟩
  replace hE := hE.trans (b9.mono hE.size)
  replace R5 := R5.below b9
  replace C8 := C8.below b9
  replace hok := fun c hc => (hok c hc).below b9
  clear hmay b9 R0
  go_wp2_with fail
  refine (same13_any C8 (.inr ⟨g5, o5, rfl, R5⟩) hok hok (by omega)).mono ?_
  rintro e10 w10 ⟨rfl, b10⟩
  rw [decide_eq_true rfl]
  replace hE := hE.trans (b10.mono hE.size)
  clear b10
  go_wp2_with fail
  refine (works13_any _).mono ?_
  rintro r11 w11 ⟨rfl, b11⟩
  go_wp2_with fail
  go_ret
  exact ⟨rfl, hE.trans (b11.mono hE.size)⟩
 case neg =>
  rw [if_neg hbig] at hfind
  simp only [hfind] at hff
  go_wp2_with ((with_reducible refine wpList_load_mid ?_ 30 (.tmp 24) ?_ g5 o5 ?_ lf.cells _ Rlf.rng Tryz.underlying30 ?_ (sz_crt _) ?_); (· rfl); (· rfl); (· rfl); (· rfl))
  refine hff.mono ?_
  rintro e8 w8 ⟨b8, A8, c8, rfl, n8, m8, C8⟩
  replace hE := hE.trans (b8.mono hE.size)
  replace R0 := R0.below b8
  clear hff b8 Rlf C6 P4 AN C8 R5
  simp only [Option.getD_none, List.length_nil, Option.isSome_none]
  by_cases hb8 : cs.length ≤ 8
  case neg =>
   have z8 : (8 : Int) < (cs.length : Int) := by omega
   go_wp2_with fail
   refine (works13_any _).mono ?_
   rintro r9 w9 ⟨rfl, b9⟩
   go_wp2_with fail
   go_ret
   exact ⟨rfl, hE.trans (b9.mono hE.size)⟩
  case pos =>
   have z8 : ¬ (8 : Int) < (cs.length : Int) := by omega
   have hbm : rowMay x = false := by
    cases h : rowMay x with
    | false => rfl
    | true => exact absurd ⟨hb8, h⟩ hbig
   have hmay := qmay w8
   rw [hbm] at hmay
   go_wp2_with ((with_reducible refine wpList_load_if 87 (.tmp 1) ?_ g0 0 L0 _ R0.rng Tryz.underlying87 ?_ lc ?_ ?_ ?_); (· rfl); (· rfl); (· rfl); (· first | rfl | (show (some (decide ((8 : Int) < (cs.length : Int))) == some false) = true; rw [decide_eq_false (show ¬ (8 : Int) < (cs.length : Int) by omega)]; rfl)))
   refine Calls.mono hmay ?_
   rintro e9 w9 ⟨rfl, b9⟩
   replace hE := hE.trans (b9.mono hE.size)
   clear hmay b9 R0
   go_wp2_with fail
   refine (works13_any _).mono ?_
   rintro r11 w11 ⟨rfl, b11⟩
   go_wp2_with fail
   go_ret
   exact ⟨rfl, hE.trans (b11.mono hE.size)⟩
end Go.Proofs.YtchaahnhpeoomaaGreat
