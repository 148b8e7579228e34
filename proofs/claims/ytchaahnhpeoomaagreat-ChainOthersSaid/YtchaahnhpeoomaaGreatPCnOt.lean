/-
 The statement ChainOthers: who has signed nobody that is reached has no say.
-/
import Derived.Test.YtchaahnhpeoomaaGreatPCnTw
namespace Go.Proofs.YtchaahnhpeoomaaGreat
set_option linter.unusedVariables false
set_option linter.unusedSimpArgs false
set_option maxRecDepth 20000
open Go.RowKit
theorem crs_take {W : World} {A : Option Addr} {cs : List Crt} {c k : Nat} (h : Crs W A cs) (hk : k ≤ cs.length) (hc : cs.length ≤ c) (hm : c ≤ 9223372036854775807) : ∃ A', (∀ (z : Int) (U : World), z = (k : Int) → (Instr.sliceAt 31 (.slice A cs.length c) none (some (.int .i64 z)) none).run Tryz.prog U = .ok (.slice A' k c) U) ∧ Crs W A' (cs.take k) := by
 have h1 : (0 : Int) ≤ (k : Int) := by omega
 have h3 : (k : Int) ≤ (c : Int) := by omega
 have h5 : (cs.length : Int) ≤ (c : Int) := by omega
 rcases h with rfl | ⟨g, o, rfl, R⟩
 ·obtain rfl : k = 0 := by simpa using hk
  refine ⟨if c = 0 then A else A.map (·.add (0 * 24)), fun z U hz => ?_, .inl rfl⟩
  subst hz
  go_simp
 ·refine ⟨some ⟨g, o, none⟩, fun z U hz => ?_, .inr ⟨g, o, rfl, R.1, fun i v hv => R.2 i v ?_⟩⟩
  ·subst hz
   have e : (⟨g, o, none⟩ : Addr).add (0 * 24) = ⟨g, o, none⟩ := by rw [addr_addO]; simp
   go_simp
  ·rw [← List.take_append_drop k cs, crtCells_append, List.getElem?_append_left (List.getElem?_eq_some_iff.1 hv).1]
   exact hv
theorem crs_drop {W : World} {A : Option Addr} {cs : List Crt} {c k : Nat} (h : Crs W A cs) (hk : k ≤ cs.length) (hc : cs.length ≤ c) (hm : c ≤ 9223372036854775807) : ∃ A', (∀ (z : Int) (U : World), z = (k : Int) → (Instr.sliceAt 31 (.slice A cs.length c) (some (.int .i64 z)) none none).run Tryz.prog U = .ok (.slice A' (cs.length - k) (c - k)) U) ∧ Crs W A' (cs.drop k) := by
 have h1 : (0 : Int) ≤ (k : Int) := by omega
 have h3 : (k : Int) ≤ (cs.length : Int) := by omega
 have h4 : (k : Int) ≤ (c : Int) := by omega
 have h5 : (cs.length : Int) ≤ (c : Int) := by omega
 rcases h with rfl | ⟨g, o, rfl, R⟩
 ·obtain rfl : k = 0 := by simpa using hk
  refine ⟨if c = 0 then A else A.map (·.add (0 * 24)), fun z U hz => ?_, .inl rfl⟩
  subst hz
  go_simp
 ·refine ⟨if c = k then some ⟨g, o, none⟩ else some ⟨g, o + k * 24, none⟩, fun z U hz => ?_, ?_⟩
  ·subst hz
   go_simp
  ·by_cases hl : k = cs.length
   ·left
    rw [hl]
    exact List.drop_eq_nil_of_le (Nat.le_refl _)
   ·right
    rw [if_neg (by omega)]
    refine ⟨g, o + k * 24, rfl, R.1, fun i v hv => ?_⟩
    have e : (crtCells (cs.take k)).length = k * 24 := by rw [crtCells_length, List.length_take, Nat.min_eq_left hk]
    have q := R.2 (k * 24 + i) v (by rw [← List.take_append_drop k cs, crtCells_append, List.getElem?_append_right (by omega), e, Nat.add_sub_cancel_left]; exact hv)
    rwa [← Nat.add_assoc] at q
theorem PoolOk.more {w : World} {lf c : Crt} {cs pl : List Crt} (h : PoolOk w lf cs) (hc : c.ok w) (ht : c.tbs.xs.length ≤ 8192) (hk : c.key.xs.length ≤ 600) (hp : ∀ x ∈ pl, x = c ∨ x ∈ cs) (hl : pl.length ≤ 16) : PoolOk w lf pl := by
 have hm : ∀ x ∈ lf :: pl, x = c ∨ x ∈ lf :: cs := fun x hx => by
  rcases List.mem_cons.1 hx with rfl | hx
  ·exact .inr (by simp)
  ·exact (hp x hx).imp id fun q => List.mem_cons_of_mem _ q
 refine ⟨h.pos, fun x hx => ?_, fun x hx => ?_, fun x hx => ?_, hl⟩ <;> rcases hm x hx with rfl | q
 ·exact hc
 ·exact h.ok x q
 ·exact Nat.le_trans ht (by decide)
 ·exact h.tbs x q
 ·exact Nat.le_trans hk (by decide)
 ·exact h.key x q
def otT (g3 c3 ix n gb : Nat) (d c : Crt) (p : Bool) : Nat → Tg
 | 0 => tv (.slice (some ⟨g3, 0, none⟩) n c3)
 | 1 => tv (.int .i64 (ix : Int))
 | 2 => tv (.pointer (some ⟨g3, 0 + ix * 24, none⟩))
 | 3 => tv d.val
 | 4 => tv c.val
 | _ => tv (.bool p)
theorem rg119 : List.range 119 = [0, 1, 2, 3, 4, 5, 6, 7, 8, 9, 10, 11, 12, 13, 14, 15, 16, 17, 18, 19, 20, 21, 22, 23, 24, 25, 26, 27, 28, 29, 30, 31, 32, 33, 34, 35, 36, 37, 38, 39, 40, 41, 42, 43, 44, 45, 46, 47, 48, 49, 50, 51, 52, 53, 54, 55, 56, 57, 58, 59, 60, 61, 62, 63, 64, 65, 66, 67, 68, 69, 70, 71, 72, 73, 74, 75, 76, 77, 78, 79, 80, 81, 82, 83, 84, 85, 86, 87, 88, 89, 90, 91, 92, 93, 94, 95, 96, 97, 98, 99, 100, 101, 102, 103, 104, 105, 106, 107, 108, 109, 110, 111, 112, 113, 114, 115, 116, 117, 118] := rfl
set_option maxRecDepth 100000 in
set_option maxHeartbeats 12800000 in
theorem cnOt_any (t : CIn) (c : Crt) (n : Int) (w : World) (q : QCasec w t) (qc : CrtIn w c) (qn : -9223372036854775808 ≤ n ∧ n ≤ 9223372036854775807) : Calls Tryz.prog 15 #[.agg (CCasec t).toArray, .agg c.cells.toArray, .int .i64 n] w (RetW true w) := by
 obtain ⟨lf, ⟨pA, pc, cs⟩, ⟨tA, tc, ts⟩⟩ := t
 obtain ⟨L0, hL0⟩ : ∃ L, L = CCasec (lf, ⟨pA, pc, cs⟩, ⟨tA, tc, ts⟩) := ⟨_, rfl⟩
 rw [← hL0]
 obtain ⟨g0, hg0⟩ : ∃ g, g = w.heap.size := ⟨_, rfl⟩
 obtain ⟨u0, hu0⟩ : ∃ u, u = w.alloc (.cells L0.toArray 36) := ⟨_, rfl⟩
 obtain ⟨w0, hw0⟩ : ∃ u, u = u0.alloc (.cells c.cells.toArray 30) := ⟨_, rfl⟩
 obtain ⟨gb, hgb⟩ : ∃ g, g = w.heap.size + 1 := ⟨_, rfl⟩
 have hu1 : u0.heap.size = gb := by rw [hu0, hgb]; simp
 have eu : Below w.heap.size w u0 := by rw [hu0]; exact (Below.refl _ _).alloc (Nat.le_refl _) _
 have ev : Below u0.heap.size u0 w0 := by rw [hw0]; exact (Below.refl _ _).alloc (Nat.le_refl _) _
 have hE : Below w.heap.size w w0 := eu.trans (ev.mono eu.size)
 have B0 : Row u0 g0 0 L0 := by rw [hu0, hg0]; exact row_new _
 replace B0 := B0.below ev
 have B1 : Row w0 gb 0 c.cells := by rw [hw0, ← hu1]; exact row_new _
 have CW : CaseW w0 g0 (lf, ⟨pA, pc, cs⟩, ⟨tA, tc, ts⟩) := ⟨by rw [← hL0]; exact B0, q.below hE⟩
 clear B0
 replace hL0 := Lib.hid hL0
 go_enter Tryz.func15, Tryz.ntmps15
 go_upto_region 1 with fail
 refine wp_world (W' := w0) (by rw [hw0, hu0]) ?_
 rw [← hgb, ← hg0]
 clear hw0 hu0 eu ev hu1
 replace hgb := Lib.hid hgb
 replace hg0 := Lib.hid hg0
 have lc : (Tryz.prog.info? 36).map (·.size) = some L0.length := by rw [hL0.out]; exact sz_case13 _
 have BL : Row w0 g0 0 L0 := by rw [hL0.out]; exact CW.row
 go_wp2_with ((with_reducible refine wpList_load_mid ?_ 36 (.tmp 3) ?_ g0 0 ?_ L0 _ BL.rng Tryz.underlying36 ?_ lc ?_); (· rfl); (· rfl); (· rfl); (· rfl))
 rw [show (Value.agg L0.toArray) = .agg (CCasec (lf, ⟨pA, pc, cs⟩, ⟨tA, tc, ts⟩)).toArray by rw [hL0.out]]
 refine (large13_any _ w0 CW.q).mono ?_
 clear BL lc
 rintro r1 w1 ⟨big, rfl, hsm, b⟩
 replace CW := CW.below b
 replace B1 := B1.below b
 replace hE := hE.trans (b.mono hE.size)
 clear b hL0
 have k24 := CW.pool
 simp only at k24
 have kt : w1.cell? ⟨gb, 1, none⟩ = some (.slice c.tbs.A c.tbs.xs.length c.tbs.c) := by have q := B1.cell (i := 1) (v := .slice c.tbs.A c.tbs.xs.length c.tbs.c) rfl; rwa [Nat.zero_add] at q
 have kk : w1.cell? ⟨gb, 17, none⟩ = some (.slice c.key.A c.key.xs.length c.key.c) := by have q := B1.cell (i := 17) (v := .slice c.key.A c.key.xs.length c.key.c) rfl; rwa [Nat.zero_add] at q
 replace qc := qc.below hE
 cases big
 case true =>
  go_wp2_with fail
  refine (works13_any _).mono ?_
  rintro r w' ⟨rfl, b⟩
  go_wp2_with fail
  go_ret
  exact ⟨rfl, hE.trans (b.mono hE.size)⟩
 case false =>
  replace hsm := hsm rfl
  by_cases h6 : cs.length ≤ 6
  case neg =>
   have z6 : (6 : Int) < (cs.length : Int) := by omega
   go_wp2_with fail
   refine (works13_any _).mono ?_
   rintro r w' ⟨rfl, b⟩
   go_wp2_with fail
   go_ret
   exact ⟨rfl, hE.trans (b.mono hE.size)⟩
  have z6 : ¬ (6 : Int) < (cs.length : Int) := by omega
  by_cases h7 : c.tbs.xs.length ≤ 8192
  case neg =>
   have z7 : (8192 : Int) < (c.tbs.xs.length : Int) := by omega
   go_wp2_with fail
   refine (works13_any _).mono ?_
   rintro r w' ⟨rfl, b⟩
   go_wp2_with fail
   go_ret
   exact ⟨rfl, hE.trans (b.mono hE.size)⟩
  have z7 : ¬ (8192 : Int) < (c.tbs.xs.length : Int) := by omega
  by_cases h8 : c.key.xs.length ≤ 600
  case neg =>
   have z8 : (600 : Int) < (c.key.xs.length : Int) := by omega
   go_wp2_with fail
   refine (works13_any _).mono ?_
   rintro r w' ⟨rfl, b⟩
   go_wp2_with fail
   go_ret
   exact ⟨rfl, hE.trans (b.mono hE.size)⟩
  have z8 : ¬ (600 : Int) < (c.key.xs.length : Int) := by omega
  by_cases h9 : 0 ≤ n
  case neg =>
   have z9 : n < 0 := by omega
   go_wp2_with fail
   refine (works13_any _).mono ?_
   rintro r w' ⟨rfl, b⟩
   go_wp2_with fail
   go_ret
   exact ⟨rfl, hE.trans (b.mono hE.size)⟩
  have z9 : ¬ n < 0 := by omega
  by_cases h10 : n ≤ (cs.length : Int)
  case neg =>
   have z10 : (cs.length : Int) < n := by omega
   go_wp2_with fail
   refine (works13_any _).mono ?_
   rintro r w' ⟨rfl, b⟩
   go_wp2_with fail
   go_ret
   exact ⟨rfl, hE.trans (b.mono hE.size)⟩
  have z10 : ¬ (cs.length : Int) < n := by omega
  obtain ⟨at_, hat⟩ : ∃ k : Nat, n = (k : Int) := ⟨n.toNat, by omega⟩
  have hatl : at_ ≤ cs.length := by omega
  replace hat := Lib.hid hat
  have P1 : PoolOk w1 lf cs := CW.may hsm (fun c hc => List.mem_cons_of_mem _ hc) (by omega)
  obtain ⟨L3, hL3⟩ : ∃ L, L = (hse lf cs).reach := ⟨_, rfl⟩
  have s3 : L3.length ≤ 7 := by rw [hL3]; have := Chn.reach_len (H := hse lf cs); have e : (hse lf cs).pool.length = cs.length := rfl; omega
  have okM : ∀ c ∈ L3, c ∈ lf :: cs := by rw [hL3]; exact reach_sub
  have hff := reach_go P1 CW.crs (pc := pc)
  unfold RchP at hff
  rw [← hL3] at hff
  unfold Crt.val at hff
  replace hL3 := Lib.hid hL3
  go_wp2_with ((with_reducible refine wpList_load_mid ?_ 30 (.tmp 47) ?_ g0 0 ?_ lf.cells _ CW.leaf.rng Tryz.underlying30 ?_ (sz_crt _) ?_); (· rfl); (· rfl); (· rfl); (· rfl))
  refine hff.mono ?_
  rintro e2 w2 ⟨b2, g3, c3, rfl, n3, m3, C3⟩
  replace hE := hE.trans (b2.mono hE.size)
  replace CW := CW.below b2
  replace B1 := B1.below b2
  replace qc := qc.below b2
  clear hff b2 P1 kt kk k24
  go_wp2_with fail
  go_loopw [8] (fun t wr => ∃ ix : Nat, t = .int .i64 (ix : Int) ∧ ix ≤ L3.length ∧ (∀ x ∈ L3.take ix, sgB x c = false) ∧ Below w2.heap.size w2 wr) (fun t _ => L3.length - (intOf t).toNat)
  case atStart => exact ⟨0, rfl, Nat.zero_le _, by simp, Below.refl _ _⟩
  case round =>
   obtain ⟨ix, rfl, hi, hno, er⟩ := hrel
   have z1 : (ix : Int) ≤ 100 := by omega
   by_cases hlt : ix < L3.length
   ·have z2 : (ix : Int) < (L3.length : Int) := by omega
    obtain ⟨d, hd⟩ : ∃ d, L3[ix]? = some d := ⟨_, List.getElem?_eq_getElem hlt⟩
    have Rd' := (crt_row C3 hd).below er
    have od := (CW.below er).ok d (okM d (List.mem_of_getElem? hd))
    have dsz := hsm.2.2 d (okM d (List.mem_of_getElem? hd))
    have qr := qc.below er
    have B1r := B1.below er
    obtain ⟨p, hp⟩ : ∃ p, p = sgB d c := ⟨_, rfl⟩
    replace hp := Lib.hid hp
    go_upto_region 7 with fail
    have hd0 : Below wr.heap.size wr wr.drew := below_drewN (Below.refl _ _) 1
    refine wp_region_steps (by kernel_rfl) (fun i => 58 + i) (fun i v W => Sp ((otT g3 c3 ix L3.length gb d c p) i) v W) (fun W => Below wr.heap.size wr W) (by kernel_rfl) (by kernel_rfl) ?inj ?lt (fun i v W W' h hs => h.mono hs) hd0 ⟨?s0, ?s1, ?s2, ?s3, ?s4, ?s5, trivial⟩ ?fin
    case inj =>
     intro i j hi hj h
     have h40 : i < 6 ∧ j < 6 := ⟨hi, hj⟩
     have h : 58 + i = 58 + j := h
     omega
    case lt =>
     intro i hi
     have h40 : i < 6 := hi
     show 58 + i < 119
     omega
    case s0 => exact (st_move rfl (.inl rfl) (src_base (fun i hi => by have hi : i < 6 := hi; show 58 + i ≠ _; omega) rfl))
    case s1 => exact (st_move rfl (.inl rfl) (src_base (fun i hi => by have hi : i < 6 := hi; show 58 + i ≠ _; omega) rfl))
    case s2 => exact (st_index rfl rfl rfl (src_dep (j := 0) (e := ⟨0, .data⟩) (by simp) rfl rfl rfl) (src_dep (j := 1) (e := ⟨1, .data⟩) (by simp) rfl rfl rfl) (fun W => ia_cert g3 0 L3.length c3 ix hlt W))
    case s3 => exact (st_loadR (b := g3) (off := (0 + ix * 24)) rfl rfl rfl (src_dep (j := 2) (e := ⟨2, .data⟩) (by simp) rfl rfl rfl) Tryz.underlying30 rfl (sz_crt _) (fun W h => (Rd'.below h).rng))
    case s4 => exact (st_loadR (b := gb) (off := 0) rfl rfl rfl (src_base (fun i hi => by have hi : i < 6 := hi; show 58 + i ≠ _; omega) rfl) Tryz.underlying30 rfl (sz_crt _) (fun W h => (B1r.below h).rng))
    case s5 => exact (st_signed (c := d) (d := c) rfl (.tmp 61) (.tmp 62) _ rfl p hp.out.symm rfl (src_dep (j := 3) (e := ⟨3, .data⟩) (by simp) rfl rfl rfl) (src_dep (j := 4) (e := ⟨4, .data⟩) (by simp) rfl rfl rfl) od qr.ok (Nat.le_trans dsz.1 (by decide)) (Nat.le_trans h8 (by decide)))
    case fin =>
     intro a W2 h1 h2 h3 h4 h5
     have b63 : a.tmps.getD 63 undef = .bool p := (h4 5 (by show 5 < 6; omega)).now
     have hz : a.tmps.size = 119 := h2
     have hdf : a.defers = [] := h1
     have hb := fun (k : Nat) (hk : (k < 58 ∨ 63 < k)) => h3 k (fun i (h : i < 6) => by show (58 + i) ≠ k; omega)
     rw [act_eq hz hdf]
     simp only [rg119, List.map_cons, List.map_nil, b63, hb 0 (by decide), hb 1 (by decide), hb 2 (by decide), hb 3 (by decide), hb 4 (by decide), hb 5 (by decide), hb 6 (by decide), hb 7 (by decide), hb 8 (by decide), hb 9 (by decide), hb 10 (by decide), hb 11 (by decide), hb 12 (by decide), hb 13 (by decide), hb 14 (by decide), hb 15 (by decide), hb 16 (by decide), hb 17 (by decide), hb 18 (by decide), hb 19 (by decide), hb 20 (by decide), hb 21 (by decide), hb 22 (by decide), hb 23 (by decide), hb 24 (by decide), hb 25 (by decide), hb 26 (by decide), hb 27 (by decide), hb 28 (by decide), hb 29 (by decide), hb 30 (by decide), hb 31 (by decide), hb 32 (by decide), hb 33 (by decide), hb 34 (by decide), hb 35 (by decide), hb 36 (by decide), hb 37 (by decide), hb 38 (by decide), hb 39 (by decide), hb 40 (by decide), hb 41 (by decide), hb 42 (by decide), hb 43 (by decide), hb 44 (by decide), hb 45 (by decide), hb 46 (by decide), hb 47 (by decide), hb 48 (by decide), hb 49 (by decide), hb 50 (by decide), hb 51 (by decide), hb 52 (by decide), hb 53 (by decide), hb 54 (by decide), hb 55 (by decide), hb 56 (by decide), hb 57 (by decide), hb 64 (by decide), hb 65 (by decide), hb 66 (by decide), hb 67 (by decide), hb 68 (by decide), hb 69 (by decide), hb 70 (by decide), hb 71 (by decide), hb 72 (by decide), hb 73 (by decide), hb 74 (by decide), hb 75 (by decide), hb 76 (by decide), hb 77 (by decide), hb 78 (by decide), hb 79 (by decide), hb 80 (by decide), hb 81 (by decide), hb 82 (by decide), hb 83 (by decide), hb 84 (by decide), hb 85 (by decide), hb 86 (by decide), hb 87 (by decide), hb 88 (by decide), hb 89 (by decide), hb 90 (by decide), hb 91 (by decide), hb 92 (by decide), hb 93 (by decide), hb 94 (by decide), hb 95 (by decide), hb 96 (by decide), hb 97 (by decide), hb 98 (by decide), hb 99 (by decide), hb 100 (by decide), hb 101 (by decide), hb 102 (by decide), hb 103 (by decide), hb 104 (by decide), hb 105 (by decide), hb 106 (by decide), hb 107 (by decide), hb 108 (by decide), hb 109 (by decide), hb 110 (by decide), hb 111 (by decide), hb 112 (by decide), hb 113 (by decide), hb 114 (by decide), hb 115 (by decide), hb 116 (by decide), hb 117 (by decide), hb 118 (by decide)]
     simp only [Array.getD_eq_getD_getElem?, List.getElem?_toArray, List.getElem?_cons_succ, List.getElem?_cons_zero, Option.getD_some]
     clear b63
     clear hb hz hdf h1 h2 h3 h4
     have er2 := er.trans (h5.mono er.size)
     have HT := Lib.hid (show L3.take (ix + 1) = L3.take ix ++ [d] by rw [List.take_add_one, hd]; rfl)
     cases p
     case true =>
      replace hE := hE.trans (er2.mono hE.size)
      go_wp2_with fail
      refine (works13_any _).mono ?_
      rintro r w' ⟨rfl, b⟩
      go_wp2_with fail
      go_ret
      exact ⟨rfl, hE.trans (b.mono hE.size)⟩
     case false =>
      go_wp2_with fail
      go_roundw
      case rel => exact ⟨ix + 1, by go_num, by omega, by rw [HT.out]; intro x hx; rcases List.mem_append.1 hx with h | h; exact hno x h; rw [List.mem_singleton.1 h]; exact hp.out.symm, er2⟩
      case measure =>
       simp [intOf]
       omega
   ·have z2 : ¬ (ix : Int) < (L3.length : Int) := by omega
    have hns : ∀ x ∈ (hse lf cs).reach, sgB x c = false := by
     obtain rfl : ix = L3.length := by omega
     rw [List.take_length] at hno
     rw [← hL3.out]
     exact hno
    clear hno
    replace hE := hE.trans (er.mono hE.size)
    replace CW := CW.below er
    replace B1 := B1.below er
    replace qc := qc.below er
    replace C3 := C3.below er
    clear er
    obtain ⟨AT, hTr, CT⟩ := crs_take (k := at_) CW.crs hatl CW.q.2.1.cap CW.q.2.1.max
    obtain ⟨AD, hDr, CD⟩ := crs_drop (k := at_) CW.crs hatl CW.q.2.1.cap CW.q.2.1.max
    replace hTr := fun U => hTr n U hat.out
    replace hDr := fun U => hDr n U hat.out
    simp only at hTr hDr
    have hTw := hTr wr
    clear hTr
    obtain ⟨B, hB⟩ : ∃ B, B = wr.heap.size := ⟨_, rfl⟩
    have o0 : wr.ownsRow B 30 24 (.slice none 0 0) 0 (crtCells []) := World.ownsRow_nil wr B 30 24
    have eB : Below B wr wr := Below.refl _ _
    have k24 := CW.pool
    simp only at k24
    replace hB := Lib.hid hB
    have hlt1 : (cs.take at_).length = at_ := by rw [List.length_take]; omega
    have hld1 : (cs.drop at_).length = cs.length - at_ := List.length_drop
    go_upto_region 11 with (at_builtin; refine wpList_append_crs rfl (.tmp 65) (.tmp 69) rfl B (.slice none 0 0) [] 0 rfl o0 AT at_ pc (cs.take at_) rfl hlt1.symm CT (by omega) (by rw [hB.out]; exact Nat.le_refl _) ?_; intro v4 w4 o4 h4)
    have e4 := h4 wr eB
    rw [Nat.zero_add, List.nil_append] at o4
    clear o0 h4 hTw k24
    have e4x : Below wr.heap.size wr w4 := by rw [← hB.out]; exact e4
    have B14 := B1.below e4x
    have hs4 : B ≤ w4.heap.size := by rw [hB.out]; exact e4x.size
    go_upto_region 12 with (first
     | ((with_reducible refine wpList_load_mid ?_ 30 (.tmp 4) ?_ gb 0 ?_ c.cells _ B14.rng Tryz.underlying30 ?_ (sz_crt _) ?_); (· rfl); (· rfl); (· rfl); (· rfl))
     | (refine wpList_build_certV rfl (.tmp 72) rfl c rfl ?_; intro gN wN hgN RN eN)
     | (at_builtin; refine wpList_append_crs rfl (.tmp 71) (.tmp 73) rfl B v4 (cs.take at_) at_ rfl (row_below o4 eN) (some ⟨gN, 0, none⟩) 1 1 [c] rfl rfl (.inr ⟨gN, 0, rfl, by simpa [crtCells] using RN⟩) (by omega) (Nat.le_trans hs4 eN.size) ?_; intro v5 w5 o5 h5))
    have e5 := h5 wr (e4.trans (eN.mono hs4))
    have e5x : Below wr.heap.size wr w5 := by rw [← hB.out]; exact e5
    have hs5 : B ≤ w5.heap.size := by rw [hB.out]; exact e5x.size
    have k24 := (CW.below e5x).pool
    simp only at k24
    have hDw := hDr w5
    clear hDr B14 e4x hs4 RN hgN eN o4 h5 e4
    go_upto_region 13 with (at_builtin; refine wpList_append_crs rfl (.tmp 75) (.tmp 79) rfl B v5 (cs.take at_ ++ [c]) (at_ + 1) rfl o5 AD (cs.length - at_) (pc - at_) (cs.drop at_) rfl hld1.symm (CD.below e5x) (by omega) hs5 ?_; intro v6 w6 o6 h6)
    have e6 := h6 wr e5
    have e6x : Below wr.heap.size wr w6 := by rw [← hB.out]; exact e6
    clear hDw k24 hs5 e5x e5 o5 h6 e6 CD CT
    replace hE := hE.trans (e6x.mono hE.size)
    replace CW := CW.below e6x
    replace qc := qc.below e6x
    replace C3 := C3.below e6x
    clear e6x eB hB B1
    have hn6 : at_ + 1 + (cs.length - at_) = (cs.take at_ ++ [c] ++ cs.drop at_).length := by rw [List.length_append, List.length_append, hlt1, hld1]; rfl
    obtain ⟨A6, c6, rfl, n6, m6, C6⟩ := own_crs hn6 o6
    clear o6
    obtain ⟨p2, hp2⟩ : ∃ p, p = cs.take at_ ++ [c] ++ cs.drop at_ := ⟨_, rfl⟩
    rw [← hp2] at C6 n6 hn6
    rw [← hp2]
    have hp3 : p2 = cs.take at_ ++ c :: cs.drop at_ := by rw [hp2]; simp
    have hp4 : cs = cs.take at_ ++ cs.drop at_ := (List.take_append_drop _ _).symm
    replace hp2 := Lib.hid hp2
    replace hp3 := Lib.hid hp3
    replace hp4 := Lib.hid hp4
    replace hn6 := Lib.hid hn6
    have P1 : PoolOk w6 lf cs := CW.may hsm (fun c hc => List.mem_cons_of_mem _ hc) (by omega)
    have P2 : PoolOk w6 lf p2 := P1.more qc.ok h7 h8 (fun x hx => by
     rw [hp3.out] at hx
     rcases List.mem_append.1 hx with h | h
     ·exact .inr (List.mem_of_mem_take h)
     ·exact (List.mem_cons.1 h).imp id fun q => List.mem_of_mem_drop q) (by have := hn6.out; omega)
    have hlk : Chn.Like (hse lf p2) (hse lf cs) := ⟨rfl, rfl, rfl⟩
    obtain ⟨r, hr⟩ : ∃ r, r = (hse lf cs).find (trB ts) := ⟨_, rfl⟩
    have hr2 : (hse lf p2).find (trB ts) = r := by rw [hr]; exact Chn.find_other hlk (Chn.lv_other hlk hp3.out hp4.out hns) _
    have hr3 : (hse lf p2).reach = L3 := by rw [hL3.out]; exact Chn.reach_other hlk hp3.out hp4.out hns
    obtain ⟨L1, hL1⟩ : ∃ L, L = r.getD [] := ⟨_, rfl⟩
    obtain ⟨b1, hb1⟩ : ∃ b, b = r.isSome := ⟨_, rfl⟩
    have okL : ∀ c ∈ L1, c ∈ lf :: cs := by rw [hL1, hr]; exact find_subD
    have lenL : L1.length ≤ 8 := by rw [hL1, hr]; exact find_lenD
    have hff := find_go P1 CW.crs (pc := pc) CW.anc
    have hfg := fun W (q : Below w6.heap.size w6 W) => find_go (P2.below q) (C6.below q) (pc := c6) (CW.below q).anc
    have hfh := fun W (q : Below w6.heap.size w6 W) => reach_go (P2.below q) (C6.below q) (pc := c6)
    unfold FndP at hff hfg
    unfold RchP at hfh
    rw [← hr, ← hL1, ← hb1] at hff
    simp only [hr2, ← hL1, ← hb1] at hfg
    simp only [hr3] at hfh
    unfold Crt.val at hff hfg hfh
    replace hr := Lib.hid hr
    replace hL1 := Lib.hid hL1
    replace hb1 := Lib.hid hb1
    replace hr2 := Lib.hid hr2
    replace hr3 := Lib.hid hr3
    have k24 := CW.pool
    simp only at k24
    go_wp2_with ((with_reducible refine wpList_load_mid ?_ 30 (.tmp 82) ?_ g0 0 ?_ lf.cells _ CW.leaf.rng Tryz.underlying30 ?_ (sz_crt _) ?_); (· rfl); (· rfl); (· rfl); (· rfl))
    refine hff.mono ?_
    rintro e7 w7 ⟨b7, A4, c4, rfl, n4, m4, C4⟩
    have b07 := b7
    replace hE := hE.trans (b7.mono hE.size)
    replace CW := CW.below b7
    replace C3 := C3.below b7
    clear hff
    go_wp2_with ((with_reducible refine wpList_load_mid ?_ 30 (.tmp 92) ?_ g0 0 ?_ lf.cells _ CW.leaf.rng Tryz.underlying30 ?_ (sz_crt _) ?_); (· rfl); (· rfl); (· rfl); (· rfl))
    refine (hfg w7 b07).mono ?_
    rintro e8 w8 ⟨b8, A5, c5, rfl, n5, m5, C5⟩
    replace hE := hE.trans (b8.mono hE.size)
    replace CW := CW.below b8
    replace C4 := C4.below b8
    replace C3 := C3.below b8
    replace b07 := b07.trans (b8.mono b07.size)
    clear hfg b7 b8
    have okA := CW.ok
    have zb : (b1 == b1) = true := by cases b1 <;> rfl
    go_wp2_with fail
    refine (same13_any C4 C5 (fun c h => okA c (okL c h)) (fun c h => okA c (okL c h)) (by omega)).mono ?_
    rintro e9 w9 ⟨rfl, b9⟩
    rw [decide_eq_true rfl]
    replace hE := hE.trans (b9.mono hE.size)
    replace CW := CW.below b9
    replace C3 := C3.below b9
    replace b07 := b07.trans (b9.mono b07.size)
    clear C4 C5 b9 okA
    go_wp2_with ((with_reducible refine wpList_load_if 30 (.tmp 109) ?_ g0 0 lf.cells _ CW.leaf.rng Tryz.underlying30 ?_ (sz_crt _) ?_ ?_ ?_); (· rfl); (· rfl); (· rfl); (· rfl))
    refine (hfh w9 b07).mono ?_
    rintro e10 w10 ⟨b10, g10, c10, rfl, n10, m10, C10⟩
    replace hE := hE.trans (b10.mono hE.size)
    replace CW := CW.below b10
    replace C3 := C3.below b10
    clear hfh b07 b10
    have okA := CW.ok
    go_wp2_with fail
    refine (same13_any (.inr ⟨g10, 0, rfl, C10⟩) (.inr ⟨g3, 0, rfl, C3⟩) (fun c h => okA c (okM c h)) (fun c h => okA c (okM c h)) (by omega)).mono ?_
    rintro e11 w11 ⟨rfl, b11⟩
    rw [decide_eq_true rfl]
    replace hE := hE.trans (b11.mono hE.size)
    clear CW C3 C10 okA b11
    go_wp2_with fail
    refine (works13_any _).mono ?_
    rintro r w' ⟨rfl, b⟩
    go_wp2_with fail
    go_ret
    exact ⟨rfl, hE.trans (b.mono hE.size)⟩
end Go.Proofs.YtchaahnhpeoomaaGreat
