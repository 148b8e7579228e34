/-
  SignerPlain: without attributes the digest that is asked for is signed itself.
-/
import Derived.Test.YtchaahnhpeoomaaGreatSgC
namespace Go.Proofs.YtchaahnhpeoomaaGreat
set_option linter.unusedVariables false
set_option linter.unusedSimpArgs false
set_option maxRecDepth 20000
open Go.RowKit

def sgplT (B : Nat) (c : Crt) (A Bs sg : Sl) : Nat → Tg
  | 0 => tv (.agg c.cells.toArray)
  | 1 => trow B 1 c.cells
  | 2 => tv A.val
  | 3 => tnew B A.xs
  | 4 => tv Bs.val
  | 5 => tnew B Bs.xs
  | 6 => tv sg.val
  | 7 => fun v W => ∃ s : Sgn, v = .agg s.cells.toArray ∧ s.issuer.xs = A.xs ∧ s.serial.xs = Bs.xs ∧ s.attrs = Sl.nil ∧ s.kind = Sl.nil ∧ s.digest = Sl.nil ∧ s.sig = sg ∧ s.ok W
  | 8 => fun v W => ∃ (s : Sgn) (g : Nat), v = .slice (some ⟨g, 0, none⟩) 1 1 ∧ Row W g 0 s.cells ∧ s.issuer.xs = A.xs ∧ s.serial.xs = Bs.xs ∧ s.attrs = Sl.nil ∧ s.kind = Sl.nil ∧ s.digest = Sl.nil ∧ s.sig = sg ∧ s.ok W
  | 9 => fun v W => ∃ (G : Sgd) (gc gs : Nat) (s : Sgn), v = .agg G.cells.toArray ∧ SMem G [c] [s] gc 0 gs 0 W ∧ s.issuer.xs = A.xs ∧ s.serial.xs = Bs.xs ∧ s.attrs = Sl.nil ∧ s.sig = sg
  | _ => tptr B (Value.agg sgd0.toArray).cells 48
set_option maxRecDepth 100000 in
set_option maxHeartbeats 3200000 in
theorem sgPlain_any (x : List Nat × List Nat × Sl × Sl) (w : World) (q : QTwo w x) : Calls Tryz.prog 12 #[.agg (CTwo x).toArray] w (Yes w) := by
  obtain ⟨one, other, A, B⟩ := x
  obtain ⟨⟨n1, l1⟩, ⟨n2, l2⟩, hA, hB⟩ := q
  simp only at n1 l1 n2 l2 hA hB
  have n1 := Lib.hid n1
  have n2 := Lib.hid n2
  obtain ⟨L, hL⟩ : ∃ L, L = CTwo (one, other, A, B) := ⟨_, rfl⟩
  rw [← hL]
  obtain ⟨w0, hw0⟩ : ∃ w0, w0 = w.alloc (.cells L.toArray 78) := ⟨_, rfl⟩
  obtain ⟨g0, hg0⟩ : ∃ g0, g0 = w.heap.size := ⟨_, rfl⟩
  have hE : Below w.heap.size w w0 := by rw [hw0]; exact (Below.refl _ _).alloc (Nat.le_refl _) _
  have C0 : Row w0 g0 0 L := by rw [hw0, hg0]; exact row_new _
  have hA := hA.below hE
  have hB := hB.below hE
  obtain ⟨P1, C0⟩ := (show Row w0 g0 0 (ints .u8 one ++ (ints .u8 other ++ [A.val, B.val])) by rw [hL] at C0; simpa [CTwo] using C0).split
  obtain ⟨P2, P3⟩ := C0.split
  rw [ints_length, n1.out] at P2 P3
  rw [ints_length, n2.out] at P3
  obtain ⟨A, ca, xa⟩ := A
  obtain ⟨B, cb, xb⟩ := B
  have HL := Lib.hid hL
  clear hL
  go_enter Tryz.func12, Tryz.ntmps12
  go_upto_region 1 with fail
  refine wp_world hw0 ?_
  rw [← hg0]
  clear hw0 hg0
  go_upto_region 2 with (first
    | (refine wpList_load_mid rfl 49 (.tmp 15) rfl g0 0 rfl (ints .u8 one) _ P1.2 Tryz.underlying49 rfl (by rw [ints_length, n1.out]; exact size_32u8) ?_)
    | (refine wpList_alloc_arr rfl 49 rfl .u8 32 zero_32u8 ?_; intro g1 wa1 hg1 (V1 : Whl .u8 49 wa1 g1 z32) z1 e1)
    | (refine wpList_store_whl rfl 49 (.tmp 3) (.tmp 16) rfl g1 .u8 _ z32 one rfl rfl V1 (by rw [n1.out]; rfl) (by exact size_32u8) ?_; intro w1 U1 hgg1 hss1))
  have b1 : Below w0.heap.size w0 w1 := below_only e1 hgg1 e1.size (by have := hg1.out; omega)
  have D1 : Row w1 g1 0 (ints .u8 one) := Row.of_cut (Cut.of_blk U1.blk)
  clear V1 z1 e1 U1 hgg1 hss1
  replace P1 := P1.below b1
  replace P2 := P2.below b1
  replace P3 := P3.below b1
  replace hA := hA.below b1
  replace hB := hB.below b1
  replace hE := hE.trans (b1.mono hE.size)
  clear b1
  go_upto_region 3 with (first
    | (refine wpList_load_mid rfl 49 (.tmp 17) rfl g0 32 rfl (ints .u8 other) _ P2.2 Tryz.underlying49 rfl (by rw [ints_length, n2.out]; exact size_32u8) ?_)
    | (refine wpList_alloc_arr rfl 49 rfl .u8 32 zero_32u8 ?_; intro g2 wa2 hg2 (V2 : Whl .u8 49 wa2 g2 z32) z2 e2)
    | (refine wpList_store_whl rfl 49 (.tmp 4) (.tmp 18) rfl g2 .u8 _ z32 other rfl rfl V2 (by rw [n2.out]; rfl) (by exact size_32u8) ?_; intro w2 U2 hgg2 hss2))
  have b2 : Below w1.heap.size w1 w2 := below_only e2 hgg2 e2.size (by have := hg2.out; omega)
  have D2 : Row w2 g2 0 (ints .u8 other) := Row.of_cut (Cut.of_blk U2.blk)
  clear V2 z2 e2 U2 hgg2 hss2
  replace P1 := P1.below b2
  replace P2 := P2.below b2
  replace P3 := P3.below b2
  replace hA := hA.below b2
  replace hB := hB.below b2
  replace D1 := D1.below b2
  replace hE := hE.trans (b2.mono hE.size)
  clear b2
  have kA : w2.cell? ⟨g0, 64, none⟩ = some (.slice A xa.length ca) := P3.at_ (i := 0) rfl rfl
  have kB : w2.cell? ⟨g0, 65, none⟩ = some (.slice B xb.length cb) := P3.at_ (i := 1) rfl rfl
  go_upto_region 5 with fail
  clear kA kB
  have hc : (1000 : Int) < (xa.length : Int) ∨ (¬ (1000 : Int) < (xa.length : Int) ∧ (1000 : Int) < (xb.length : Int)) ∨ (¬ (1000 : Int) < (xa.length : Int) ∧ ¬ (1000 : Int) < (xb.length : Int)) := by omega
  rcases hc with z | ⟨z, z'⟩ | ⟨z, z'⟩
  iterate 2
    · go_wp2_with fail
      refine (works15_any _).mono ?_
      rintro r w3 ⟨rfl, b⟩
      go_wp2_with fail
      go_ret
      exact ⟨rfl, hE.trans (b.mono hE.size)⟩
  have za : xa.length ≤ 1000 := by omega
  have zb : xb.length ≤ 1000 := by omega
  go_wp2_with (refine wpList_load_mid rfl 49 (.tmp 3) rfl g1 0 rfl (ints .u8 one) _ D1.2 Tryz.underlying49 rfl (by rw [ints_length, n1.out]; exact size_32u8) ?_)
  clear z z'
  refine (for_any one w2 n1.out l1).mono ?_
  rintro r3 w3 ⟨kA, kc, sB, sd, hr, hkc, hkm, hkO, hsd, hsm, hsO, b⟩
  replace P1 := P1.below b
  replace P2 := P2.below b
  replace P3 := P3.below b
  replace hA := hA.below b
  replace hB := hB.below b
  replace D1 := D1.below b
  replace D2 := D2.below b
  replace hE := hE.trans (b.mono hE.size)
  clear b
  have hr' : r3 = .returned (.tuple #[.agg #[.slice kA (forKey one).length kc, .int .u64 3], .slice sB (forSig one).length sd]) := by rw [hr, forKey_len, forSig_len]; rfl
  subst hr'
  have hkl := Lib.hid (forKey_len one)
  have hsl := Lib.hid (forSig_len one)
  have hkk : Sl.ok w3 ⟨kA, kc, forKey one⟩ := ⟨hkO.rd, forKey_lim one, by have := hkl.out; show (forKey one).length ≤ kc; omega, by unfold maxLen at hkm; exact hkm⟩
  have hss : Sl.ok w3 ⟨sB, sd, forSig one⟩ := ⟨hsO.rd, forSig_lim one, by have := hsl.out; show (forSig one).length ≤ sd; omega, by unfold maxLen at hsm; exact hsm⟩
  have hv : Hid (∀ ds, verB (forKey one) 3 ds (forSig one) = decide (one = ds)) := fun ds => ver_for n1.out l1
  clear hkO hsO hr
  generalize forKey one = ks at *
  generalize forSig one = sg at *
  go_upto_region 8 with fail
  obtain ⟨w4, hw4⟩ : ∃ w, w = w3.alloc (.cells #[.slice kA ks.length kc, .int .u64 3] 28) := ⟨_, rfl⟩
  obtain ⟨g4, hg4⟩ : ∃ g, g = w3.heap.size := ⟨_, rfl⟩
  have b4 : Below w3.heap.size w3 w4 := by rw [hw4]; exact (Below.refl _ _).alloc (Nat.le_refl _) _
  have D3 : Row w4 g4 0 [.slice kA ks.length kc, .int .u64 3] := by rw [hw4, hg4]; exact row_new _
  refine wp_world hw4 ?_
  rw [← hg4]
  replace hg4 := Lib.hid hg4
  clear hw4
  replace P1 := P1.below b4
  replace P2 := P2.below b4
  replace P3 := P3.below b4
  replace hA := hA.below b4
  replace hB := hB.below b4
  replace D1 := D1.below b4
  replace D2 := D2.below b4
  replace hkk := hkk.below b4
  replace hss := hss.below b4
  replace hE := hE.trans (b4.mono hE.size)
  clear b4
  obtain ⟨c, hc⟩ : ∃ c : Crt, c = { Crt.none with issuer := ⟨A, ca, xa⟩, serial := ⟨B, cb, xb⟩, key := ⟨kA, kc, ks⟩, e := 3 } := ⟨_, rfl⟩
  replace hc := Lib.hid hc
  go_upto_region 9 with (first
    | (refine wpList_load_mid rfl 28 (.tmp 7) rfl g4 0 rfl [.slice kA ks.length kc, .int .u64 3] _ D3.2 Tryz.underlying28 rfl size_key ?_)
    | (refine wpList_build_at rfl 30 _ rfl c.cells (by rw [hc.out]; kernel_rfl) ?_)
    | (refine wpList_alloc_row rfl 30 rfl Crt.none.cells (by exact zero_cert) ?_; intro g5 wa5 hg5 V5 z5 e5)
    | (refine wpList_store_cut rfl 30 (.tmp 9) (.tmp 40) rfl g5 0 c.cells _ rfl rfl V5 rfl (by exact sz_cert) (crt_one _) ?_; intro w5 hst5))
  have b5 : Below w4.heap.size w4 w5 := below_only e5 hst5.1 e5.size (by have := hg5.out; omega)
  have D4 : Row w5 g5 0 c.cells := Row.of_cut hst5.2.2.1
  clear V5 z5 e5 hst5
  replace P1 := P1.below b5
  replace P2 := P2.below b5
  replace P3 := P3.below b5
  replace hA := hA.below b5
  replace hB := hB.below b5
  replace D1 := D1.below b5
  replace D2 := D2.below b5
  replace hkk := hkk.below b5
  replace hss := hss.below b5
  replace D3 := D3.below b5
  replace hE := hE.trans (b5.mono hE.size)
  clear b5
  have hco : c.ok w5 := by rw [hc.out]; exact ⟨Sl.ok_nil _, Sl.ok_nil _, hA, Sl.ok_nil _, hB, hkk, Sl.ok_nil _, Tm.ok_none, Tm.ok_none, show (3 : Nat) < 18446744073709551616 by decide⟩
  have hck : c.key.xs.length ≤ 70000 := by rw [hc.out]; show ks.length ≤ 70000; have := hkl.out; omega
  have hd0 : Below w5.heap.size w5 w5.drew := below_drewN (Below.refl _ _) 1
  refine wp_region_last (by kernel_rfl) (fun i => if i = 10 then 10 else 41 + i) (fun i v W => Sp (sgplT w5.heap.size c ⟨A, ca, xa⟩ ⟨B, cb, xb⟩ ⟨sB, sd, sg⟩ i) v W) (fun W => Below w5.heap.size w5 W) (Nat.succ_pos _) (by kernel_rfl) (by kernel_rfl) (by kernel_rfl) ?inj ?lt (fun i v W W' h hs => h.mono hs) hd0 ⟨?s0, ?s1, ?s2, ?s3, ?s4, ?s5, ?s6, ?s7, ?s8, ?s9, ?s10, trivial⟩ ?fin
  case inj =>
    intro i j hi hj h
    have h40 : i < 11 ∧ j < 11 := ⟨hi, hj⟩
    have h : (if i = 10 then 10 else 41 + i) = (if j = 10 then 10 else 41 + j) := h
    (repeat' split at h) <;> omega
  case lt =>
    intro i hi
    have h40 : i < 11 := hi
    show (if i = 10 then 10 else 41 + i) < 81
    (repeat' split) <;> omega
  case s0 => exact st_loadR (b := g5) (off := 0) rfl rfl rfl (src_base (fun i hi => by have hi : i < 11 := hi; show (if i = 10 then 10 else 41 + i) ≠ _; (repeat' split) <;> omega) rfl) Tryz.underlying30 rfl sz_cert (fun W h => (D4.below h).2)
  case s1 => exact st_crt1 rfl rfl rfl (src_dep (j := 0) (e := ⟨0, .data⟩) (by simp) rfl rfl rfl)
  case s2 => exact st_move rfl (.inl rfl) (src_base (fun i hi => by have hi : i < 11 := hi; show (if i = 10 then 10 else 41 + i) ≠ _; (repeat' split) <;> omega) rfl)
  case s3 => exact st_call rfl (fun a W => run_call rfl cf_copy a W) (fun a W hb hd hg => by
      have h1 : a.eval (.tmp 43) = .slice A xa.length ca := (hd ⟨2, .data⟩ (by simp) rfl).now
      simp only [List.map_toArray, List.map_cons, List.map_nil, h1]
      exact (copyBytes_any A xa.length ca xa W rfl (by omega) (hA.rd.below hg)).mono fun _ _ q => (clone_gives q).sp hg.size)
  case s4 => exact st_move rfl (.inl rfl) (src_base (fun i hi => by have hi : i < 11 := hi; show (if i = 10 then 10 else 41 + i) ≠ _; (repeat' split) <;> omega) rfl)
  case s5 => exact st_call rfl (fun a W => run_call rfl cf_copy a W) (fun a W hb hd hg => by
      have h1 : a.eval (.tmp 45) = .slice B xb.length cb := (hd ⟨4, .data⟩ (by simp) rfl).now
      simp only [List.map_toArray, List.map_cons, List.map_nil, h1]
      exact (copyBytes_any B xb.length cb xb W rfl (by omega) (hB.rd.below hg)).mono fun _ _ q => (clone_gives q).sp hg.size)
  case s6 => exact st_move rfl (.inl rfl) (src_base (fun i hi => by have hi : i < 11 := hi; show (if i = 10 then 10 else 41 + i) ≠ _; (repeat' split) <;> omega) rfl)
  case s7 => exact st_build rfl rfl (fun a W hb hd hg => by
      obtain ⟨A1, c1, v1, n1', m1, r1, x1⟩ := (hd ⟨3, .data⟩ (by simp) rfl).now
      obtain ⟨A2, c2, v2, n2', m2, r2, x2⟩ := (hd ⟨5, .data⟩ (by simp) rfl).now
      have v3 : a.eval (.tmp 47) = .slice sB sg.length sd := (hd ⟨6, .data⟩ (by simp) rfl).now
      have v1 : a.eval (.tmp 44) = _ := v1
      have v2 : a.eval (.tmp 46) = _ := v2
      refine ⟨#[.slice A1 xa.length c1, .slice A2 xb.length c2, .slice none 0 0, .slice none 0 0, .slice none 0 0, .slice sB sg.length sd], ?_, fun w' hs => ⟨⟨⟨A1, c1, xa⟩, ⟨A2, c2, xb⟩, Sl.nil, Sl.nil, Sl.nil, ⟨sB, sd, sg⟩⟩, rfl, rfl, rfl, rfl, rfl, rfl, rfl, ⟨⟨r1.sub hs, hA.lim, n1', m1⟩, ⟨r2.sub hs, hB.lim, n2', m2⟩, Sl.ok_nil _, Sl.ok_nil _, Sl.ok_nil _, (hss.below hg).sub hs⟩⟩⟩
      simp only [List.map_toArray, List.map_cons, List.map_nil, v1, v2, v3]
      kernel_rfl)
  case s8 => exact st_sgr1 (T := fun _ _ _ => True) rfl rfl (fun a W hb hd hg => by
      have hs0 := hd ⟨7, .data⟩ (by simp) rfl
      obtain ⟨s, v1, q⟩ := hs0.now
      have v1 : a.eval (.tmp 48) = _ := v1
      refine ⟨s, v1, fun w' hs => ⟨s, _, rfl, (row_alloc W _ _).sub hs, q.1, q.2.1, q.2.2.1, q.2.2.2.1, q.2.2.2.2.1, q.2.2.2.2.2.1, (q.2.2.2.2.2.2.sub (sub_alloc W _)).sub hs⟩⟩)
  case s9 => exact st_build rfl rfl (fun a W hb hd hg => by
      obtain ⟨gc, v1, r1, x1⟩ := (hd ⟨1, .data⟩ (by simp) rfl).now
      obtain ⟨s, gs, v2, r2, q1, q2, q3, q4, q5, q6, q7⟩ := (hd ⟨8, .data⟩ (by simp) rfl).now
      have v1 : a.eval (.tmp 42) = _ := v1
      have v2 : a.eval (.tmp 49) = _ := v2
      refine ⟨#[.slice none 0 0, .slice none 0 0, .slice (some ⟨gc, 0, none⟩) 1 1, .slice (some ⟨gs, 0, none⟩) 1 1], ?_, fun w' hs => ⟨⟨Sl.nil, Sl.nil, some ⟨gc, 0, none⟩, 1, 1, some ⟨gs, 0, none⟩, 1, 1⟩, gc, gs, s, rfl, ?_, q1, q2, q3, q6⟩⟩
      · simp only [List.map_toArray, List.map_cons, List.map_nil, v1, v2]
        kernel_rfl
      · refine ⟨Sl.ok_nil _, Sl.ok_nil _, rfl, by simp, .inr rfl, by simpa [crtCells] using r1.sub hs, fun d hd' => ?_, fun d hd' => ?_, rfl, by simp, .inr rfl, fun i d hi => ?_, fun d hd' => ?_, fun d hd' => ?_⟩
        · rw [List.mem_singleton.1 hd']; exact (hco.below hg).sub hs
        · rw [List.mem_singleton.1 hd']; exact hck
        · rcases i with _ | i
          · have e1 : s = d := by simpa using hi
            rw [← e1]
            simpa using r2.sub hs
          · simp at hi
        · rw [List.mem_singleton.1 hd']; exact q7.sub hs
        · rw [List.mem_singleton.1 hd', q3]; decide)
  case s10 => exact st_alloc rfl rfl rfl (z := .agg sgd0.toArray) zero_sgd0 (by decide)
  case fin =>
    intro o ho' a W h1 h2 h3 h4 h5 K hK
    obtain ⟨G, gc, gs, s, hv', M, u1, u2, u3, u4⟩ := (h4 9 (by show 9 < 11; omega)).now
    obtain ⟨g6, hg6, hB6, hh6⟩ := (h4 10 (by show 10 < 11; omega)).now
    cases (Option.some.inj (show some _ = some o from ho'))
    have b10 : a.tmps.getD 10 undef = .pointer (some ⟨g6, 0, none⟩) := hg6
    have k2 : a.eval (.tmp 50) = .agg G.cells.toArray := hv'
    have C6 : Cut W g6 0 sgd0 := Cut.of_heap hh6 fun i v hv => by simpa [Value.cells] using hv
    refine step_store_cut rfl 48 (.tmp 10) (.tmp 50) rfl g6 0 _ _ b10 k2 C6 rfl sz_sgd (sgd_one _) (fun w6 hst => hK a w6 ?_)
    have hz : a.tmps.size = 81 := h2
    have hdf : a.defers = [] := h1
    have b2 := h3 2 (fun i hi => by have h8 : i < 11 := hi; show (if i = 10 then 10 else 41 + i) ≠ 2; (repeat' split) <;> omega)
    replace b2 : a.tmps.getD 2 undef = .bool false := b2
    have b3 := h3 3 (fun i hi => by have h8 : i < 11 := hi; show (if i = 10 then 10 else 41 + i) ≠ 3; (repeat' split) <;> omega)
    replace b3 : a.tmps.getD 3 undef = .pointer (some ⟨g1, 0, none⟩) := b3
    have b4 := h3 4 (fun i hi => by have h8 : i < 11 := hi; show (if i = 10 then 10 else 41 + i) ≠ 4; (repeat' split) <;> omega)
    replace b4 : a.tmps.getD 4 undef = .pointer (some ⟨g2, 0, none⟩) := b4
    have b5 := h3 5 (fun i hi => by have h8 : i < 11 := hi; show (if i = 10 then 10 else 41 + i) ≠ 5; (repeat' split) <;> omega)
    replace b5 : a.tmps.getD 5 undef = .slice A xa.length ca := b5
    have b6 := h3 6 (fun i hi => by have h8 : i < 11 := hi; show (if i = 10 then 10 else 41 + i) ≠ 6; (repeat' split) <;> omega)
    replace b6 : a.tmps.getD 6 undef = .slice B xb.length cb := b6
    have b9 := h3 9 (fun i hi => by have h8 : i < 11 := hi; show (if i = 10 then 10 else 41 + i) ≠ 9; (repeat' split) <;> omega)
    replace b9 : a.tmps.getD 9 undef = .pointer (some ⟨g5, 0, none⟩) := b9
    rw [act_eq hz hdf]
    simp only [show List.range 81 = [0, 1, 2, 3, 4, 5, 6, 7, 8, 9, 10, 11, 12, 13, 14, 15, 16, 17, 18, 19, 20, 21, 22, 23, 24, 25, 26, 27, 28, 29, 30, 31, 32, 33, 34, 35, 36, 37, 38, 39, 40, 41, 42, 43, 44, 45, 46, 47, 48, 49, 50, 51, 52, 53, 54, 55, 56, 57, 58, 59, 60, 61, 62, 63, 64, 65, 66, 67, 68, 69, 70, 71, 72, 73, 74, 75, 76, 77, 78, 79, 80] from rfl, List.map_cons, List.map_nil, b2, b3, b4, b5, b6, b9, b10]
    clear b2 b3 b4 b5 b6 b9 b10 hz hdf h1 h2 h3 h4
    have b : Below w5.heap.size w5 w6 := below_only h5 hst.1 h5.size (by omega)
    have D6 : Row w6 g6 0 G.cells := Row.of_cut hst.2.2.1
    have M := M.grownS hh6 hst.1 (hco.below b)
    clear C6 k2 hst hh6 hg6 hv' hB6 h5 hK ho'
    replace P1 := P1.below b
    replace P2 := P2.below b
    replace P3 := P3.below b
    replace hA := hA.below b
    replace hB := hB.below b
    replace D1 := D1.below b
    replace D2 := D2.below b
    replace hkk := hkk.below b
    replace hss := hss.below b
    replace D3 := D3.below b
    replace D4 := D4.below b
    replace hco := hco.below b
    replace hE := hE.trans (b.mono hE.size)
    clear b
    have hyes : ∀ ds, rightAt [c] [s] 0 xa ds = if decide (one = ds) = true then some c else none := by
      intro ds
      have hf : fitsB s c = true := by rw [hc.out]; unfold fitsB; rw [show s.issuer.xs = xa from u1, show s.serial.xs = xb from u2]; simp
      have hy : sgYes s xa ds c = decide (one = ds) := by
        unfold sgYes
        rw [u3, u4, hc.out]
        simpa [Sl.nil] using hv.out ds
      unfold rightAt rightOf
      simp [hf, Option.filter, hy]
    have hyes2 : ∀ ds, rightAt [c] [s] 0 xb ds = if decide (one = ds) = true then some c else none := by
      intro ds
      have hf : fitsB s c = true := by rw [hc.out]; unfold fitsB; rw [show s.issuer.xs = xa from u1, show s.serial.xs = xb from u2]; simp
      have hy : sgYes s xb ds c = decide (one = ds) := by
        unfold sgYes
        rw [u3, u4, hc.out]
        simpa [Sl.nil] using hv.out ds
      unfold rightAt rightOf
      simp [hf, Option.filter, hy]
    have Q1 := right_mem M 0 (by omega) ⟨A, ca, xa⟩ hA one n1.out l1
    have Q2 := fun (W : World) (m1 : SMem G [c] [s] gc 0 gs 0 W) (m2 : Sl.ok W ⟨B, cb, xb⟩) => right_mem m1 0 (by omega) ⟨B, cb, xb⟩ m2 other n2.out l2
    rw [show rightAt [c] [s] 0 (Sl.mk A ca xa).xs one = some c from by rw [hyes]; simp] at Q1
    obtain ⟨o2, ho2⟩ : ∃ o2, o2 = rightAt [c] [s] 0 (Sl.mk B cb xb).xs other := ⟨_, rfl⟩
    rw [← ho2] at Q2
    have hs2 : o2.isSome = decide (one = other) := by rw [ho2, hyes2]; split <;> simp_all
    clear ho2 hyes hyes2
    go_wp2_with (first
      | (refine wpList_load_mid rfl 48 (.tmp 10) rfl g6 0 rfl G.cells _ D6.2 Tryz.underlying48 rfl sz_sgd ?_)
      | (refine wpList_load_mid rfl 49 (.tmp 3) rfl g1 0 rfl (ints .u8 one) _ D1.2 Tryz.underlying49 rfl (by rw [ints_length, n1.out]; exact size_32u8) ?_))
    refine (Q1).mono ?_
    rintro r7 w7 ⟨rfl, b⟩
    replace P1 := P1.below b
    replace P2 := P2.below b
    replace P3 := P3.below b
    replace hA := hA.below b
    replace hB := hB.below b
    replace D1 := D1.below b
    replace D2 := D2.below b
    replace hkk := hkk.below b
    replace hss := hss.below b
    replace D3 := D3.below b
    replace D4 := D4.below b
    replace hco := hco.below b
    replace D6 := D6.below b
    replace M := M.below b
    replace hE := hE.trans (b.mono hE.size)
    clear b
    clear Q1
    go_upto_region 11 with (first
      | (refine wpList_alloc_row rfl 30 rfl Crt.none.cells (by exact zero_cert) ?_; intro g8 wa8 hg8 V8 z8 e8)
      | (refine wpList_store_cut rfl 30 (.tmp 11) (.tmp 56) rfl g8 0 c.cells _ rfl rfl V8 rfl (by exact sz_cert) (crt_one _) ?_; intro w8 hst8))
    have b8 : Below w7.heap.size w7 w8 := below_only e8 hst8.1 e8.size (by have := hg8.out; omega)
    have D7 : Row w8 g8 0 c.cells := Row.of_cut hst8.2.2.1
    clear V8 z8 e8 hst8
    replace P1 := P1.below b8
    replace P2 := P2.below b8
    replace P3 := P3.below b8
    replace hA := hA.below b8
    replace hB := hB.below b8
    replace D1 := D1.below b8
    replace D2 := D2.below b8
    replace hkk := hkk.below b8
    replace hss := hss.below b8
    replace D3 := D3.below b8
    replace D4 := D4.below b8
    replace hco := hco.below b8
    replace D6 := D6.below b8
    replace M := M.below b8
    replace hE := hE.trans (b8.mono hE.size)
    clear b8
    go_wp2_with (first
      | (refine wpList_load_mid rfl 48 (.tmp 10) rfl g6 0 rfl G.cells _ D6.2 Tryz.underlying48 rfl sz_sgd ?_)
      | (refine wpList_load_mid rfl 49 (.tmp 4) rfl g2 0 rfl (ints .u8 other) _ D2.2 Tryz.underlying49 rfl (by rw [ints_length, n2.out]; exact size_32u8) ?_))
    replace Q2 := Q2 w8 M hB
    refine (Q2).mono ?_
    rintro r9 w9 ⟨rfl, b⟩
    replace P1 := P1.below b
    replace P2 := P2.below b
    replace P3 := P3.below b
    replace hA := hA.below b
    replace hB := hB.below b
    replace D1 := D1.below b
    replace D2 := D2.below b
    replace hkk := hkk.below b
    replace hss := hss.below b
    replace D3 := D3.below b
    replace D4 := D4.below b
    replace hco := hco.below b
    replace D6 := D6.below b
    replace M := M.below b
    replace D7 := D7.below b
    replace hE := hE.trans (b.mono hE.size)
    clear b
    clear Q2
    have gD7 := g8
    go_upto_region 12 with (first
      | (refine wpList_alloc_row rfl 30 rfl Crt.none.cells (by exact zero_cert) ?_; intro g10 wa10 hg10 V10 z10 e10)
      | (refine wpList_store_cut rfl 30 (.tmp 13) (.tmp 63) rfl g10 0 (o2.getD Crt.none).cells _ rfl rfl V10 rfl (by exact sz_cert) (crt_one _) ?_; intro w10 hst10))
    have b10 : Below w9.heap.size w9 w10 := below_only e10 hst10.1 e10.size (by have := hg10.out; omega)
    have D8 : Row w10 g10 0 (o2.getD Crt.none).cells := Row.of_cut hst10.2.2.1
    clear V10 z10 e10 hst10
    replace P1 := P1.below b10
    replace P2 := P2.below b10
    replace P3 := P3.below b10
    replace hA := hA.below b10
    replace hB := hB.below b10
    replace D1 := D1.below b10
    replace D2 := D2.below b10
    replace hkk := hkk.below b10
    replace hss := hss.below b10
    replace D3 := D3.below b10
    replace D4 := D4.below b10
    replace hco := hco.below b10
    replace D6 := D6.below b10
    replace M := M.below b10
    replace D7 := D7.below b10
    replace hE := hE.trans (b10.mono hE.size)
    clear b10
    have y4 := D4.2
    have y7 := D7.2
    have y1 := D1.2
    have y2 := D2.2
    go_wp2_with (first
      | ((with_reducible refine wpList_load_if 30 (.tmp 9) ?_ g5 0 c.cells _ y4 Tryz.underlying30 ?_ (sz_crt _) ?_ ?_ ?_); (· rfl); (· rfl); (· rfl); (· rfl))
      | ((with_reducible refine wpList_load_if 30 (.tmp 11) ?_ g8 0 c.cells _ y7 Tryz.underlying30 ?_ (sz_crt _) ?_ ?_ ?_); (· rfl); (· rfl); (· rfl); (· rfl))
      | ((with_reducible refine wpList_load_if 49 (.tmp 3) ?_ g1 0 (ints .u8 one) _ y1 Tryz.underlying49 ?_ (sz_arr n1) ?_ ?_ ?_); (· rfl); (· rfl); (· rfl); (· rfl))
      | ((with_reducible refine wpList_load_if 49 (.tmp 4) ?_ g2 0 (ints .u8 other) _ y2 Tryz.underlying49 ?_ (sz_arr n2) ?_ ?_ ?_); (· rfl); (· rfl); (· rfl); (· rfl))
      | ((with_reducible refine wpList_eql_arr (.tmp 73) (.tmp 74) ?_ other one n2.out n1.out ?_ ?_ ?_ ?_); (· rfl); (· rfl); (· rfl); (· rfl)))
    refine (sameC_any c c w10 hco hco).mono ?_
    rintro r11 w11 ⟨rfl, b⟩
    replace P1 := P1.below b
    replace P2 := P2.below b
    replace P3 := P3.below b
    replace hA := hA.below b
    replace hB := hB.below b
    replace D1 := D1.below b
    replace D2 := D2.below b
    replace hkk := hkk.below b
    replace hss := hss.below b
    replace D3 := D3.below b
    replace D4 := D4.below b
    replace hco := hco.below b
    replace D6 := D6.below b
    replace M := M.below b
    replace D7 := D7.below b
    replace D8 := D8.below b
    replace hE := hE.trans (b.mono hE.size)
    clear b
    clear y1 y2 y4 y7
    have y4 := D4.2
    have y7 := D7.2
    have y1 := D1.2
    have y2 := D2.2
    simp only [decide_true]
    by_cases heq : one = other
    · have q1 := decide_eq_true heq
      have q2 := decide_eq_true heq.symm
      clear heq
      go_wp2_with (first
        | ((with_reducible refine wpList_load_if 30 (.tmp 9) ?_ g5 0 c.cells _ y4 Tryz.underlying30 ?_ (sz_crt _) ?_ ?_ ?_); (· rfl); (· rfl); (· rfl); (· rfl))
        | ((with_reducible refine wpList_load_if 30 (.tmp 11) ?_ g8 0 c.cells _ y7 Tryz.underlying30 ?_ (sz_crt _) ?_ ?_ ?_); (· rfl); (· rfl); (· rfl); (· rfl))
        | ((with_reducible refine wpList_load_if 49 (.tmp 3) ?_ g1 0 (ints .u8 one) _ y1 Tryz.underlying49 ?_ (sz_arr n1) ?_ ?_ ?_); (· rfl); (· rfl); (· rfl); (· rfl))
        | ((with_reducible refine wpList_load_if 49 (.tmp 4) ?_ g2 0 (ints .u8 other) _ y2 Tryz.underlying49 ?_ (sz_arr n2) ?_ ?_ ?_); (· rfl); (· rfl); (· rfl); (· rfl))
        | ((with_reducible refine wpList_eql_arr (.tmp 73) (.tmp 74) ?_ other one n2.out n1.out ?_ ?_ ?_ ?_); (· rfl); (· rfl); (· rfl); (· rfl)))
      refine (works15_any _).mono ?_
      rintro r w' ⟨rfl, b⟩
      go_wp2_with fail
      go_ret
      exact ⟨rfl, hE.trans (b.mono hE.size)⟩
    · have heq2 : ¬ other = one := fun h => heq h.symm
      have q1 := decide_eq_false heq
      have q2 := decide_eq_false heq2
      clear heq heq2
      go_wp2_with (first
        | ((with_reducible refine wpList_load_if 30 (.tmp 9) ?_ g5 0 c.cells _ y4 Tryz.underlying30 ?_ (sz_crt _) ?_ ?_ ?_); (· rfl); (· rfl); (· rfl); (· rfl))
        | ((with_reducible refine wpList_load_if 30 (.tmp 11) ?_ g8 0 c.cells _ y7 Tryz.underlying30 ?_ (sz_crt _) ?_ ?_ ?_); (· rfl); (· rfl); (· rfl); (· rfl))
        | ((with_reducible refine wpList_load_if 49 (.tmp 3) ?_ g1 0 (ints .u8 one) _ y1 Tryz.underlying49 ?_ (sz_arr n1) ?_ ?_ ?_); (· rfl); (· rfl); (· rfl); (· rfl))
        | ((with_reducible refine wpList_load_if 49 (.tmp 4) ?_ g2 0 (ints .u8 other) _ y2 Tryz.underlying49 ?_ (sz_arr n2) ?_ ?_ ?_); (· rfl); (· rfl); (· rfl); (· rfl))
        | ((with_reducible refine wpList_eql_arr (.tmp 73) (.tmp 74) ?_ other one n2.out n1.out ?_ ?_ ?_ ?_); (· rfl); (· rfl); (· rfl); (· rfl)))
      refine (works15_any _).mono ?_
      rintro r w' ⟨rfl, b⟩
      go_wp2_with fail
      go_ret
      exact ⟨rfl, hE.trans (b.mono hE.size)⟩
end Go.Proofs.YtchaahnhpeoomaaGreat
