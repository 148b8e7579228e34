/-
  The reference's words behind a block (block).
-/
import Derived.Test.YtmbkehmgpcmicaaShaW
import Derived.Test.YtmbkehmgpcmicaaShaE
namespace Go.Proofs.Ytmbkehmgpcmicaa
set_option linter.unusedVariables false
set_option linter.unusedSimpArgs false
open Go.RowKit

theorem blk_of_row {k : IntKind} {w : World} {B n : Nat} {e : TypeId} {v : Value} {xs : List Nat} (h : w.ownsRow B e 1 v n (ints k xs)) (hn : 0 < n) :
    ∃ g cap, v = .slice (some ⟨g, 0, none⟩) n cap ∧ B ≤ g ∧ n ≤ cap ∧ cap ≤ maxLen ∧ Blk k w g xs := by
  rcases h.2 with ⟨_, h0⟩ | ⟨g, cap, cur, rfl, hB, hg, hc, hmx, _, htk⟩
  · omega
  · refine ⟨g, cap, rfl, hB, hc, hmx, Blk.of_heap hg fun i x hx => ?_⟩
    have h5 := ints_get (k := k) hx
    rw [← htk, List.getElem?_take] at h5
    split at h5
    · simpa using h5
    · cases h5
set_option maxRecDepth 100000 in
set_option maxHeartbeats 3200000 in
theorem refBlock_any (A1 A2 A3 : Option Addr) (c1 c2 c3 : Nat) (hv b : List Nat) (w : World) (hH : Rd .u32 w A1 hv) (hK : Rd .u32 w A2 K64) (hb : Rd .u8 w A3 b) (h8 : hv.length = 8) (lh : Lim 4294967296 hv) (hl : b.length = 64) (lb : Lim 256 b) :
    Calls Try.prog 25 #[.slice A1 8 c1, .slice A2 64 c2, .slice A3 64 c3] w (Gives .u32 (compress hv b) w) := by
  obtain ⟨ws, hws⟩ : ∃ ws, ws = sched b 48 := ⟨_, rfl⟩
  have hwl := Lib.hid (show ws.length = 64 by rw [hws, sched_length])
  have HWS := Lib.hid hws
  have H8 := Lib.hid h8
  have hsc : Calls Try.prog 31 #[.slice A3 64 c3] w (Gives .u32 ws w) := by rw [hws]; exact refSched_any A3 c3 b w hb hl lb
  have hH0 := hH
  obtain ⟨b1, o1, rfl, hb1, hc1⟩ : ∃ bb o, A1 = some ⟨bb, o, none⟩ ∧ bb < w.heap.size ∧ ∀ (i x : Nat), hv[i]? = some x → w.cell? ⟨bb, o + i, none⟩ = some (.int .u32 (x : Int)) := by
    obtain ⟨x, hx⟩ := get_of_lt (xs := hv) (i := 0) (by omega)
    exact hH.pos hx
  obtain ⟨b2, o2, rfl, hb2, hc2⟩ : ∃ bb o, A2 = some ⟨bb, o, none⟩ ∧ bb < w.heap.size ∧ ∀ (i x : Nat), K64[i]? = some x → w.cell? ⟨bb, o + i, none⟩ = some (.int .u32 (x : Int)) := by
    obtain ⟨x, hx⟩ := get_of_lt (xs := K64) (i := 0) (by rw [K64_length]; omega)
    exact hK.pos hx
  have HC1 := Lib.hid hc1
  have HC2 := Lib.hid hc2
  clear hl hws h8 hb hH hK hc1 hc2
  go_enter Try.func25, Try.ntmps25
  go_wp2_with fail
  refine hsc.mono ?_
  rintro e w1 ⟨A4, c4, rfl, h64, hcm, hO, hbw1⟩
  rw [hwl.out] at h64 ⊢
  have hH1 := hH0.below hbw1
  obtain ⟨b4, o4, rfl, hb4, hc4⟩ : ∃ bb o, A4 = some ⟨bb, o, none⟩ ∧ bb < w1.heap.size ∧ ∀ (i x : Nat), ws[i]? = some x → w1.cell? ⟨bb, o + i, none⟩ = some (.int .u32 (x : Int)) := by
    obtain ⟨x, hx⟩ := get_of_lt (xs := ws) (i := 0) (by rw [hwl.out]; omega)
    exact hO.rd.pos hx
  have HC4 := Lib.hid hc4
  clear hO hc4 h64 hcm hH0
  go_wp2_with (at_builtin; refine wpList_append_ints _ rfl (.tmp 17) (.tmp 18) _ rfl w1.heap.size 32 .u32 4 Try.underlying51 info_u32 (.slice none 0 0) 0 [] rfl (World.ownsRow_nil _ _ _ _) _ 8 c1 hv rfl H8.out.symm hH1 (by simp only [maxLen]; omega) (by omega) (Nat.le_refl _) ?_; intro v5 w5 hown5 hgrow5 _)
  have hb5 : Below w1.heap.size w1 w5 := (Below.refl _ _).grown hgrow5 (Nat.le_refl _) (fun k hk => by cases hk)
  obtain ⟨g5, c5, rfl, hg5, hc5, hm5, hk5⟩ := blk_of_row hown5 (by omega)
  simp only [List.nil_append, Nat.zero_add] at hk5 hc5 ⊢
  clear hown5 hgrow5 hH1
  go_wp2_with fail
  go_loopw [8, 9] (fun v s wr => ∃ (t gv cv : Nat), v = .slice (some ⟨gv, 0, none⟩) 8 cv ∧ s = .int .i64 (t : Int) ∧ t ≤ 64 ∧ 8 ≤ cv ∧ Blk .u32 wr gv (rounds8 hv K64 ws t) ∧ Below w1.heap.size w1 wr) (fun _ s _ => 64 - (intOf s).toNat)
  case atStart => exact ⟨0, g5, c5, rfl, rfl, by omega, hc5, hk5, hb5⟩
  case round =>
    clear hk5 hb5
    obtain ⟨t, gv, cv, rfl, rfl, ht, hcv, hw6, hbx⟩ := hrel
    by_cases hlt : t < 64
    · obtain ⟨a, b1', c1', d, e, f, g, h, hV, la, lb1, lc1, ld, le, lf, lg, lh1⟩ := rounds8_form hv K64 ws t H8.out lh
      obtain ⟨k, hk⟩ : ∃ k, k = K64.getD t 0 := ⟨_, rfl⟩
      obtain ⟨x, hx⟩ : ∃ x, x = ws.getD t 0 := ⟨_, rfl⟩
      have hstep := Lib.hid (show rounds8 hv K64 ws (t + 1) = [addw (oneW h e f g k x) (twoW a b1' c1'), a, b1', c1', addw d (oneW h e f g k x), e, f, g] by rw [rounds8, hV, hk, hx]; rfl)
      rw [hV] at hw6
      have HV := Lib.hid hV
      have q0 := hw6.cell (i := 0) rfl
      have q1 := hw6.cell (i := 1) rfl
      have q2 := hw6.cell (i := 2) rfl
      have q3 := hw6.cell (i := 3) rfl
      have q4 := hw6.cell (i := 4) rfl
      have q5 := hw6.cell (i := 5) rfl
      have q6 := hw6.cell (i := 6) rfl
      have q7 := hw6.cell (i := 7) rfl
      have qx := (hbx.cell (p := ⟨b4, o4 + t, none⟩) hb4).trans (HC4.out t x (by rw [hx, List.getD_eq_getElem?_getD, List.getElem?_eq_getElem (by rw [hwl.out]; exact hlt)]; rfl))
      have hbw : Below w.heap.size w wr := hbw1.trans (hbx.mono hbw1.size)
      have qk := (hbw.cell (p := ⟨b2, o2 + t, none⟩) hb2).trans (HC2.out t k (by rw [hk, List.getD_eq_getElem?_getD, List.getElem?_eq_getElem (by rw [K64_length]; exact hlt)]; rfl))
      have hkl : k < 4294967296 := by rw [hk]; exact getD_lt (by decide) K64_lim t
      clear hk hx hV hbw
      have hsg : IntKind.u32.signed = false := rfl
      have f1 : bits .xor .u32 ((rotr e 6 : Nat) : Int) ((rotr e 11 : Nat) : Int) = ((rotr e 6 ^^^ rotr e 11 : Nat) : Int) := u32_xor_nat _ _ (rotr_lt _ _ le) (rotr_lt _ _ le)
      have f2 : bits .xor .u32 ((rotr e 6 ^^^ rotr e 11 : Nat) : Int) ((rotr e 25 : Nat) : Int) = ((Sig1 e : Nat) : Int) := u32_xor_nat _ _ (xor_lt (rotr_lt _ _ le) (rotr_lt _ _ le)) (rotr_lt _ _ le)
      have f3 := wrap_add h (Sig1 e)
      have f4 := u32_and_nat e f le lf
      have f5 := not_cast e le
      have f6 := u32_and_nat (4294967295 ^^^ e) g (xor_lt (by decide) le) lg
      have f7 : bits .xor .u32 ((e &&& f : Nat) : Int) (((4294967295 ^^^ e) &&& g : Nat) : Int) = ((chw e f g : Nat) : Int) := u32_xor_nat _ _ (and_lt le f) (and_lt (xor_lt (by decide) le) g)
      have f8 := wrap_add (addw h (Sig1 e)) (chw e f g)
      have f9 := wrap_add (addw (addw h (Sig1 e)) (chw e f g)) k
      have f10 : IntKind.u32.wrap (((addw (addw (addw h (Sig1 e)) (chw e f g)) k : Nat) : Int) + (x : Int)) = ((oneW h e f g k x : Nat) : Int) := wrap_add _ _
      go_wp2_with fail
      go_quiet (first
        | ((go_at_call 32; with_reducible exact Calls.quiet_of_same (still_of (refRight_6 e _ le))))
        | ((go_at_call 32; with_reducible exact Calls.quiet_of_same (still_of (refRight_11 e _ le))))
        | ((go_at_call 32; with_reducible exact Calls.quiet_of_same (still_of (refRight_25 e _ le)))))
      replace q0 : (wr.drewN nq).cell? ⟨gv, 0, none⟩ = some (.int .u32 (a : Int)) := q0
      replace q1 : (wr.drewN nq).cell? ⟨gv, 1, none⟩ = some (.int .u32 (b1' : Int)) := q1
      replace q2 : (wr.drewN nq).cell? ⟨gv, 2, none⟩ = some (.int .u32 (c1' : Int)) := q2
      replace q3 : (wr.drewN nq).cell? ⟨gv, 3, none⟩ = some (.int .u32 (d : Int)) := q3
      replace q4 : (wr.drewN nq).cell? ⟨gv, 4, none⟩ = some (.int .u32 (e : Int)) := q4
      replace q5 : (wr.drewN nq).cell? ⟨gv, 5, none⟩ = some (.int .u32 (f : Int)) := q5
      replace q6 : (wr.drewN nq).cell? ⟨gv, 6, none⟩ = some (.int .u32 (g : Int)) := q6
      replace q7 : (wr.drewN nq).cell? ⟨gv, 7, none⟩ = some (.int .u32 (h : Int)) := q7
      replace hw6 : Blk .u32 (wr.drewN nq) gv [a, b1', c1', d, e, f, g, h] := hw6
      replace hbx : Below w1.heap.size w1 (wr.drewN nq) := below_drewN hbx nq
      clear qx qk
      generalize wr.drewN nq = wr at *
      clear f1 f2 f3 f4 f5 f6 f7 f8 f9 f10
      have f1 : bits .xor .u32 ((rotr a 2 : Nat) : Int) ((rotr a 13 : Nat) : Int) = ((rotr a 2 ^^^ rotr a 13 : Nat) : Int) := u32_xor_nat _ _ (rotr_lt _ _ la) (rotr_lt _ _ la)
      have f2 : bits .xor .u32 ((rotr a 2 ^^^ rotr a 13 : Nat) : Int) ((rotr a 22 : Nat) : Int) = ((Sig0 a : Nat) : Int) := u32_xor_nat _ _ (xor_lt (rotr_lt _ _ la) (rotr_lt _ _ la)) (rotr_lt _ _ la)
      have f3 := u32_and_nat a b1' la lb1
      have f4 := u32_and_nat a c1' la lc1
      have f5 := u32_and_nat b1' c1' lb1 lc1
      have f6 := u32_xor_nat (a &&& b1') (a &&& c1') (and_lt la _) (and_lt la _)
      have f7 : bits .xor .u32 (((a &&& b1') ^^^ (a &&& c1') : Nat) : Int) ((b1' &&& c1' : Nat) : Int) = ((maj a b1' c1' : Nat) : Int) := u32_xor_nat _ _ (xor_lt (and_lt la _) (and_lt la _)) (and_lt lb1 _)
      have f8 : IntKind.u32.wrap (((Sig0 a : Nat) : Int) + ((maj a b1' c1' : Nat) : Int)) = ((twoW a b1' c1' : Nat) : Int) := wrap_add _ _
      go_wp2_with fail
      go_quiet (first
        | ((go_at_call 32; with_reducible exact Calls.quiet_of_same (still_of (refRight_2 a _ la))))
        | ((go_at_call 32; with_reducible exact Calls.quiet_of_same (still_of (refRight_13 a _ la))))
        | ((go_at_call 32; with_reducible exact Calls.quiet_of_same (still_of (refRight_22 a _ la)))))
      replace q0 : (wr.drewN nq).cell? ⟨gv, 0, none⟩ = some (.int .u32 (a : Int)) := q0
      replace q1 : (wr.drewN nq).cell? ⟨gv, 1, none⟩ = some (.int .u32 (b1' : Int)) := q1
      replace q2 : (wr.drewN nq).cell? ⟨gv, 2, none⟩ = some (.int .u32 (c1' : Int)) := q2
      replace q3 : (wr.drewN nq).cell? ⟨gv, 3, none⟩ = some (.int .u32 (d : Int)) := q3
      replace q4 : (wr.drewN nq).cell? ⟨gv, 4, none⟩ = some (.int .u32 (e : Int)) := q4
      replace q5 : (wr.drewN nq).cell? ⟨gv, 5, none⟩ = some (.int .u32 (f : Int)) := q5
      replace q6 : (wr.drewN nq).cell? ⟨gv, 6, none⟩ = some (.int .u32 (g : Int)) := q6
      replace q7 : (wr.drewN nq).cell? ⟨gv, 7, none⟩ = some (.int .u32 (h : Int)) := q7
      replace hw6 : Blk .u32 (wr.drewN nq) gv [a, b1', c1', d, e, f, g, h] := hw6
      replace hbx : Below w1.heap.size w1 (wr.drewN nq) := below_drewN hbx nq
      generalize wr.drewN nq = wr at *
      clear f1 f2 f3 f4 f5 f6 f7 f8
      have f1 := wrap_add (oneW h e f g k x) (twoW a b1' c1')
      have f2 := wrap_add d (oneW h e f g k x)
      go_wp2_with fail
      refine wp_region_still_tail 26 (by kernel_rfl) (by kernel_rfl) ?_
      simp only [List.take_succ_cons, List.take_zero, List.drop_succ_cons, List.drop_zero]
      show wpStill Try.prog _ wr.drew (fun a' => wpList Try.prog _ _ _ a' wr.drew) _ _
      replace q0 : wr.drew.cell? ⟨gv, 0, none⟩ = some (.int .u32 (a : Int)) := q0
      replace q1 : wr.drew.cell? ⟨gv, 1, none⟩ = some (.int .u32 (b1' : Int)) := q1
      replace q2 : wr.drew.cell? ⟨gv, 2, none⟩ = some (.int .u32 (c1' : Int)) := q2
      replace q3 : wr.drew.cell? ⟨gv, 3, none⟩ = some (.int .u32 (d : Int)) := q3
      replace q4 : wr.drew.cell? ⟨gv, 4, none⟩ = some (.int .u32 (e : Int)) := q4
      replace q5 : wr.drew.cell? ⟨gv, 5, none⟩ = some (.int .u32 (f : Int)) := q5
      replace q6 : wr.drew.cell? ⟨gv, 6, none⟩ = some (.int .u32 (g : Int)) := q6
      replace q7 : wr.drew.cell? ⟨gv, 7, none⟩ = some (.int .u32 (h : Int)) := q7
      replace hbx : Below w1.heap.size w1 wr.drew := below_drewN hbx 1
      clear hw6
      generalize wr.drew = wz at *
      iterate 26 still_step
      refine wpStill_nil ?_
      clear f1 f2
      have hnew := Lib.hid (blk_lit (k := .u32) (t := 32) wz [addw (oneW h e f g k x) (twoW a b1' c1'), a, b1', c1', addw d (oneW h e f g k x), e, f, g] _ rfl)
      clear q0 q1 q2 q3 q4 q5 q6 q7
      go_wp2_with fail
      go_roundw
      case rel => exact ⟨t + 1, wz.heap.size, 8, rfl, by go_num, by omega, by omega, by rw [hstep.out]; exact hnew.out, hbx.alloc hbx.size _⟩
      case measure => simp [intOf]; omega
    · have h64 : t = 64 := by omega
      rw [h64] at hw6
      have hge : ((t : Int) < 64) = False := by simp; omega
      obtain ⟨V, hV⟩ : ∃ V, V = rounds8 hv K64 ws 64 := ⟨_, rfl⟩
      have hVl := Lib.hid (show V.length = 8 by rw [hV]; exact (rounds8_ok hv K64 ws 64 H8.out lh).1)
      have hVb : Lim 4294967296 V := by rw [hV]; exact (rounds8_ok hv K64 ws 64 H8.out lh).2
      have HV := Lib.hid hV
      rw [← hV] at hw6
      have hbw : Below w.heap.size w wr := hbw1.trans (hbx.mono hbw1.size)
      clear h64 hV
      obtain ⟨t64, rfl⟩ : ∃ j, j = t := ⟨_, rfl⟩
      go_wp2_with (at_make; refine wpList_make_ints _ rfl _ _ _ rfl .u32 32 4 Try.underlying51 info_u32 _ _ 8 _ _ rfl rfl (by omega) (by omega) (by omega) (by omega) ?_; intro g w2 hg hw2 hs2 hb2)
      have hgl : wr.heap.size ≤ g := by rw [hg.out]; exact Nat.le_refl _
      have hgl' : w.heap.size ≤ g := Nat.le_trans hbw.size hgl
      have hbw2 := hbw.trans (hb2.mono hbw.size)
      have hgv : gv ≠ g := by have := hw6.lt; omega
      have hw62 := hw6.below hb2
      have hout : Blk .u32 w2 g (pad 8 (outs hv V 0)) := hw2.blk
      clear hw6 hw2 hbx hbw hb2 hs2
      go_wp2_with fail
      go_loopw [14] (fun s wr => ∃ i : Nat, s = .int .i64 (i : Int) ∧ i ≤ 8 ∧ Blk .u32 wr gv V ∧ Blk .u32 wr g (pad 8 (outs hv V i)) ∧ Below w.heap.size w wr) (fun s _ => 8 - (intOf s).toNat)
      case atStart => exact ⟨0, rfl, by omega, hw62, hout, hbw2⟩
      case round =>
        clear hw62 hout hbw2
        obtain ⟨i, rfl, hi, hw6, hw4', hbw⟩ := hrel
        by_cases hlt8 : i < 8
        · obtain ⟨a, hga⟩ := get_of_lt (xs := hv) (i := i) (by rw [H8.out]; exact hlt8)
          obtain ⟨v, hgv2⟩ := get_of_lt (xs := V) (i := i) (by rw [hVl.out]; exact hlt8)
          have HS := Lib.hid (show outs hv V (i + 1) = outs hv V i ++ [addw a v] by rw [outs_succ, List.getD_eq_getElem?_getD, hga, List.getD_eq_getElem?_getD, hgv2]; rfl)
          have q1 := (hbw.cell (p := ⟨b1, o1 + i, none⟩) hb1).trans (HC1.out i a hga)
          have q2 := hw6.cell hgv2
          have hpl : (outs hv V i).length < 8 := by rw [outs_length]; exact hlt8
          have hat := pad_at hpl
          rw [outs_length] at hat
          have hat' := Lib.hid hat
          have q3 := hw4'.cell hat
          have q4 := hw4'.frozen hat
          have f1 := wrap_add a v
          clear hga hgv2 hat hpl
          go_wp2_with fail
          refine wp_region_still_tail 12 (by kernel_rfl) (by kernel_rfl) ?_
          simp only [List.take_succ_cons, List.take_zero, List.drop_succ_cons, List.drop_zero]
          show wpStill Try.prog _ wr.drew (fun a' => wpList Try.prog _ _ _ a' wr.drew) _ _
          replace q1 : wr.drew.cell? ⟨b1, o1 + i, none⟩ = some (.int .u32 (a : Int)) := q1
          replace q2 : wr.drew.cell? ⟨gv, i, none⟩ = some (.int .u32 (v : Int)) := q2
          replace q3 : wr.drew.cell? ⟨g, i, none⟩ = some (.int .u32 ((0 : Nat) : Int)) := q3
          replace q4 : wr.drew.frozen? ⟨g, i, none⟩ = false := q4
          replace hw6 : Blk .u32 wr.drew gv V := hw6
          replace hw4' : Blk .u32 wr.drew g (pad 8 (outs hv V i)) := hw4'
          replace hbw : Below w.heap.size w wr.drew := below_drewN hbw 1
          generalize wr.drew = wz at *
          have i1 : (0 : Int) ≤ (i : Int) := by omega
          have i2 : (i : Int) < 8 := by omega
          iterate 12 still_step
          refine wpStill_nil ?_
          clear i1 i2
          go_wp2_with fail
          go_roundw
          case rel =>
            refine ⟨i + 1, by go_num, by omega, hw6.far (p := ⟨g, i, none⟩) hgv _, ?_, hbw.setCell (p := ⟨g, i, none⟩) hgl' _⟩
            have h := hw4'.set hat'.out (addw a v)
            have h7 := pad_set (n := 8) (l := outs hv V i) (by rw [outs_length]; exact hlt8) (addw a v)
            rw [outs_length] at h7
            rw [h7, ← HS.out] at h
            exact h
          case measure => simp [intOf]; omega
        · obtain rfl : i = 8 := by omega
          have hfin : pad 8 (outs hv V 8) = compress hv b := by rw [pad_full (outs_length hv V 8), HV.out, HWS.out]; rfl
          rw [hfin] at hw4'
          have hcl8 := Lib.hid (show (compress hv b).length = 8 by simp [compress])
          clear hfin hw6
          generalize compress hv b = O at *
          go_wp2_with fail
          go_ret
          exact ⟨_, _, by rw [hcl8.out]; rfl, by rw [hcl8.out]; exact Nat.le_refl _, by simp only [maxLen]; omega, Own.of_blk hw4' hgl', hbw⟩
end Go.Proofs.Ytmbkehmgpcmicaa
