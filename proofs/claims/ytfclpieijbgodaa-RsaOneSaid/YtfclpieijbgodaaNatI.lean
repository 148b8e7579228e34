/-
  nat.digit: one digit of a quotient: it is taken away from the number as often as it may be.
-/
import Derived.Test.YtfclpieijbgodaaNatH
import Derived.Test.YtfclpieijbgodaaNum4
namespace Go.Proofs.Ytfclpieijbgodaa
set_option linter.unusedVariables false
set_option linter.unusedSimpArgs false
open Go.RowKit

def DigitPost (cs vs : List Nat) (g off : Nat) (w : World) (e : Ending) (w' : World) : Prop :=
  ∃ cs', e = .returned (.int .u32 ((val (cs.drop off) / val vs : Nat) : Int)) ∧ Blk .u32 w' g cs' ∧ cs'.length = cs.length ∧ Lim 4294967296 cs' ∧ cs'.take off = cs.take off ∧
    val (cs'.drop off) = val (cs.drop off) % val vs ∧ w.grownBy w' (some g)

theorem or_high (u1 u0 : Nat) (h1 : u1 < 4294967296) (h0 : u0 < 4294967296) : bits .or .u64 ((u1 : Int) * 4294967296) (u0 : Int) = ((u1 * 4294967296 + u0 : Nat) : Int) := by
  have e : ((u1 : Int) * 4294967296) = ((u1 * 4294967296 : Nat) : Int) := by simp
  rw [e, u64_or_nat _ _ (by omega) (by omega)]
  congr 1
  have := Nat.shiftLeft_add_eq_or_of_lt (b := u0) (i := 32) (by omega) u1
  rw [Nat.shiftLeft_eq] at this
  rw [← this]

set_option maxHeartbeats 1600000 in
theorem digit_any (cs vs : List Nat) (g off cap d : Nat) (B : Option Addr) (w : World) (hb : Blk .u32 w g cs) (hv : Rd .u32 w B vs) (ho : Off B vs g)
    (hl : vs.length ≤ 60000) (h0 : 0 < vs.length) (hoff : off + (vs.length + 1) ≤ cs.length) (hcap : vs.length + 1 ≤ cap) (hcap2 : cap ≤ 70000) (lc : Lim 4294967296 cs) (cv : Canon vs) (hP : val (cs.drop off) < 4294967296 * val vs) :
    Calls Try.prog 70 #[.slice (some ⟨g, off, none⟩) (vs.length + 1) cap, .slice B vs.length d] w (DigitPost cs vs g off w) := by
  obtain ⟨u1, hu1⟩ := get_of_lt (xs := cs) (i := off + vs.length) (by omega)
  obtain ⟨u0, hu0⟩ := get_of_lt (xs := cs) (i := off + (vs.length - 1)) (by omega)
  obtain ⟨v1, hv1⟩ := get_of_lt (xs := vs) (i := vs.length - 1) (by omega)
  obtain ⟨b, o, rfl, hbw, hcl⟩ := hv.pos hv1
  have hc1 := hb.cell hu1
  have hc0 := hb.cell hu0
  have hcv := hcl _ v1 hv1
  have b1 := lc.get hu1
  have b0 := lc.get hu0
  have bv := cv.1.get hv1
  have hv1p : 0 < v1 := by
    rcases Nat.eq_zero_or_pos v1 with h | h
    · subst h
      exact absurd (by rw [List.getLast?_eq_getElem?]; exact hv1) cv.2
    · exact h
  have hor := Lib.hid (or_high u1 u0 b1 b0)
  clear hcl
  have hVp : 0 < val vs := Nat.pos_of_ne_zero (val_pos_of_last (by rw [List.getLast?_eq_getElem?]; exact hv1) (by omega))
  have hVlt := val_lt cv.1
  have hPn : val (cs.drop off) < 4294967296 ^ (vs.length + 1) := by
    rw [Nat.pow_succ, Nat.mul_comm]
    omega
  have hPseg := (drop_high hPn).1
  have hq1 : val (cs.drop off) / val vs < 4294967296 := by rw [Nat.div_lt_iff_lt_mul hVp]; exact hP
  have hguess : val (cs.drop off) / val vs ≤ (u1 * 4294967296 + u0) / v1 := by
    refine guess_ge hv1p (m := vs.length - 1) ?_ (top_one hv1) hVp
    exact top_two (lc.drop off) h0 (by rw [List.getElem?_drop]; exact hu1) (by rw [List.getElem?_drop]; exact hu0) hPn
  obtain ⟨P, hPe⟩ : ∃ P, P = val (cs.drop off) := ⟨_, rfl⟩
  obtain ⟨V, hVe⟩ : ∃ V, V = val vs := ⟨_, rfl⟩
  rw [← hPe] at hP hPn hPseg hq1 hguess
  rw [← hVe] at hP hVp hq1 hguess hVlt
  have HP := Lib.hid hP
  have HPn := Lib.hid hPn
  have HPs := Lib.hid hPseg
  have HPe := Lib.hid hPe
  have HVe := Lib.hid hVe
  have HQ1 := Lib.hid hq1
  have hVl2 := Lib.hid hVlt
  clear hP hPn hPseg hPe hVe hq1 hVlt
  by_cases hlt : u1 < v1
  · have hd : decide ((u1 : Int) < (v1 : Int)) = true := by simpa using hlt
    have hG : ∃ G : Nat, G < 4294967296 ∧ Hid (P / V ≤ G) ∧ Hid (IntKind.u64.wrap ((bits BinOp.or IntKind.u64 ((u1 : Int) * 4294967296) (u0 : Int)).tdiv (v1 : Int)) = (G : Int)) := by
      have h1 : (u1 * 4294967296 + u0) / v1 < 4294967296 := by
        rw [Nat.div_lt_iff_lt_mul hv1p]
        have : (u1 + 1) * 4294967296 ≤ v1 * 4294967296 := Nat.mul_le_mul_right _ hlt
        omega
      refine ⟨_, h1, hguess, ?_⟩
      show _ = _
      rw [hor.out, ← Int.ofNat_tdiv]
      generalize (u1 * 4294967296 + u0) / v1 = q at h1
      exact IntWalk.u64_in _ (by omega)
    obtain ⟨G, hGl, hGq, hGe⟩ := hG
    clear hguess
    go_enter Try.func70, Try.ntmps70
    go_wp2_with fail
    go_quiet (fail)
    go_wp2_with fail
    go_quiet (fail)
    go_wp2_with (at_make; refine wpList_make_ints _ rfl _ _ _ rfl .u32 33 4 Try.underlying22 info_u32 _ _ (vs.length + 1) _ _ rfl rfl (by omega) (by omega) (by omega) (by omega) ?_; intro gt w1 hg hw1 hs1 hb1)
    rw [hGe.out]
    have hbel : Below w.heap.size w w1 := (below_drewN (Below.refl _ _) _).trans hb1
    have hgl : w.heap.size ≤ gt := by rw [hg.out]; exact Nat.le_refl _
    have HFL := Lib.hid (foldTo_length (List.replicate (vs.length + 1) 0) 0 vs G vs.length)
    have hGm : ((G : Int) % 4294967296) = (G : Int) := by omega
    first | rw [hGm] | skip
    clear hGm
    refine (fold_any (List.replicate (vs.length + 1) 0) vs gt 0 vs.length (vs.length + 1) vs.length d _ G _ hw1.blk (hv.below hbel) (Off.new hv hgl) rfl (by omega) (Nat.le_refl _) (by simp) hGl (Lim.replicate (by omega)) cv.1).mono ?_
    rintro e w2 ⟨rfl, hb2, hg2⟩
    obtain ⟨z, hz⟩ := get_of_lt (xs := (foldTo (List.replicate (vs.length + 1) 0) 0 vs G vs.length).1) (i := vs.length) (by rw [HFL.out]; simp)
    have hcz := hb2.cell hz
    have hfz := hb2.frozen hz
    have hset := Lib.hid (hb2.set hz (foldTo (List.replicate (vs.length + 1) 0) 0 vs G vs.length).2)
    have hbel2 := below_only hbel hg2 hbel.size hgl
    obtain ⟨hT1, hT2⟩ := digit_start hGl cv.1
    have hT3 : ((foldTo (List.replicate (vs.length + 1) 0) 0 vs G vs.length).1.set vs.length (foldTo (List.replicate (vs.length + 1) 0) 0 vs G vs.length).2).length = vs.length + 1 := by rw [List.length_set, HFL.out]; simp
    rw [← HVe.out] at hT1
    have HT1 := Lib.hid hT1
    have HT3 := Lib.hid hT3
    clear hT1 hT3 hz
    go_wp2_with fail
    go_loopw [6] (fun t wr => ∃ G' T, t = .int .u64 ((G' : Nat) : Int) ∧ G' < 4294967296 ∧ Hid (P / V ≤ G') ∧ Hid (val T = G' * V) ∧ Hid (T.length = vs.length + 1) ∧ Lim 4294967296 T ∧ Blk .u32 wr gt T ∧ Below w.heap.size w wr) (fun t _ => (intOf t).toNat)
    case atStart => exact ⟨G, _, rfl, hGl, hGq, HT1, HT3, hT2, hset.out, hbel2.setCell hgl _⟩
    case round =>
      obtain ⟨G', T, rfl, hGl', hGq', hTv, hTl, hTm, hbT, hbelr⟩ := hrel
      have hbr := hb.below (hbelr.mono (Nat.le_refl _))
      go_wp2_with fail
      refine (trim_any (some ⟨gt, 0, none⟩) _ _ T _ hTl.out.symm (Nat.le_refl _) (by omega) (Rd.of_all hbT) hTm).mono ?_
      rintro e w3 ⟨m1, rfl, hm1, ht1, rfl⟩
      go_wp2_with fail
      refine (trim_any (some ⟨g, off, none⟩) _ cap ((cs.drop off).take (vs.length + 1)) _ (by rw [List.length_take, List.length_drop]; omega) hcap (by omega) (Rd.of_blk hbr _ _) ((lc.drop _).take _)).mono ?_
      rintro e w3 ⟨m2, rfl, hm2, ht2, rfl⟩
      go_wp2_with fail
      have hr1 := (Rd.of_all hbT).take m1
      have hr2 := (Rd.of_blk hbr off (vs.length + 1)).take m2
      have hl1 : m1 = (limbs (G' * V)).length := by rw [← hTv.out, ← ht1.out, List.length_take, hTl.out]; omega
      have hl2 : m2 = (limbs P).length := by rw [HPs.out] at ht2; rw [← ht2.out]; simp; omega
      rw [ht1.out, hTv.out] at hr1
      rw [ht2.out, HPs.out] at hr2
      refine (cmp_any _ _ m1 m2 m1 m2 (limbs (G' * V)) (limbs P) _ hl1 hl2 (by omega) (by omega) hr1 hr2 (canon_limbs _) (canon_limbs _)).mono ?_
      rintro e w3 ⟨rfl, q, rfl⟩
      rw [val_limbs, val_limbs]
      clear hr1 hr2 hl1 hl2
      by_cases hcmp : P < G' * V
      · have hGp : 0 < G' := by
          rcases Nat.eq_zero_or_pos G' with h | h
          · subst h; simp at hcmp
          · exact h
        have HC := Lib.hid (cmpN_gt hcmp)
        rw [HC.out]
        have hts := takeTo_sub (cs := T) (ys := vs) (off := 0) (n := vs.length + 1) (by rw [hTl.out]; omega) hTm cv.1 (by omega) (by
          rw [hTv.out, ← HVe.out, Nat.pow_zero, Nat.one_mul]
          exact Nat.le_mul_of_pos_left _ hGp)
        have HT5 := Lib.hid hts.2
        have HT6 := Lib.hid (takeTo_length T 0 vs (vs.length + 1))
        have hT7 := takeTo_lim T 0 vs (vs.length + 1) hTm
        have HG2 := Lib.hid (show P / V ≤ G' - 1 by
          have : P / V < G' := by rw [Nat.div_lt_iff_lt_mul hVp]; exact hcmp
          omega)
        have HT8 := Lib.hid (show val (takeTo T 0 vs (vs.length + 1)).1 = (G' - 1) * V by
          have h5 := HT5.out
          rw [hTv.out, ← HVe.out, Nat.pow_zero, Nat.one_mul] at h5
          rw [h5, Nat.sub_mul, Nat.one_mul])
        clear hts hcmp
        go_wp2_with fail
        refine (take_any T vs gt 0 (vs.length + 1) (vs.length + 1) vs.length d _ _ (hbT.drewN q) ((hv.below hbelr).drewN q) (Off.new hv hgl) rfl (by omega) (by omega) (by rw [hTl.out]; omega) hTm cv.1).mono ?_
        rintro e w4 ⟨rfl, hb4, hg4⟩
        go_wp2_with fail
        go_roundw
        case rel => exact ⟨G' - 1, _, by go_num, by omega, HG2, HT8, by show _ = _; rw [HT6.out, hTl.out], hT7, hb4, below_only (below_drewN hbelr q) hg4 hbelr.size hgl⟩
        case measure => simp [intOf] <;> omega
      · have hle : G' * V ≤ P := by omega
        have hGE : G' = P / V := by
          have h1 : G' ≤ P / V := by rw [Nat.le_div_iff_mul_le hVp]; exact hle
          have h2 := hGq'.out
          omega
        have hcm : ¬ 0 < cmpN (G' * V) P := by rw [cmpN_pos]; omega
        have hcb := cmpN_bd (G' * V) P
        generalize cmpN (G' * V) P = cm at *
        have HGE := Lib.hid hGE
        have hds := digit_sub (cs := cs) (T := T) (off := off) (m := vs.length + 1) hoff lc hTm (by rw [hTl.out]; exact Nat.le_refl _) (by rw [← HPe.out]; exact HPn.out) (by rw [hTv.out, ← HPe.out]; exact hle)
        have HD := Lib.hid hds
        have HLe := Lib.hid hle
        clear hds hGE hcmp hle
        go_wp2_with fail
        refine (take_any cs T g off (vs.length + 1) cap (vs.length + 1) (vs.length + 1) (some ⟨gt, 0, none⟩) _ (hbr.drewN q) ((Rd.of_all hbT).drewN q) (Off.of_ne (by have := hb.lt; omega)) hTl.out.symm (by omega) (Nat.le_refl _) hoff lc hTm).mono ?_
        rintro e w4 ⟨rfl, hb4, hg4⟩
        go_wp2_with fail
        go_ret
        refine ⟨_, by rw [← HPe.out, ← HVe.out, ← HGE.out]; rfl, hb4, takeTo_length _ _ _ _, takeTo_lim _ _ _ _ lc, HD.out.1, ?_, only_trans (only_drewN (only_of_below hbelr _) q) hg4⟩
        rw [HD.out.2, hTv.out, ← HPe.out, ← HVe.out, HGE.out]
        have h3 := Nat.div_add_mod P V
        rw [Nat.mul_comm] at h3
        omega
  · have hd : decide ((u1 : Int) < (v1 : Int)) = false := by simp; omega
    have hG : ∃ G : Nat, G < 4294967296 ∧ Hid (P / V ≤ G) ∧ Hid ((4294967295 : Int) = (G : Int)) := ⟨4294967295, by omega, by have := HQ1.out; show _ ≤ _; omega, rfl⟩
    obtain ⟨G, hGl, hGq, hGe⟩ := hG
    clear hguess
    go_enter Try.func70, Try.ntmps70
    go_wp2_with fail
    go_quiet (fail)
    go_wp2_with (at_make; refine wpList_make_ints _ rfl _ _ _ rfl .u32 33 4 Try.underlying22 info_u32 _ _ (vs.length + 1) _ _ rfl rfl (by omega) (by omega) (by omega) (by omega) ?_; intro gt w1 hg hw1 hs1 hb1)
    rw [hGe.out]
    have hbel : Below w.heap.size w w1 := (below_drewN (Below.refl _ _) _).trans hb1
    have hgl : w.heap.size ≤ gt := by rw [hg.out]; exact Nat.le_refl _
    have HFL := Lib.hid (foldTo_length (List.replicate (vs.length + 1) 0) 0 vs G vs.length)
    have hGm : ((G : Int) % 4294967296) = (G : Int) := by omega
    first | rw [hGm] | skip
    clear hGm
    refine (fold_any (List.replicate (vs.length + 1) 0) vs gt 0 vs.length (vs.length + 1) vs.length d _ G _ hw1.blk (hv.below hbel) (Off.new hv hgl) rfl (by omega) (Nat.le_refl _) (by simp) hGl (Lim.replicate (by omega)) cv.1).mono ?_
    rintro e w2 ⟨rfl, hb2, hg2⟩
    obtain ⟨z, hz⟩ := get_of_lt (xs := (foldTo (List.replicate (vs.length + 1) 0) 0 vs G vs.length).1) (i := vs.length) (by rw [HFL.out]; simp)
    have hcz := hb2.cell hz
    have hfz := hb2.frozen hz
    have hset := Lib.hid (hb2.set hz (foldTo (List.replicate (vs.length + 1) 0) 0 vs G vs.length).2)
    have hbel2 := below_only hbel hg2 hbel.size hgl
    obtain ⟨hT1, hT2⟩ := digit_start hGl cv.1
    have hT3 : ((foldTo (List.replicate (vs.length + 1) 0) 0 vs G vs.length).1.set vs.length (foldTo (List.replicate (vs.length + 1) 0) 0 vs G vs.length).2).length = vs.length + 1 := by rw [List.length_set, HFL.out]; simp
    rw [← HVe.out] at hT1
    have HT1 := Lib.hid hT1
    have HT3 := Lib.hid hT3
    clear hT1 hT3 hz
    go_wp2_with fail
    go_loopw [6] (fun t wr => ∃ G' T, t = .int .u64 ((G' : Nat) : Int) ∧ G' < 4294967296 ∧ Hid (P / V ≤ G') ∧ Hid (val T = G' * V) ∧ Hid (T.length = vs.length + 1) ∧ Lim 4294967296 T ∧ Blk .u32 wr gt T ∧ Below w.heap.size w wr) (fun t _ => (intOf t).toNat)
    case atStart => exact ⟨G, _, rfl, hGl, hGq, HT1, HT3, hT2, hset.out, hbel2.setCell hgl _⟩
    case round =>
      obtain ⟨G', T, rfl, hGl', hGq', hTv, hTl, hTm, hbT, hbelr⟩ := hrel
      have hbr := hb.below (hbelr.mono (Nat.le_refl _))
      go_wp2_with fail
      refine (trim_any (some ⟨gt, 0, none⟩) _ _ T _ hTl.out.symm (Nat.le_refl _) (by omega) (Rd.of_all hbT) hTm).mono ?_
      rintro e w3 ⟨m1, rfl, hm1, ht1, rfl⟩
      go_wp2_with fail
      refine (trim_any (some ⟨g, off, none⟩) _ cap ((cs.drop off).take (vs.length + 1)) _ (by rw [List.length_take, List.length_drop]; omega) hcap (by omega) (Rd.of_blk hbr _ _) ((lc.drop _).take _)).mono ?_
      rintro e w3 ⟨m2, rfl, hm2, ht2, rfl⟩
      go_wp2_with fail
      have hr1 := (Rd.of_all hbT).take m1
      have hr2 := (Rd.of_blk hbr off (vs.length + 1)).take m2
      have hl1 : m1 = (limbs (G' * V)).length := by rw [← hTv.out, ← ht1.out, List.length_take, hTl.out]; omega
      have hl2 : m2 = (limbs P).length := by rw [HPs.out] at ht2; rw [← ht2.out]; simp; omega
      rw [ht1.out, hTv.out] at hr1
      rw [ht2.out, HPs.out] at hr2
      refine (cmp_any _ _ m1 m2 m1 m2 (limbs (G' * V)) (limbs P) _ hl1 hl2 (by omega) (by omega) hr1 hr2 (canon_limbs _) (canon_limbs _)).mono ?_
      rintro e w3 ⟨rfl, q, rfl⟩
      rw [val_limbs, val_limbs]
      clear hr1 hr2 hl1 hl2
      by_cases hcmp : P < G' * V
      · have hGp : 0 < G' := by
          rcases Nat.eq_zero_or_pos G' with h | h
          · subst h; simp at hcmp
          · exact h
        have HC := Lib.hid (cmpN_gt hcmp)
        rw [HC.out]
        have hts := takeTo_sub (cs := T) (ys := vs) (off := 0) (n := vs.length + 1) (by rw [hTl.out]; omega) hTm cv.1 (by omega) (by
          rw [hTv.out, ← HVe.out, Nat.pow_zero, Nat.one_mul]
          exact Nat.le_mul_of_pos_left _ hGp)
        have HT5 := Lib.hid hts.2
        have HT6 := Lib.hid (takeTo_length T 0 vs (vs.length + 1))
        have hT7 := takeTo_lim T 0 vs (vs.length + 1) hTm
        have HG2 := Lib.hid (show P / V ≤ G' - 1 by
          have : P / V < G' := by rw [Nat.div_lt_iff_lt_mul hVp]; exact hcmp
          omega)
        have HT8 := Lib.hid (show val (takeTo T 0 vs (vs.length + 1)).1 = (G' - 1) * V by
          have h5 := HT5.out
          rw [hTv.out, ← HVe.out, Nat.pow_zero, Nat.one_mul] at h5
          rw [h5, Nat.sub_mul, Nat.one_mul])
        clear hts hcmp
        go_wp2_with fail
        refine (take_any T vs gt 0 (vs.length + 1) (vs.length + 1) vs.length d _ _ (hbT.drewN q) ((hv.below hbelr).drewN q) (Off.new hv hgl) rfl (by omega) (by omega) (by rw [hTl.out]; omega) hTm cv.1).mono ?_
        rintro e w4 ⟨rfl, hb4, hg4⟩
        go_wp2_with fail
        go_roundw
        case rel => exact ⟨G' - 1, _, by go_num, by omega, HG2, HT8, by show _ = _; rw [HT6.out, hTl.out], hT7, hb4, below_only (below_drewN hbelr q) hg4 hbelr.size hgl⟩
        case measure => simp [intOf] <;> omega
      · have hle : G' * V ≤ P := by omega
        have hGE : G' = P / V := by
          have h1 : G' ≤ P / V := by rw [Nat.le_div_iff_mul_le hVp]; exact hle
          have h2 := hGq'.out
          omega
        have hcm : ¬ 0 < cmpN (G' * V) P := by rw [cmpN_pos]; omega
        have hcb := cmpN_bd (G' * V) P
        generalize cmpN (G' * V) P = cm at *
        have HGE := Lib.hid hGE
        have hds := digit_sub (cs := cs) (T := T) (off := off) (m := vs.length + 1) hoff lc hTm (by rw [hTl.out]; exact Nat.le_refl _) (by rw [← HPe.out]; exact HPn.out) (by rw [hTv.out, ← HPe.out]; exact hle)
        have HD := Lib.hid hds
        have HLe := Lib.hid hle
        clear hds hGE hcmp hle
        go_wp2_with fail
        refine (take_any cs T g off (vs.length + 1) cap (vs.length + 1) (vs.length + 1) (some ⟨gt, 0, none⟩) _ (hbr.drewN q) ((Rd.of_all hbT).drewN q) (Off.of_ne (by have := hb.lt; omega)) hTl.out.symm (by omega) (Nat.le_refl _) hoff lc hTm).mono ?_
        rintro e w4 ⟨rfl, hb4, hg4⟩
        go_wp2_with fail
        go_ret
        refine ⟨_, by rw [← HPe.out, ← HVe.out, ← HGE.out]; rfl, hb4, takeTo_length _ _ _ _, takeTo_lim _ _ _ _ lc, HD.out.1, ?_, only_trans (only_drewN (only_of_below hbelr _) q) hg4⟩
        rw [HD.out.2, hTv.out, ← HPe.out, ← HVe.out, HGE.out]
        have h3 := Nat.div_add_mod P V
        rw [Nat.mul_comm] at h3
        omega
end Go.Proofs.Ytfclpieijbgodaa
