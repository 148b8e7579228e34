/-
  NatI: nat.digit: one digit of a quotient: it is taken away from the number as often as it may be.
-/
import Derived.Test.YtchaahnhpeoomaaGreatQGNaA
import Derived.Laws.BitsAllLaws
import Derived.Test.YtchaahnhpeoomaaGreatQGBas
namespace Go.Proofs.YtchaahnhpeoomaaGreat
set_option linter.unusedVariables false
set_option linter.unusedSimpArgs false
set_option maxRecDepth 20000
open Go.RowKit
def DigitPost (cs vs : List Nat) (g off : Nat) (w : World) (e : Ending) (w' : World) : Prop :=
  ∃ cs', e = .returned (.int .u32 ((val (cs.drop off) / val vs : Nat) : Int)) ∧ Blk .u32 w' g cs' ∧ cs'.length = cs.length ∧ Lim 4294967296 cs' ∧ cs'.take off = cs.take off ∧
    val (cs'.drop off) = val (cs.drop off) % val vs ∧ w.grownBy w' (some g)
theorem or_high (u1 u0 : Nat) (h1 : u1 < 4294967296) (h0 : u0 < 4294967296) : bits .or .u64 ((u1 : Int) * 4294967296) (u0 : Int) = ((u1 * 4294967296 + u0 : Nat) : Int) := by
  have e : ((u1 : Int) * 4294967296) = ((u1 * 4294967296 : Nat) : Int) := by simp
  rw [e, u64_or_nat _ _ (by omega) (by omega)]
  congr 1
  have := Nat.shiftLeft_add_eq_or_of_lt (b := u0) (i := 32) (by omega) u1
  rw [Nat.shiftLeft_eq] at this
  rw [← this]
set_option maxHeartbeats 1600000 in
theorem digit_any (cs vs : List Nat) (g off cap d : Nat) (B : Option Addr) (w : World) (hb : Blk .u32 w g cs) (hv : Rd .u32 w B vs) (ho : Off B vs g)
    (hl : vs.length ≤ 60000) (h0 : 0 < vs.length) (hoff : off + (vs.length + 1) ≤ cs.length) (hcap : vs.length + 1 ≤ cap) (hcap2 : cap ≤ 70000) (lc : Lim 4294967296 cs) (cv : Canon vs) (hP : val (cs.drop off) < 4294967296 * val vs) :
    Calls Tryz.prog 157 #[.slice (some ⟨g, off, none⟩) (vs.length + 1) cap, .slice B vs.length d] w (DigitPost cs vs g off w) := by
  obtain ⟨u1, hu1⟩ := get_of_lt (xs := cs) (i := off + vs.length) (by omega)
  obtain ⟨u0, hu0⟩ := get_of_lt (xs := cs) (i := off + (vs.length - 1)) (by omega)
  obtain ⟨v1, hv1⟩ := get_of_lt (xs := vs) (i := vs.length - 1) (by omega)
  obtain ⟨b, o, rfl, hbw, hcl⟩ := hv.pos hv1
  have hc1 := hb.cell hu1
  have hc0 := hb.cell hu0
  have hcv := hcl _ v1 hv1
  have b1 := lc.get hu1
  have b0 := lc.get hu0
  have bv := cv.1.get hv1
  have hv1p : 0 < v1 := by
    rcases Nat.eq_zero_or_pos v1 with h | h
    · subst h
      exact absurd (by rw [List.getLast?_eq_getElem?]; exact hv1) cv.2
    · exact h
  have hor := Lib.hid (or_high u1 u0 b1 b0)
  clear hcl
  have hVp : 0 < val vs := Nat.pos_of_ne_zero (val_pos_of_last (by rw [List.getLast?_eq_getElem?]; exact hv1) (by omega))
  have hVlt := val_lt cv.1
  have hPn : val (cs.drop off) < 4294967296 ^ (vs.length + 1) := by
    rw [Nat.pow_succ, Nat.mul_comm]
    omega
  have hPseg := (drop_high hPn).1
  have hq1 : val (cs.drop off) / val vs < 4294967296 := by rw [Nat.div_lt_iff_lt_mul hVp]; exact hP
  have hguess : val (cs.drop off) / val vs ≤ (u1 * 4294967296 + u0) / v1 := by
    refine guess_ge hv1p (m := vs.length - 1) ?_ (top_one hv1) hVp
    exact top_two (lc.drop off) h0 (by rw [List.getElem?_drop]; exact hu1) (by rw [List.getElem?_drop]; exact hu0) hPn
  obtain ⟨P, hPe⟩ : ∃ P, P = val (cs.drop off) := ⟨_, rfl⟩
  obtain ⟨V, hVe⟩ : ∃ V, V = val vs := ⟨_, rfl⟩
  rw [← hPe] at hP hPn hPseg hq1 hguess
  rw [← hVe] at hP hVp hq1 hguess hVlt
  have HP := Lib.hid hP
  have HPn := Lib.hid hPn
  have HPs := Lib.hid hPseg
  have HPe := Lib.hid hPe
  have HVe := Lib.hid hVe
  have HQ1 := Lib.hid hq1
  have hVl2 := Lib.hid hVlt
  clear hP hPn hPseg hPe hVe hq1 hVlt
  by_cases hlt : u1 < v1
  · have hd : decide ((u1 : Int) < (v1 : Int)) = true := by simpa using hlt
    have hG : ∃ G : Nat, G < 4294967296 ∧ Hid (P / V ≤ G) ∧ Hid (IntKind.u64.wrap ((bits BinOp.or IntKind.u64 ((u1 : Int) * 4294967296) (u0 : Int)).tdiv (v1 : Int)) = (G : Int)) := by
      have h1 : (u1 * 4294967296 + u0) / v1 < 4294967296 := by
        rw [Nat.div_lt_iff_lt_mul hv1p]
        have : (u1 + 1) * 4294967296 ≤ v1 * 4294967296 := Nat.mul_le_mul_right _ hlt
        omega
      refine ⟨_, h1, hguess, ?_⟩
      show _ = _
      rw [hor.out, ← Int.ofNat_tdiv]
      generalize (u1 * 4294967296 + u0) / v1 = q at h1
      exact IntWalk.u64_in _ (by omega)
    obtain ⟨G, hGl, hGq, hGe⟩ := hG
    clear hguess
    go_enter Tryz.func157, Tryz.ntmps157
    go_wp2_with fail
    go_quiet (fail)
    go_wp2_with fail
    go_quiet (fail)
    go_wp2_with (at_make; refine wpList_make_ints _ rfl _ _ _ rfl .u32 129 4 Tryz.underlying128 info_u32 _ _ (vs.length + 1) _ _ rfl rfl (by omega) (by omega) (by omega) (by omega) ?_; intro gt w1 hg hw1 hs1 hb1)
    rw [hGe.out]
    have hbel : Below w.heap.size w w1 := (below_drewN (Below.refl _ _) _).trans hb1
    have hgl : w.heap.size ≤ gt := by rw [hg.out]; exact Nat.le_refl _
    have HFL := Lib.hid (foldTo_length (List.replicate (vs.length + 1) 0) 0 vs G vs.length)
    have hGm : ((G : Int) % 4294967296) = (G : Int) := by omega
    first | rw [hGm] | skip
    clear hGm
    refine (fold_any (List.replicate (vs.length + 1) 0) vs gt 0 vs.length (vs.length + 1) vs.length d _ G _ hw1.blk (hv.below hbel) (Off.new hv hgl) rfl (by omega) (Nat.le_refl _) (by simp) hGl (Lim.replicate (by omega)) cv.1).mono ?_
    rintro e w2 ⟨rfl, hb2, hg2⟩
    obtain ⟨z, hz⟩ := get_of_lt (xs := (foldTo (List.replicate (vs.length + 1) 0) 0 vs G vs.length).1) (i := vs.length) (by rw [HFL.out]; simp)
    have hcz := hb2.cell hz
    have hfz := hb2.frozen hz
    have hset := Lib.hid (hb2.set hz (foldTo (List.replicate (vs.length + 1) 0) 0 vs G vs.length).2)
    have hbel2 := below_only hbel hg2 hbel.size hgl
    obtain ⟨hT1, hT2⟩ := digit_start hGl cv.1
    have hT3 : ((foldTo (List.replicate (vs.length + 1) 0) 0 vs G vs.length).1.set vs.length (foldTo (List.replicate (vs.length + 1) 0) 0 vs G vs.length).2).length = vs.length + 1 := by rw [List.length_set, HFL.out]; simp
    rw [← HVe.out] at hT1
    have HT1 := Lib.hid hT1
    have HT3 := Lib.hid hT3
    clear hT1 hT3 hz
    go_wp2_with fail
    go_loopw [6] (fun t wr => ∃ G' T, t = .int .u64 ((G' : Nat) : Int) ∧ G' < 4294967296 ∧ Hid (P / V ≤ G') ∧ Hid (val T = G' * V) ∧ Hid (T.length = vs.length + 1) ∧ Lim 4294967296 T ∧ Blk .u32 wr gt T ∧ Below w.heap.size w wr) (fun t _ => (intOf t).toNat)
    case atStart => exact ⟨G, _, rfl, hGl, hGq, HT1, HT3, hT2, hset.out, hbel2.setCell hgl _⟩
    case round =>
      obtain ⟨G', T, rfl, hGl', hGq', hTv, hTl, hTm, hbT, hbelr⟩ := hrel
      have hbr := hb.below (hbelr.mono (Nat.le_refl _))
      go_wp2_with fail
      refine (trim_any (some ⟨gt, 0, none⟩) _ _ T _ hTl.out.symm (Nat.le_refl _) (by omega) (Rd.of_all hbT) hTm).mono ?_
      rintro e w3 ⟨m1, rfl, hm1, ht1, rfl⟩
      go_wp2_with fail
      refine (trim_any (some ⟨g, off, none⟩) _ cap ((cs.drop off).take (vs.length + 1)) _ (by rw [List.length_take, List.length_drop]; omega) hcap (by omega) (Rd.of_blk hbr _ _) ((lc.drop _).take _)).mono ?_
      rintro e w3 ⟨m2, rfl, hm2, ht2, rfl⟩
      go_wp2_with fail
      have hr1 := (Rd.of_all hbT).take m1
      have hr2 := (Rd.of_blk hbr off (vs.length + 1)).take m2
      have hl1 : m1 = (limbs (G' * V)).length := by rw [← hTv.out, ← ht1.out, List.length_take, hTl.out]; omega
      have hl2 : m2 = (limbs P).length := by rw [HPs.out] at ht2; rw [← ht2.out]; simp; omega
      rw [ht1.out, hTv.out] at hr1
      rw [ht2.out, HPs.out] at hr2
      refine (cmp_any _ _ m1 m2 m1 m2 (limbs (G' * V)) (limbs P) _ hl1 hl2 (by omega) (by omega) hr1 hr2 (canon_limbs _) (canon_limbs _)).mono ?_
      rintro e w3 ⟨rfl, q, rfl⟩
      rw [val_limbs, val_limbs]
      clear hr1 hr2 hl1 hl2
      by_cases hcmp : P < G' * V
      · have hGp : 0 < G' := by
          rcases Nat.eq_zero_or_pos G' with h | h
          · subst h; simp at hcmp
          · exact h
        have HC := Lib.hid (cmpN_gt hcmp)
        rw [HC.out]
        have hts := takeTo_sub (cs := T) (ys := vs) (off := 0) (n := vs.length + 1) (by rw [hTl.out]; omega) hTm cv.1 (by omega) (by
          rw [hTv.out, ← HVe.out, Nat.pow_zero, Nat.one_mul]
          exact Nat.le_mul_of_pos_left _ hGp)
        have HT5 := Lib.hid hts.2
        have HT6 := Lib.hid (takeTo_length T 0 vs (vs.length + 1))
        have hT7 := takeTo_lim T 0 vs (vs.length + 1) hTm
        have HG2 := Lib.hid (show P / V ≤ G' - 1 by
          have : P / V < G' := by rw [Nat.div_lt_iff_lt_mul hVp]; exact hcmp
          omega)
        have HT8 := Lib.hid (show val (takeTo T 0 vs (vs.length + 1)).1 = (G' - 1) * V by
          have h5 := HT5.out
          rw [hTv.out, ← HVe.out, Nat.pow_zero, Nat.one_mul] at h5
          rw [h5, Nat.sub_mul, Nat.one_mul])
        clear hts hcmp
        go_wp2_with fail
        refine (take_any T vs gt 0 (vs.length + 1) (vs.length + 1) vs.length d _ _ (hbT.drewN q) ((hv.below hbelr).drewN q) (Off.new hv hgl) rfl (by omega) (by omega) (by rw [hTl.out]; omega) hTm cv.1).mono ?_
        rintro e w4 ⟨rfl, hb4, hg4⟩
        go_wp2_with fail
        go_roundw
        case rel => exact ⟨G' - 1, _, by go_num, by omega, HG2, HT8, by show _ = _; rw [HT6.out, hTl.out], hT7, hb4, below_only (below_drewN hbelr q) hg4 hbelr.size hgl⟩
        case measure => simp [intOf] <;> omega
      · have hle : G' * V ≤ P := by omega
        have hGE : G' = P / V := by
          have h1 : G' ≤ P / V := by rw [Nat.le_div_iff_mul_le hVp]; exact hle
          have h2 := hGq'.out
          omega
        have hcm : ¬ 0 < cmpN (G' * V) P := by rw [cmpN_pos]; omega
        have hcb := cmpN_bd (G' * V) P
        generalize cmpN (G' * V) P = cm at *
        have HGE := Lib.hid hGE
        have hds := digit_sub (cs := cs) (T := T) (off := off) (m := vs.length + 1) hoff lc hTm (by rw [hTl.out]; exact Nat.le_refl _) (by rw [← HPe.out]; exact HPn.out) (by rw [hTv.out, ← HPe.out]; exact hle)
        have HD := Lib.hid hds
        have HLe := Lib.hid hle
        clear hds hGE hcmp hle
        go_wp2_with fail
        refine (take_any cs T g off (vs.length + 1) cap (vs.length + 1) (vs.length + 1) (some ⟨gt, 0, none⟩) _ (hbr.drewN q) ((Rd.of_all hbT).drewN q) (Off.of_ne (by have := hb.lt; omega)) hTl.out.symm (by omega) (Nat.le_refl _) hoff lc hTm).mono ?_
        rintro e w4 ⟨rfl, hb4, hg4⟩
        go_wp2_with fail
        go_ret
        refine ⟨_, by rw [← HPe.out, ← HVe.out, ← HGE.out]; rfl, hb4, takeTo_length _ _ _ _, takeTo_lim _ _ _ _ lc, HD.out.1, ?_, only_trans (only_drewN (only_of_below hbelr _) q) hg4⟩
        rw [HD.out.2, hTv.out, ← HPe.out, ← HVe.out, HGE.out]
        have h3 := Nat.div_add_mod P V
        rw [Nat.mul_comm] at h3
        omega
  · have hd : decide ((u1 : Int) < (v1 : Int)) = false := by simp; omega
    have hG : ∃ G : Nat, G < 4294967296 ∧ Hid (P / V ≤ G) ∧ Hid ((4294967295 : Int) = (G : Int)) := ⟨4294967295, by omega, by have := HQ1.out; show _ ≤ _; omega, rfl⟩
    obtain ⟨G, hGl, hGq, hGe⟩ := hG
    clear hguess
    go_enter Tryz.func157, Tryz.ntmps157
    go_wp2_with fail
    go_quiet (fail)
    go_wp2_with (at_make; refine wpList_make_ints _ rfl _ _ _ rfl .u32 129 4 Tryz.underlying128 info_u32 _ _ (vs.length + 1) _ _ rfl rfl (by omega) (by omega) (by omega) (by omega) ?_; intro gt w1 hg hw1 hs1 hb1)
    rw [hGe.out]
    have hbel : Below w.heap.size w w1 := (below_drewN (Below.refl _ _) _).trans hb1
    have hgl : w.heap.size ≤ gt := by rw [hg.out]; exact Nat.le_refl _
    have HFL := Lib.hid (foldTo_length (List.replicate (vs.length + 1) 0) 0 vs G vs.length)
    have hGm : ((G : Int) % 4294967296) = (G : Int) := by omega
    first | rw [hGm] | skip
    clear hGm
    refine (fold_any (List.replicate (vs.length + 1) 0) vs gt 0 vs.length (vs.length + 1) vs.length d _ G _ hw1.blk (hv.below hbel) (Off.new hv hgl) rfl (by omega) (Nat.le_refl _) (by simp) hGl (Lim.replicate (by omega)) cv.1).mono ?_
    rintro e w2 ⟨rfl, hb2, hg2⟩
    obtain ⟨z, hz⟩ := get_of_lt (xs := (foldTo (List.replicate (vs.length + 1) 0) 0 vs G vs.length).1) (i := vs.length) (by rw [HFL.out]; simp)
    have hcz := hb2.cell hz
    have hfz := hb2.frozen hz
    have hset := Lib.hid (hb2.set hz (foldTo (List.replicate (vs.length + 1) 0) 0 vs G vs.length).2)
    have hbel2 := below_only hbel hg2 hbel.size hgl
    obtain ⟨hT1, hT2⟩ := digit_start hGl cv.1
    have hT3 : ((foldTo (List.replicate (vs.length + 1) 0) 0 vs G vs.length).1.set vs.length (foldTo (List.replicate (vs.length + 1) 0) 0 vs G vs.length).2).length = vs.length + 1 := by rw [List.length_set, HFL.out]; simp
    rw [← HVe.out] at hT1
    have HT1 := Lib.hid hT1
    have HT3 := Lib.hid hT3
    clear hT1 hT3 hz
    go_wp2_with fail
    go_loopw [6] (fun t wr => ∃ G' T, t = .int .u64 ((G' : Nat) : Int) ∧ G' < 4294967296 ∧ Hid (P / V ≤ G') ∧ Hid (val T = G' * V) ∧ Hid (T.length = vs.length + 1) ∧ Lim 4294967296 T ∧ Blk .u32 wr gt T ∧ Below w.heap.size w wr) (fun t _ => (intOf t).toNat)
    case atStart => exact ⟨G, _, rfl, hGl, hGq, HT1, HT3, hT2, hset.out, hbel2.setCell hgl _⟩
    case round =>
      obtain ⟨G', T, rfl, hGl', hGq', hTv, hTl, hTm, hbT, hbelr⟩ := hrel
      have hbr := hb.below (hbelr.mono (Nat.le_refl _))
      go_wp2_with fail
      refine (trim_any (some ⟨gt, 0, none⟩) _ _ T _ hTl.out.symm (Nat.le_refl _) (by omega) (Rd.of_all hbT) hTm).mono ?_
      rintro e w3 ⟨m1, rfl, hm1, ht1, rfl⟩
      go_wp2_with fail
      refine (trim_any (some ⟨g, off, none⟩) _ cap ((cs.drop off).take (vs.length + 1)) _ (by rw [List.length_take, List.length_drop]; omega) hcap (by omega) (Rd.of_blk hbr _ _) ((lc.drop _).take _)).mono ?_
      rintro e w3 ⟨m2, rfl, hm2, ht2, rfl⟩
      go_wp2_with fail
      have hr1 := (Rd.of_all hbT).take m1
      have hr2 := (Rd.of_blk hbr off (vs.length + 1)).take m2
      have hl1 : m1 = (limbs (G' * V)).length := by rw [← hTv.out, ← ht1.out, List.length_take, hTl.out]; omega
      have hl2 : m2 = (limbs P).length := by rw [HPs.out] at ht2; rw [← ht2.out]; simp; omega
      rw [ht1.out, hTv.out] at hr1
      rw [ht2.out, HPs.out] at hr2
      refine (cmp_any _ _ m1 m2 m1 m2 (limbs (G' * V)) (limbs P) _ hl1 hl2 (by omega) (by omega) hr1 hr2 (canon_limbs _) (canon_limbs _)).mono ?_
      rintro e w3 ⟨rfl, q, rfl⟩
      rw [val_limbs, val_limbs]
      clear hr1 hr2 hl1 hl2
      by_cases hcmp : P < G' * V
      · have hGp : 0 < G' := by
          rcases Nat.eq_zero_or_pos G' with h | h
          · subst h; simp at hcmp
          · exact h
        have HC := Lib.hid (cmpN_gt hcmp)
        rw [HC.out]
        have hts := takeTo_sub (cs := T) (ys := vs) (off := 0) (n := vs.length + 1) (by rw [hTl.out]; omega) hTm cv.1 (by omega) (by
          rw [hTv.out, ← HVe.out, Nat.pow_zero, Nat.one_mul]
          exact Nat.le_mul_of_pos_left _ hGp)
        have HT5 := Lib.hid hts.2
        have HT6 := Lib.hid (takeTo_length T 0 vs (vs.length + 1))
        have hT7 := takeTo_lim T 0 vs (vs.length + 1) hTm
        have HG2 := Lib.hid (show P / V ≤ G' - 1 by
          have : P / V < G' := by rw [Nat.div_lt_iff_lt_mul hVp]; exact hcmp
          omega)
        have HT8 := Lib.hid (show val (takeTo T 0 vs (vs.length + 1)).1 = (G' - 1) * V by
          have h5 := HT5.out
          rw [hTv.out, ← HVe.out, Nat.pow_zero, Nat.one_mul] at h5
          rw [h5, Nat.sub_mul, Nat.one_mul])
        clear hts hcmp
        go_wp2_with fail
        refine (take_any T vs gt 0 (vs.length + 1) (vs.length + 1) vs.length d _ _ (hbT.drewN q) ((hv.below hbelr).drewN q) (Off.new hv hgl) rfl (by omega) (by omega) (by rw [hTl.out]; omega) hTm cv.1).mono ?_
        rintro e w4 ⟨rfl, hb4, hg4⟩
        go_wp2_with fail
        go_roundw
        case rel => exact ⟨G' - 1, _, by go_num, by omega, HG2, HT8, by show _ = _; rw [HT6.out, hTl.out], hT7, hb4, below_only (below_drewN hbelr q) hg4 hbelr.size hgl⟩
        case measure => simp [intOf] <;> omega
      · have hle : G' * V ≤ P := by omega
        have hGE : G' = P / V := by
          have h1 : G' ≤ P / V := by rw [Nat.le_div_iff_mul_le hVp]; exact hle
          have h2 := hGq'.out
          omega
        have hcm : ¬ 0 < cmpN (G' * V) P := by rw [cmpN_pos]; omega
        have hcb := cmpN_bd (G' * V) P
        generalize cmpN (G' * V) P = cm at *
        have HGE := Lib.hid hGE
        have hds := digit_sub (cs := cs) (T := T) (off := off) (m := vs.length + 1) hoff lc hTm (by rw [hTl.out]; exact Nat.le_refl _) (by rw [← HPe.out]; exact HPn.out) (by rw [hTv.out, ← HPe.out]; exact hle)
        have HD := Lib.hid hds
        have HLe := Lib.hid hle
        clear hds hGE hcmp hle
        go_wp2_with fail
        refine (take_any cs T g off (vs.length + 1) cap (vs.length + 1) (vs.length + 1) (some ⟨gt, 0, none⟩) _ (hbr.drewN q) ((Rd.of_all hbT).drewN q) (Off.of_ne (by have := hb.lt; omega)) hTl.out.symm (by omega) (Nat.le_refl _) hoff lc hTm).mono ?_
        rintro e w4 ⟨rfl, hb4, hg4⟩
        go_wp2_with fail
        go_ret
        refine ⟨_, by rw [← HPe.out, ← HVe.out, ← HGE.out]; rfl, hb4, takeTo_length _ _ _ _, takeTo_lim _ _ _ _ lc, HD.out.1, ?_, only_trans (only_drewN (only_of_below hbelr _) q) hg4⟩
        rw [HD.out.2, hTv.out, ← HPe.out, ← HVe.out, HGE.out]
        have h3 := Nat.div_add_mod P V
        rw [Nat.mul_comm] at h3
        omega
end Go.Proofs.YtchaahnhpeoomaaGreat
namespace Go.Proofs.YtchaahnhpeoomaaGreat
set_option linter.unusedVariables false
set_option linter.unusedSimpArgs false
set_option maxRecDepth 20000
theorem val_drop_set {qs : List Nat} {j q : Nat} (h : j < qs.length) : val ((qs.set j q).drop j) = q + 4294967296 * val (qs.drop (j + 1)) := by
  have h1 : (qs.set j q)[j]? = some q := by rw [List.getElem?_set_self h]
  rw [val_drop_succ h1]
  congr 3
  apply List.ext_getElem?
  intro i
  rw [List.getElem?_drop, List.getElem?_drop, List.getElem?_set_ne (by omega)]
theorem div_step {us us' qs : List Nat} {j V U : Nat} (hj : j < us.length) (hjq : j < qs.length)
    (hinv : val us + V * (4294967296 ^ (j + 1) * val (qs.drop (j + 1))) = U)
    (h1 : us'.take j = us.take j) (hlen : us'.length = us.length) (h2 : val (us'.drop j) = val (us.drop j) % V) :
    val us' + V * (4294967296 ^ j * val ((qs.set j (val (us.drop j) / V)).drop j)) = U := by
  have e1 := val_split us j (by omega)
  have e2 := val_split us' j (by omega)
  rw [h1, h2] at e2
  rw [val_drop_set hjq]
  have e3 : V * (4294967296 ^ j * (val (us.drop j) / V + 4294967296 * val (qs.drop (j + 1)))) = 4294967296 ^ j * (V * (val (us.drop j) / V)) + V * (4294967296 ^ (j + 1) * val (qs.drop (j + 1))) := by
    rw [Nat.mul_add, Nat.mul_add, Nat.pow_succ, Nat.mul_left_comm V, ← Nat.mul_assoc (4294967296 ^ j) 4294967296]
  have e4 : 4294967296 ^ j * (val (us.drop j) % V) + 4294967296 ^ j * (V * (val (us.drop j) / V)) = 4294967296 ^ j * val (us.drop j) := by
    rw [← Nat.mul_add, Nat.mod_add_div]
  omega
theorem div_high {us : List Nat} {i V z : Nat} (h : val (us.drop (i + 1)) < V) (hz : us[i]? = some z) (hzl : z < 4294967296) : val (us.drop i) < 4294967296 * V := by
  rw [val_drop_succ hz]
  have : 4294967296 * (val (us.drop (i + 1)) + 1) ≤ 4294967296 * V := Nat.mul_le_mul_left _ h
  omega
theorem div_end {u q U V : Nat} (h1 : u < V) (h2 : u + V * q = U) : q = U / V ∧ u = U % V := by
  subst h2
  rw [Nat.add_mul_div_left _ _ (by omega), Nat.div_eq_of_lt h1, Nat.add_mul_mod_self_left, Nat.mod_eq_of_lt h1]
  exact ⟨by omega, rfl⟩
def rshTo (cs : List Nat) (n k : Nat) : Nat → List Nat
  | 0 => cs
  | i + 1 => (rshTo cs n k i).set i ((rshTo cs n k i).getD i 0 / 2 ^ k + (if i + 1 < n then (rshTo cs n k i).getD (i + 1) 0 * 2 ^ (32 - k) % 4294967296 else 0))
theorem rshTo_length (cs : List Nat) (n k i : Nat) : (rshTo cs n k i).length = cs.length := by
  induction i with
  | zero => rfl
  | succ i ih => simp [rshTo, ih]
theorem rshTo_get {cs : List Nat} {n k i j : Nat} (h : i ≤ j) : (rshTo cs n k i)[j]? = cs[j]? := by
  induction i with
  | zero => rfl
  | succ i ih => rw [rshTo, List.getElem?_set_ne (by omega)]; exact ih (by omega)
theorem low_bits (y k : Nat) (hk : k ≤ 32) : 2 ^ k * (y * 2 ^ (32 - k) % 4294967296) = 4294967296 * (y % 2 ^ k) := by
  have h : (4294967296 : Nat) = 2 ^ k * 2 ^ (32 - k) := by rw [← Nat.pow_add, show k + (32 - k) = 32 from by omega]
  have h2 : y * 2 ^ (32 - k) % 4294967296 = (y % 2 ^ k) * 2 ^ (32 - k) := by rw [h, Nat.mul_mod_mul_right]
  rw [h2, h, Nat.mul_assoc, Nat.mul_comm (y % 2 ^ k)]
theorem rsh_sum {x y k : Nat} (hx : x < 4294967296) (hk : k ≤ 32) : x / 2 ^ k + y * 2 ^ (32 - k) % 4294967296 < 4294967296 ∧ (x / 2 ^ k ||| (y * 2 ^ (32 - k) % 4294967296)) = x / 2 ^ k + y * 2 ^ (32 - k) % 4294967296 := by
  obtain ⟨q, hq⟩ := mod_shift y (32 - k) (by omega)
  have h : (4294967296 : Nat) = 2 ^ k * 2 ^ (32 - k) := by rw [← Nat.pow_add, show k + (32 - k) = 32 from by omega]
  have h1 : x / 2 ^ k < 2 ^ (32 - k) := by rw [Nat.div_lt_iff_lt_mul (Nat.two_pow_pos k), Nat.mul_comm, ← h]; exact hx
  have h2 : q * 2 ^ (32 - k) < 2 ^ k * 2 ^ (32 - k) := by rw [← h, ← hq]; exact Nat.mod_lt _ (by omega)
  have h3 : q < 2 ^ k := Nat.lt_of_mul_lt_mul_right h2
  have h4 : (q + 1) * 2 ^ (32 - k) ≤ 2 ^ k * 2 ^ (32 - k) := Nat.mul_le_mul_right _ h3
  rw [← h, Nat.add_mul, Nat.one_mul] at h4
  rw [hq]
  exact ⟨by omega, or_shift h1⟩
theorem rshTo_lim {cs : List Nat} {n k : Nat} (lc : Lim 4294967296 cs) (hk : k ≤ 32) (i : Nat) : Lim 4294967296 (rshTo cs n k i) := by
  induction i with
  | zero => exact lc
  | succ i ih =>
    refine ih.set ?_
    have h1 := getD_lim ih (by omega) i
    split
    · exact (rsh_sum h1 hk).1
    · exact Nat.lt_of_le_of_lt (Nat.div_le_self _ _) h1
theorem rshTo_sum {cs : List Nat} {n k i : Nat} (hk : k ≤ 32) (hi : i ≤ n) (hn : n ≤ cs.length) (hp : 0 < n) :
    2 ^ k * val ((rshTo cs n k i).take i) + cs.getD 0 0 % 2 ^ k = val (cs.take i) + (if i < n then 4294967296 ^ i * (cs.getD i 0 % 2 ^ k) else 0) := by
  induction i with
  | zero => simp [val, hp]
  | succ i ih =>
    have ih := ih (by omega)
    rw [if_pos (by omega)] at ih
    have hlen := rshTo_length cs n k i
    have e1 : (rshTo cs n k i).getD i 0 = cs.getD i 0 := by rw [List.getD_eq_getElem?_getD, List.getD_eq_getElem?_getD, rshTo_get (Nat.le_refl _)]
    have e2 : (rshTo cs n k i).getD (i + 1) 0 = cs.getD (i + 1) 0 := by rw [List.getD_eq_getElem?_getD, List.getD_eq_getElem?_getD, rshTo_get (by omega)]
    have e3 : (rshTo cs n k (i + 1)).take i = (rshTo cs n k i).take i := take_ext fun j hj => by rw [rshTo, List.getElem?_set_ne (by omega)]
    have e4 : (rshTo cs n k (i + 1)).getD i 0 = cs.getD i 0 / 2 ^ k + (if i + 1 < n then cs.getD (i + 1) 0 * 2 ^ (32 - k) % 4294967296 else 0) := by
      rw [List.getD_eq_getElem?_getD, rshTo, List.getElem?_set_self (by omega), Option.getD_some, e1, e2]
    rw [val_take_succ e4, e3, val_take_succ (xs := cs) (k := i) rfl]
    generalize cs.getD i 0 = x at *
    generalize cs.getD (i + 1) 0 = y at *
    generalize val ((rshTo cs n k i).take i) = a at *
    generalize cs.getD 0 0 % 2 ^ k = b at *
    have h5 := Nat.div_add_mod x (2 ^ k)
    have h6 := low_bits y k hk
    split
    · rename_i hlt
      rw [Nat.mul_add, Nat.mul_left_comm, Nat.mul_add (2 ^ k), h6]
      rw [Nat.pow_succ, Nat.mul_assoc]
      have h7 : 4294967296 ^ i * (2 ^ k * (x / 2 ^ k) + 4294967296 * (y % 2 ^ k)) + 4294967296 ^ i * (x % 2 ^ k) = 4294967296 ^ i * x + 4294967296 ^ i * (4294967296 * (y % 2 ^ k)) := by
        rw [← Nat.mul_add, ← Nat.mul_add]
        congr 1
        omega
      omega
    · rename_i hlt
      rw [Nat.mul_add, Nat.mul_left_comm, Nat.add_zero]
      have h7 : 4294967296 ^ i * (2 ^ k * (x / 2 ^ k)) + 4294967296 ^ i * (x % 2 ^ k) = 4294967296 ^ i * x := by
        rw [← Nat.mul_add]
        congr 1
      omega
theorem rshTo_val {cs : List Nat} {n k : Nat} (hk : k ≤ 32) (hn : n ≤ cs.length) (hp : 0 < n) : val ((rshTo cs n k n).take n) = val (cs.take n) / 2 ^ k := by
  have h := rshTo_sum (i := n) hk (Nat.le_refl _) hn hp
  rw [if_neg (by omega), Nat.add_zero] at h
  have h1 : cs.getD 0 0 % 2 ^ k < 2 ^ k := Nat.mod_lt _ (Nat.two_pow_pos k)
  rw [← h, Nat.add_comm, Nat.add_mul_div_left _ _ (Nat.two_pow_pos k), Nat.div_eq_of_lt h1]
  omega
theorem norm_divisor {ys : List Nat} {y1 : Nat} (ly : Lim 4294967296 ys) (hy : ys[ys.length - 1]? = some y1) (h0 : y1 ≠ 0) :
    32 - nbits y1 < 32 ∧ val ys * 2 ^ (32 - nbits y1) < 4294967296 ^ ys.length ∧ (limbs (val ys * 2 ^ (32 - nbits y1))).length = ys.length ∧ 4294967296 ^ (ys.length - 1) * 2147483648 ≤ val ys * 2 ^ (32 - nbits y1) := by
  have hn := (List.getElem?_eq_some_iff.1 hy).1
  have h1 := nbits_val ly hy h0
  have h2 := nbits_pos h0
  have h3 : nbits y1 ≤ 32 := (nbits_le_iff y1 32).2 (ly.get hy)
  have hv : val ys ≠ 0 := val_pos_of_last (by rw [List.getLast?_eq_getElem?]; exact hy) h0
  have h4 : nbits (val ys * 2 ^ (32 - nbits y1)) = 32 * ys.length := by
    have := nbits_mul_add (m := 32 - nbits y1) (x := val ys) (low := 0) hv (Nat.two_pow_pos _)
    rw [Nat.zero_add, Nat.mul_comm] at this
    omega
  have h5 : val ys * 2 ^ (32 - nbits y1) < 4294967296 ^ ys.length := by
    rw [pow_limb]
    exact (nbits_le_iff _ _).1 (by omega)
  have h6 : 4294967296 ^ (ys.length - 1) * 2147483648 ≤ val ys * 2 ^ (32 - nbits y1) := by
    have hne : val ys * 2 ^ (32 - nbits y1) ≠ 0 := Nat.mul_ne_zero hv (Nat.ne_of_gt (Nat.two_pow_pos _))
    have := (nbits_spec hne).1
    rw [h4] at this
    rw [pow_limb, show (2147483648 : Nat) = 2 ^ 31 from by decide, ← Nat.pow_add]
    rw [show 32 * (ys.length - 1) + 31 = 32 * ys.length - 1 from by omega]
    exact this
  refine ⟨by omega, h5, ?_, h6⟩
  have h7 := limbs_length_le h5
  rcases Nat.lt_or_ge (limbs (val ys * 2 ^ (32 - nbits y1))).length ys.length with h8 | h8
  · have h9 := lt_of_limbs_length (n := val ys * 2 ^ (32 - nbits y1)) (k := ys.length - 1) (by omega)
    have h10 : 4294967296 ^ (ys.length - 1) * 1 ≤ 4294967296 ^ (ys.length - 1) * 2147483648 := Nat.mul_le_mul_left _ (by omega)
    omega
  · omega
theorem div_begin {xs ys : List Nat} {us : List Nat} {k V : Nat} (lx : Lim 4294967296 xs) (hu : val us = val xs * 2 ^ k) (hk : k ≤ 31) (hle : ys.length ≤ xs.length) (hy : 0 < ys.length) (hul : us.length = xs.length + 1) (hlu : Lim 4294967296 us)
    (hV : 4294967296 ^ (ys.length - 1) * 2147483648 ≤ V) : val (us.drop (xs.length - ys.length + 1)) < V := by
  have h1 := val_split us (xs.length - ys.length + 1) (by omega)
  have h2 := val_lt lx
  have h3 : (2 : Nat) ^ k ≤ 2147483648 := by
    have : (2 : Nat) ^ k ≤ 2 ^ 31 := Nat.pow_le_pow_right (by omega) hk
    simpa using this
  have h4 : val us < 4294967296 ^ xs.length * 2147483648 := by
    rw [hu]
    exact Nat.lt_of_lt_of_le (Nat.mul_lt_mul_of_pos_right h2 (Nat.two_pow_pos k)) (Nat.mul_le_mul_left _ h3)
  have h5 : (4294967296 : Nat) ^ xs.length = 4294967296 ^ (xs.length - ys.length + 1) * 4294967296 ^ (ys.length - 1) := by
    rw [← Nat.pow_add]
    congr 1
    omega
  rw [h5, Nat.mul_assoc] at h4
  have h6 : 4294967296 ^ (xs.length - ys.length + 1) * val (us.drop (xs.length - ys.length + 1)) < 4294967296 ^ (xs.length - ys.length + 1) * (4294967296 ^ (ys.length - 1) * 2147483648) := by omega
  exact Nat.lt_of_lt_of_le (Nat.lt_of_mul_lt_mul_left h6) hV
end Go.Proofs.YtchaahnhpeoomaaGreat
namespace Go.Proofs.YtchaahnhpeoomaaGreat
set_option linter.unusedVariables false
set_option linter.unusedSimpArgs false
set_option maxRecDepth 20000
open Go.RowKit
def Gives3 (q r : List Nat) (er : Int) (w : World) (e : Ending) (w' : World) : Prop :=
  ∃ A c A' c', e = .returned (.tuple #[.slice A q.length c, .slice A' r.length c', .int .i64 er]) ∧ (q.length ≤ c ∧ c ≤ maxLen) ∧ (r.length ≤ c' ∧ c' ≤ maxLen) ∧
    Own .u32 w' w.heap.size A q ∧ Own .u32 w' w.heap.size A' r ∧ Below w.heap.size w w'
theorem gives3_none (er : Int) (w w' : World) (h : Below w.heap.size w w') : Gives3 [] [] er w (.returned (.tuple #[.slice none 0 0, .slice none 0 0, .int .i64 er])) w' :=
  ⟨none, 0, none, 0, rfl, ⟨Nat.le_refl _, Nat.zero_le _⟩, ⟨Nat.le_refl _, Nat.zero_le _⟩, Own.nil _ _ _ _, Own.nil _ _ _ _, h⟩
set_option maxHeartbeats 400000 in
theorem div_arg (A B : Option Addr) (n m c d : Nat) (xs ys : List Nat) (w : World) (hn : n = xs.length) (hm : m = ys.length) (hl : n ≤ 70000) (hl' : m ≤ 70000) (hx : Rd .u32 w A xs) (hy : Rd .u32 w B ys)
    (h : isRight xs = false ∨ isRight ys = false ∨ ys = []) :
    Calls Tryz.prog 136 #[.slice A n c, .slice B m d] w (Gives3 [] [] 1 w) := by
  subst hn
  subst hm
  cases r1 : isRight xs with
  | false =>
    clear h
    go_enter Tryz.func136, Tryz.ntmps136
    go_wp2_with fail
    refine (right_any _ _ c xs _ rfl (by omega) hx).mono ?_
    rintro e w' ⟨rfl, rfl⟩
    go_wp2_with fail
    go_ret3
    exact gives3_none _ _ _ (Below.refl _ _)
  | true =>
    cases r2 : isRight ys with
    | false =>
      clear h
      go_enter Tryz.func136, Tryz.ntmps136
      go_wp2_with fail
      refine (right_any _ _ c xs _ rfl (by omega) hx).mono ?_
      rintro e w' ⟨rfl, rfl⟩
      go_wp2_with fail
      refine (right_any _ _ d ys _ rfl (by omega) hy).mono ?_
      rintro e w' ⟨rfl, rfl⟩
      go_wp2_with fail
      go_ret3
      exact gives3_none _ _ _ (Below.refl _ _)
    | true =>
      have he : ys = [] := by simpa [r1, r2] using h
      subst he
      clear h
      go_enter Tryz.func136, Tryz.ntmps136
      go_wp2_with fail
      refine (right_any _ _ c xs _ rfl (by omega) hx).mono ?_
      rintro e w' ⟨rfl, rfl⟩
      go_wp2_with fail
      refine (right_any _ 0 d [] _ rfl (by omega) hy).mono ?_
      rintro e w' ⟨rfl, rfl⟩
      rw [r2]
      go_wp2_with fail
      go_ret3
      exact gives3_none _ _ _ (Below.refl _ _)
set_option maxHeartbeats 400000 in
theorem div_less (A B : Option Addr) (n m c d : Nat) (xs ys : List Nat) (w : World) (hn : n = xs.length) (hm : m = ys.length) (hl : n ≤ 70000) (hl' : m ≤ 70000) (hx : Rd .u32 w A xs) (hy : Rd .u32 w B ys) (lx : Lim 4294967296 xs) (ly : Lim 4294967296 ys)
    (r1 : isRight xs = true) (r2 : isRight ys = true) (hlt : val xs < val ys) :
    Calls Tryz.prog 136 #[.slice A n c, .slice B m d] w (Gives3 (limbs (val xs / val ys)) (limbs (val xs % val ys)) 0 w) := by
  subst hn
  subst hm
  have c1 := isRight_canon lx r1
  have c2 := isRight_canon ly r2
  have h0 : ((ys.length : Int) == 0) = false := by
    have : ys.length ≠ 0 := by
      intro h
      rw [List.eq_nil_of_length_eq_zero h] at hlt
      simp [val] at hlt
    simpa using this
  have HQ := Lib.hid (show limbs (val xs / val ys) = [] by rw [Nat.div_eq_of_lt hlt]; rfl)
  have HR := Lib.hid (show limbs (val xs % val ys) = xs by rw [Nat.mod_eq_of_lt hlt]; exact limbs_val c1)
  have hcm : cmpN (val xs) (val ys) < 0 := by rw [cmpN_neg]; exact hlt
  have hcb := cmpN_bd (val xs) (val ys)
  obtain ⟨cm, hcmE⟩ : ∃ cm, cm = cmpN (val xs) (val ys) := ⟨_, rfl⟩
  rw [← hcmE] at hcm hcb
  have HCM := Lib.hid hcmE
  clear hcmE hlt
  go_enter Tryz.func136, Tryz.ntmps136
  go_wp2_with fail
  refine (right_any _ _ c xs _ rfl (by omega) hx).mono ?_
  rintro e w' ⟨rfl, rfl⟩
  go_wp2_with fail
  refine (right_any _ _ d ys _ rfl (by omega) hy).mono ?_
  rintro e w' ⟨rfl, rfl⟩
  go_wp2_with fail
  refine (cmp_any _ _ _ _ c d xs ys _ rfl rfl hl hl' hx hy c1 c2).mono ?_
  rintro e w' ⟨rfl, q, rfl⟩
  rw [← HCM.out]
  go_wp2_with (at_builtin; refine wpList_append_lit _ rfl (.tmp 32) (.tmp 33) _ rfl w 129 .u32 4 Tryz.underlying128 info_u32 _ _ rfl (World.ownsRow_made (w.drewN q) #[] 0 (Nat.le_refl _) (Nat.zero_le _) rfl) _ xs.length _ xs rfl rfl (hx.alloc _) ((below_drewN (Below.refl _ _) q).alloc (Nat.le_refl _) _) (by omega) (by decide) ?_; intro g c' w1 hB hbk hc1 hc2 hbel)
  go_ret3
  rw [HQ.out, HR.out]
  exact ⟨none, 0, _, c', rfl, ⟨Nat.le_refl _, Nat.zero_le _⟩, ⟨hc1, hc2⟩, Own.nil _ _ _ _, Own.of_blk hbk hB, hbel⟩
theorem rsh_or (x y k : Nat) (hk : k ≤ 32) (hx : x < 4294967296) : bits .or .u32 ((x : Int) / 2 ^ k) ((y : Int) * 2 ^ (32 - k) % 4294967296) = ((x / 2 ^ k + y * 2 ^ (32 - k) % 4294967296 : Nat) : Int) := by
  have e1 : ((x : Int) / 2 ^ k) = ((x / 2 ^ k : Nat) : Int) := by simp
  have e2 : ((y : Int) * 2 ^ (32 - k) % 4294967296) = ((y * 2 ^ (32 - k) % 4294967296 : Nat) : Int) := by simp
  rw [e1, e2, u32_or_nat _ _ (Nat.lt_of_le_of_lt (Nat.div_le_self _ _) hx) (Nat.mod_lt _ (by omega)), (rsh_sum hx hk).2]
theorem rsh_div (x k : Nat) : ((x : Int) / 2 ^ k) = ((x / 2 ^ k : Nat) : Int) := by simp
theorem rshTo_succ {cs : List Nat} {n k i x y : Nat} (hx : (rshTo cs n k i)[i]? = some x) (hy : (rshTo cs n k i)[i + 1]? = some y) :
    rshTo cs n k (i + 1) = (rshTo cs n k i).set i (x / 2 ^ k + (if i + 1 < n then y * 2 ^ (32 - k) % 4294967296 else 0)) := by
  rw [rshTo, List.getD_eq_getElem?_getD, List.getD_eq_getElem?_getD, hx, hy]
  rfl
theorem inv_start {u V U p i : Nat} {qs : List Nat} (h : u = U) (hq : qs.length ≤ i) : u + V * (p * val (qs.drop i)) = U := by
  rw [List.drop_of_length_le hq, val, Nat.mul_zero, Nat.mul_zero, Nat.add_zero, h]
set_option maxHeartbeats 3200000 in
theorem div_more (A B : Option Addr) (n m c d : Nat) (xs ys : List Nat) (w : World) (hn : n = xs.length) (hm : m = ys.length) (hx : Rd .u32 w A xs) (hy : Rd .u32 w B ys) (lx : Lim 4294967296 xs) (ly : Lim 4294967296 ys)
    (r1 : isRight xs = true) (r2 : isRight ys = true) (hpos : 0 < val ys) (hge : val ys ≤ val xs) :
    Calls Tryz.prog 136 #[.slice A n c, .slice B m d] w (Gives3 (limbs (val xs / val ys)) (limbs (val xs % val ys)) 0 w) := by
  subst hn
  subst hm
  have c1 := isRight_canon lx r1
  have c2 := isRight_canon ly r2
  have hl := isRight_len r1
  have hl' := isRight_len r2
  have hyp : 0 < ys.length := by
    rcases Nat.eq_zero_or_pos ys.length with h | h
    · rw [List.eq_nil_of_length_eq_zero h] at hpos
      simp [val] at hpos
    · exact h
  have h0 : ((ys.length : Int) == 0) = false := by
    have : ys.length ≠ 0 := by omega
    simpa using this
  have hlen : ys.length ≤ xs.length := by
    rcases Nat.lt_or_ge xs.length ys.length with h | h
    · have := val_lt_of_len lx c2 h; omega
    · exact h
  obtain ⟨y1, hy1⟩ := get_of_lt (xs := ys) (i := ys.length - 1) (by omega)
  have hy1n : y1 ≠ 0 := last_pos r2 hy1
  have hy1b := ly.get hy1
  obtain ⟨by1, oy1, rfl, _, hcl⟩ := hy.pos hy1
  have hcy := hcl _ y1 hy1
  obtain ⟨k, hk⟩ : ∃ k, k = 32 - nbits y1 := ⟨_, rfl⟩
  have hnd := norm_divisor ly hy1 hy1n
  have hnb := nbits_pos hy1n
  have hnb2 := nbits_limb hy1b
  rw [← hk] at hnd
  have HBL := Lib.hid (show (32 - (Lib.bitLen (y1 : Int).toNat : Int)) = ((k : Nat) : Int) by rw [Int.toNat_natCast, bitLen_nbits y1 (by omega)]; omega)
  obtain ⟨hk32, hVlt, hVlen, hVge⟩ := hnd
  have HVlt := Lib.hid hVlt
  have HVlen := Lib.hid hVlen
  have HVge := Lib.hid hVge
  have hcm : ¬ cmpN (val xs) (val ys) < 0 := by rw [cmpN_neg]; omega
  have hcb := cmpN_bd (val xs) (val ys)
  obtain ⟨cm, hcmE⟩ : ∃ cm, cm = cmpN (val xs) (val ys) := ⟨_, rfl⟩
  rw [← hcmE] at hcm hcb
  have HCM := Lib.hid hcmE
  have HPOS := Lib.hid hpos
  clear hcmE hk hVlt hVlen hVge hpos hge hcl hy1 hy1n hnb hnb2
  go_enter Tryz.func136, Tryz.ntmps136
  go_wp2_with fail
  refine (right_any _ _ c xs _ rfl (by omega) hx).mono ?_
  rintro e w' ⟨rfl, rfl⟩
  go_wp2_with fail
  refine (right_any _ _ d ys _ rfl (by omega) hy).mono ?_
  rintro e w' ⟨rfl, rfl⟩
  go_wp2_with fail
  refine (cmp_any _ _ _ _ c d xs ys _ rfl rfl (by omega) (by omega) hx hy c1 c2).mono ?_
  rintro e w' ⟨rfl, q, rfl⟩
  rw [← HCM.out]
  go_wp2_with fail
  refine (Tryz.bits_LeadingZeros32 y1 _ (by omega) (by omega)).mono ?_
  rintro e w' ⟨rfl, rfl⟩
  rw [HBL.out]
  go_wp2_with fail
  refine (shift_any A _ c k xs _ rfl (by omega) (hx.drewN q) lx hk32).mono ?_
  rintro e w1 ⟨gu, rfl, hgu, hbu, hbel1⟩
  have hbelA : Below w.heap.size w w1 := (below_drewN (Below.refl _ _) q).trans hbel1
  go_wp2_with fail
  refine (shift_any _ _ d k ys _ rfl (by omega) (hy.below hbelA) ly hk32).mono ?_
  rintro e w2 ⟨gv, rfl, hgv, hbv, hbel2⟩
  have hbelB : Below w.heap.size w w2 := hbelA.trans (hbel2.mono hbelA.size)
  obtain ⟨hs1, hs2, _, _⟩ := shiftTo_ok ly (Nat.le_of_lt hk32) (Nat.le_refl ys.length)
  obtain ⟨hsx1, hsx2, _, _⟩ := shiftTo_ok lx (Nat.le_of_lt hk32) (Nat.le_refl xs.length)
  rw [List.take_length] at hs1 hsx1
  have HS1 := Lib.hid hs1
  have HSX1 := Lib.hid hsx1
  have HSX3 := Lib.hid (shiftTo_length xs k xs.length)
  have hbu2 := hbu.below hbel2
  have hguv : gu ≠ gv := by have := hbu.lt; omega
  have hgl : w.heap.size ≤ gu := hgu
  have hglv : w.heap.size ≤ gv := Nat.le_trans hbelA.size hgv
  clear hs1 hsx1 hbu hgv
  go_wp2_with fail
  refine (trim_any _ _ _ (shiftTo ys k ys.length) _ (by rw [shiftTo_length]) (Nat.le_refl _) (by omega) (Rd.of_all hbv) hs2).mono ?_
  rintro e w3 ⟨mv, rfl, hmv, htv, rfl⟩
  have hmv2 : mv = ys.length := by rw [← HVlen.out, ← HS1.out, ← htv.out, List.length_take, shiftTo_length]; omega
  subst hmv2
  have hrv := (Rd.of_all hbv).take ys.length
  rw [htv.out, HS1.out] at hrv
  go_wp2_with (at_make; refine wpList_make_ints _ rfl _ _ _ rfl .u32 129 4 Tryz.underlying128 info_u32 _ _ (xs.length - ys.length + 1) _ _ rfl rfl (by omega) (by omega) (by omega) (by omega) ?_; intro gq w4 hg4 hw4 hs4 hb4)
  have hb4' : Below w.heap.size w w4 := hbelB.trans (hb4.mono hbelB.size)
  have hgq : w.heap.size ≤ gq := by rw [hg4.out]; exact hbelB.size
  have hbu4 := hbu2.below hb4
  have hrv4 := hrv.below hb4
  have hguq : gu ≠ gq := by have := hbu2.lt; rw [hg4.out]; omega
  have hgvq : gv ≠ gq := by have := hbv.lt; rw [hg4.out]; omega
  have hbegin := div_begin (V := val ys * 2 ^ k) lx HSX1.out (by omega) hlen hyp HSX3.out hsx2 HVge.out
  obtain ⟨V, hV⟩ : ∃ V, V = val ys * 2 ^ k := ⟨_, rfl⟩
  obtain ⟨U, hU⟩ : ∃ U, U = val xs * 2 ^ k := ⟨_, rfl⟩
  rw [← hV] at hbegin hrv4
  have HV := Lib.hid hV
  have HU := Lib.hid hU
  have HBG := Lib.hid hbegin
  have HVl : Hid ((limbs V).length = ys.length) := by rw [hV]; exact HVlen.out
  have HQL := Lib.hid (show (List.replicate (xs.length - ys.length + 1) 0).length = xs.length - ys.length + 1 from List.length_replicate)
  have HINV := Lib.hid (inv_start (V := V) (p := 4294967296 ^ (xs.length - ys.length + 1)) (i := xs.length - ys.length + 1) (HSX1.out.trans hU.symm) (Nat.le_of_eq HQL.out))
  clear hV hU hbegin hbu2 hrv hbv hb4 hbel1 hbel2 hbelA hbelB
  go_loopw [10] (fun t wr => ∃ i us qs, t = .int .i64 (((i : Nat) : Int) - 1) ∧ i ≤ xs.length - ys.length + 1 ∧ Hid (us.length = xs.length + 1) ∧ Hid (qs.length = xs.length - ys.length + 1) ∧ Lim 4294967296 us ∧ Lim 4294967296 qs ∧ Blk .u32 wr gu us ∧ Blk .u32 wr gq qs ∧ Rd .u32 wr (some ⟨gv, 0, none⟩) (limbs V) ∧ Hid (val (us.drop i) < V) ∧ Hid (val us + V * (4294967296 ^ i * val (qs.drop i)) = U) ∧ Below w.heap.size w wr) (fun t _ => (intOf t + 1).toNat)
  case atStart => exact ⟨xs.length - ys.length + 1, _, _, by go_num, Nat.le_refl _, HSX3, HQL, hsx2, Lim.replicate (by omega), hbu4, hw4.blk, hrv4, HBG, HINV, hb4'⟩
  case round =>
    obtain ⟨i, us, qs, rfl, hi, hul, hql, hum, hqm, hbur, hbqr, hrvr, hinv1, hinv2, hbelr⟩ := hrel
    rcases Nat.eq_zero_or_pos i with rfl | hip
    · rw [show (((0 : Nat) : Int) - 1) = (-1 : Int) from rfl]
      have hus := hinv1.out
      rw [List.drop_zero] at hus
      have HUS := Lib.hid hus
      have HE := Lib.hid (show val qs = U / V ∧ val us = U % V from div_end hus (by have := hinv2.out; simpa using this))
      clear hus
      have hVB : V < 4294967296 ^ ys.length := by rw [HV.out]; exact HVlt.out
      have HVB := Lib.hid hVB
      have HRV := Lib.hid (rshTo_val (cs := us) (n := ys.length) (k := k) (Nat.le_of_lt hk32) (by rw [hul.out]; omega) hyp)
      clear hVB
      go_wp2_with fail
      go_loopw [83] (fun t wr' => ∃ i, t = .int .i64 ((i : Nat) : Int) ∧ i ≤ ys.length ∧ Blk .u32 wr' gu (rshTo us ys.length k i) ∧ Blk .u32 wr' gq qs ∧ Below w.heap.size w wr') (fun t _ => ys.length - (intOf t).toNat)
      case atStart => exact ⟨0, rfl, Nat.zero_le _, hbur, hbqr, hbelr⟩
      case round =>
        obtain ⟨i, rfl, hi, hbr2, hbq2, hbel2⟩ := hrel
        by_cases hlt : i < ys.length
        · obtain ⟨x, hgx⟩ := get_of_lt (xs := rshTo us ys.length k i) (i := i) (by rw [rshTo_length, hul.out]; omega)
          obtain ⟨y, hgy⟩ := get_of_lt (xs := rshTo us ys.length k i) (i := i + 1) (by rw [rshTo_length, hul.out]; omega)
          have hlim2 := rshTo_lim (n := ys.length) hum (Nat.le_of_lt hk32) i
          have hxb := hlim2.get hgx
          have hyb := hlim2.get hgy
          have hcx := hbr2.cell hgx
          have hfx := hbr2.frozen hgx
          have hcy2 := hbr2.cell hgy
          have HX := Lib.hid hgx
          have HS := Lib.hid (rshTo_succ (n := ys.length) hgx hgy)
          have hdx := Lib.hid (rsh_div x k)
          have hdp : (0 : Int) ≤ (x : Int) / 2 ^ k := by rw [rsh_div]; exact Int.natCast_nonneg _
          have hdl : (x : Int) / 2 ^ k ≤ 4294967295 := by
            rw [rsh_div]
            have h5 : x / 2 ^ k ≤ x := Nat.div_le_self _ _
            generalize x / 2 ^ k = z at h5
            omega
          clear hgx hgy
          by_cases hlt2 : i + 1 < ys.length
          · by_cases hk0 : 0 < k
            · go_wp2_with fail
              go_region
              go_wp2_with fail
              go_roundw
              case rel =>
                refine ⟨i + 1, by go_num, by omega, ?_, ?_, ?_⟩
                · rw [rsh_or x y k (Nat.le_of_lt hk32) hxb, HS.out, if_pos hlt2, hdx.out]
                  have h9 := (hbr2.set HX.out (x / 2 ^ k)).set (i := i) (x := x / 2 ^ k) (by rw [List.getElem?_set_self (List.getElem?_eq_some_iff.1 HX.out).1]) (x / 2 ^ k + y * 2 ^ (32 - k) % 4294967296)
                  rw [List.set_set] at h9
                  exact h9.drew
                · exact ((hbq2.far (p := ⟨gu, i, none⟩) (Ne.symm hguq) _).far (p := ⟨gu, i, none⟩) (Ne.symm hguq) _).drew
                · exact ((hbel2.setCell hgl _).setCell hgl _).drew
              case measure => simp [intOf] <;> omega
            · have HS0 := Lib.hid (show rshTo us ys.length k (i + 1) = (rshTo us ys.length k i).set i (x / 2 ^ k) by
                have hkz : k = 0 := by omega
                rw [HS.out, if_pos hlt2, hkz]
                simp)
              have hk1 : k ≤ 0 := by omega
              go_wp2_with fail
              go_roundw
              case rel =>
                refine ⟨i + 1, by go_num, by omega, ?_, hbq2.far (p := ⟨gu, i, none⟩) (Ne.symm hguq) _, hbel2.setCell hgl _⟩
                rw [HS0.out, hdx.out]
                exact hbr2.set HX.out _
              case measure => simp [intOf] <;> omega
          · have HS0 := Lib.hid (show rshTo us ys.length k (i + 1) = (rshTo us ys.length k i).set i (x / 2 ^ k) by rw [HS.out, if_neg hlt2]; simp)
            go_wp2_with fail
            go_roundw
            case rel =>
              refine ⟨i + 1, by go_num, by omega, ?_, hbq2.far (p := ⟨gu, i, none⟩) (Ne.symm hguq) _, hbel2.setCell hgl _⟩
              rw [HS0.out, hdx.out]
              exact hbr2.set HX.out _
            case measure => simp [intOf] <;> omega
        · obtain rfl : i = ys.length := by omega
          have HQ := Lib.hid (show val qs = val xs / val ys by
            rw [HE.out.1, HU.out, HV.out, Nat.mul_div_mul_right _ _ (Nat.two_pow_pos k)])
          have HR := Lib.hid (show val ((rshTo us ys.length k ys.length).take ys.length) = val xs % val ys by
            rw [HRV.out]
            have h5 := HE.out.2
            have h6 : val us < 4294967296 ^ ys.length := by
              have h7 := HUS.out
              have h8 := HVB.out
              omega
            rw [(drop_high h6).1, h5, HU.out, HV.out, Nat.mul_mod_mul_right, Nat.mul_div_cancel _ (Nat.two_pow_pos k)])
          have hlim2 := rshTo_lim (n := ys.length) hum (Nat.le_of_lt hk32) ys.length
          have HLR := Lib.hid (show ((rshTo us ys.length k ys.length).take ys.length).length = ys.length by rw [List.length_take, rshTo_length, hul.out]; omega)
          go_wp2_with fail
          refine (trim_any _ _ _ qs _ hql.out.symm (Nat.le_refl _) (by omega) (Rd.of_all hbq2) hqm).mono ?_
          rintro e w6 ⟨mq, rfl, hmq, htq, rfl⟩
          rw [HQ.out] at htq
          have hOq := (Own.of_blk hbq2 hgq).take mq
          rw [htq.out] at hOq
          have HLQ := Lib.hid (show (limbs (val xs / val ys)).length = mq by rw [← htq.out, List.length_take, hql.out]; omega)
          have hRr := Rd.of_blk hbr2 0 ys.length
          rw [List.drop_zero] at hRr
          go_wp2_with fail
          refine (trim_any _ _ _ ((rshTo us ys.length k ys.length).take ys.length) _ HLR.out.symm (by omega) (by omega) hRr (hlim2.take _)).mono ?_
          rintro e w6 ⟨mr, rfl, hmr, htr, rfl⟩
          rw [HR.out, List.take_take, Nat.min_eq_left hmr] at htr
          have hOr := (Own.of_blk hbr2 hgl).take mr
          rw [htr.out] at hOr
          have HLR2 := Lib.hid (show (limbs (val xs % val ys)).length = mr by rw [← htr.out, List.length_take, rshTo_length, hul.out]; omega)
          go_wp2_with fail
          go_ret3
          exact ⟨_, mq, _, mr, by rw [HLQ.out, HLR2.out]; rfl, ⟨Nat.le_of_eq HLQ.out, by simp only [maxLen]; omega⟩, ⟨Nat.le_of_eq HLR2.out, by simp only [maxLen]; omega⟩, hOq, hOr, hbel2⟩
    · obtain ⟨j, rfl⟩ : ∃ j, i = j + 1 := ⟨i - 1, by omega⟩
      have hk1 : (((j + 1 : Nat) : Int) - 1) = (j : Int) := by omega
      rw [hk1]
      clear hk1
      obtain ⟨z, hz⟩ := get_of_lt (xs := us) (i := j) (by rw [hul.out]; omega)
      obtain ⟨z1, hz1⟩ := get_of_lt (xs := qs) (i := j) (by rw [hql.out]; omega)
      have hPj := div_high hinv1.out hz (hum.get hz)
      have HPJ := Lib.hid hPj
      have HZ1 := Lib.hid hz1
      have hVpos : 0 < V := by have := hinv1.out; omega
      clear hPj hz hz1
      go_wp2_with fail
      have hdig := digit_any us (limbs V) gu j (xs.length + 1 - j) ys.length (some ⟨gv, 0, none⟩) wr hbur hrvr (Off.of_ne (Ne.symm hguv)) (by rw [HVl.out]; omega) (by rw [HVl.out]; exact hyp) (by rw [HVl.out, hul.out]; omega) (by rw [HVl.out]; omega) (by omega) hum (canon_limbs V) (by rw [val_limbs]; exact HPJ.out)
      rw [HVl.out] at hdig
      rw [show j + ys.length + 1 - j = ys.length + 1 by omega]
      refine hdig.mono ?_
      rintro e w5 ⟨us', rfl, hbu5, hl5, hm5, ht5, hd5, hg5⟩
      rw [val_limbs] at hd5 ⊢
      have hbq5 := hbqr.grown hg5 (by intro e; injection e with e; exact hguq e)
      have hrv5 := hrvr.grown hg5 (fun g' e => by injection e with e; subst e; exact Off.of_ne (Ne.symm hguv))
      have hbel5 := below_only hbelr hg5 hbelr.size hgl
      have hst := div_step (us := us) (us' := us') (qs := qs) (j := j) (V := V) (U := U) (by rw [hul.out]; omega) (by rw [hql.out]; omega) hinv2.out ht5 hl5 hd5
      have HST := Lib.hid hst
      have HL5 := Lib.hid (hl5.trans hul.out)
      have HD5 := Lib.hid (show val (us'.drop j) < V by rw [hd5]; exact Nat.mod_lt _ hVpos)
      have hqd : val (us.drop j) / V < 4294967296 := by rw [Nat.div_lt_iff_lt_mul hVpos]; exact HPJ.out
      have hcz := hbq5.cell HZ1.out
      have hfz := hbq5.frozen HZ1.out
      have hsz := Lib.hid (hbq5.set HZ1.out (val (us.drop j) / V))
      clear hst hl5 hd5 ht5 hdig
      go_wp2_with fail
      go_roundw
      case rel => exact ⟨j, us', _, by go_num, by omega, HL5, by show _ = _; rw [List.length_set, hql.out], hm5, hqm.set hqd, hbu5.far (p := ⟨gq, j, none⟩) hguq _, hsz.out, hrv5.setCell (Off.of_ne hgvq) _, HD5, HST, hbel5.setCell hgq _⟩
      case measure => simp [intOf] <;> omega
end Go.Proofs.YtchaahnhpeoomaaGreat
namespace Go.Proofs.YtchaahnhpeoomaaGreat
set_option linter.unusedVariables false
set_option linter.unusedSimpArgs false
set_option maxRecDepth 20000
open Go.RowKit
def divOf (xs ys : List Nat) : List Nat × List Nat × Int := if isRight xs = true ∧ isRight ys = true ∧ ys ≠ [] then (limbs (val xs / val ys), limbs (val xs % val ys), 0) else ([], [], 1)
theorem divOf_ok {xs ys : List Nat} (h1 : isRight xs = true) (h2 : isRight ys = true) (h3 : ys ≠ []) : divOf xs ys = (limbs (val xs / val ys), limbs (val xs % val ys), 0) := by simp [divOf, h1, h2, h3]
theorem divOf_arg {xs ys : List Nat} (h : isRight xs = false ∨ isRight ys = false ∨ ys = []) : divOf xs ys = ([], [], 1) := by
  unfold divOf
  rw [if_neg]
  rintro ⟨h1, h2, h3⟩
  rcases h with h | h | h
  · rw [h1] at h; cases h
  · rw [h2] at h; cases h
  · exact h3 h
theorem canon_pos {ys : List Nat} (h : Canon ys) (h3 : ys ≠ []) : 0 < val ys := by
  cases hq : ys.getLast? with
  | none => simp at hq; exact absurd hq h3
  | some y => exact Nat.pos_of_ne_zero (val_pos_of_last hq (by rintro rfl; exact h.2 hq))
theorem div_any (A B : Option Addr) (n m c d : Nat) (xs ys : List Nat) (w : World) (hn : n = xs.length) (hm : m = ys.length) (hl : n ≤ 70000) (hl' : m ≤ 70000) (hx : Rd .u32 w A xs) (hy : Rd .u32 w B ys) (lx : Lim 4294967296 xs) (ly : Lim 4294967296 ys) :
    Calls Tryz.prog 136 #[.slice A n c, .slice B m d] w (Gives3 (divOf xs ys).1 (divOf xs ys).2.1 (divOf xs ys).2.2 w) := by
  by_cases h : isRight xs = true ∧ isRight ys = true ∧ ys ≠ []
  · obtain ⟨h1, h2, h3⟩ := h
    rw [divOf_ok h1 h2 h3]
    rcases Nat.lt_or_ge (val xs) (val ys) with h4 | h4
    · exact div_less A B n m c d xs ys w hn hm hl hl' hx hy lx ly h1 h2 h4
    · exact div_more A B n m c d xs ys w hn hm hx hy lx ly h1 h2 (canon_pos (isRight_canon ly h2) h3) h4
  · have h' : isRight xs = false ∨ isRight ys = false ∨ ys = [] := by
      cases h1 : isRight xs with
      | false => exact .inl rfl
      | true =>
        cases h2 : isRight ys with
        | false => exact .inr (.inl rfl)
        | true => exact .inr (.inr (by simpa [h1, h2] using h))
    rw [divOf_arg h']
    exact div_arg A B n m c d xs ys w hn hm hl hl' hx hy h'
end Go.Proofs.YtchaahnhpeoomaaGreat
namespace Go.Proofs.YtchaahnhpeoomaaGreat
set_option linter.unusedVariables false
set_option linter.unusedSimpArgs false
set_option maxRecDepth 20000
open Go.RowKit
end Go.Proofs.YtchaahnhpeoomaaGreat
namespace Go.Proofs.YtchaahnhpeoomaaGreat
set_option linter.unusedVariables false
set_option linter.unusedSimpArgs false
set_option maxRecDepth 20000
theorem takeTo_take_succ {cs ys ds : List Nat} {k c x : Nat} (h : takeTo cs 0 ys k = (ds, c)) (hx : cs[k]? = some x) :
    (takeTo cs 0 ys (k + 1)).1.take (k + 1) = ds.take k ++ [diff32 x (ys.getD k 0) c] ∧ (takeTo cs 0 ys (k + 1)).2 = borrow32 x (ys.getD k 0) c := by
  have h0 : ds[k]? = some x := by
    have := takeTo_get (cs := cs) (off := 0) (ys := ys) (k := k) (i := k) (.inr (by omega))
    rw [h] at this
    rw [← hx]
    exact this
  have h1 := takeTo_succ (off := 0) rfl h (by rw [Nat.zero_add]; exact h0)
  rw [h1, Nat.zero_add]
  have hk : k < ds.length := (List.getElem?_eq_some_iff.1 h0).1
  refine ⟨?_, rfl⟩
  rw [List.take_add_one, List.take_set_of_le (Nat.le_refl _), List.getElem?_set_self hk]
  rfl
theorem diff_mod {x y b : Nat} (hx : x < 4294967296) (hy : y < 4294967296) (hb : b ≤ 1) : (x + 4294967296 - y - b) % 4294967296 = diff32 x y b ∧ 1 - (x + 4294967296 - y - b) / 4294967296 = borrow32 x y b := by
  unfold diff32 borrow32
  split <;> omega
theorem bit_at {xs : List Nat} {i x : Nat} (hl : Lim 4294967296 xs) (hx : xs[i / 32]? = some x) : x / 2 ^ (i % 32) % 2 = val xs / 2 ^ i % 2 := by
  have h1 := limb_at hl hx
  have h2 : 2 ^ i = 4294967296 ^ (i / 32) * 2 ^ (i % 32) := by
    rw [pow_limb, ← Nat.pow_add]
    congr 1
    omega
  rw [h2, ← Nat.div_div_eq_div_mul, ← h1]
  generalize val xs / 4294967296 ^ (i / 32) = q
  have h3 : 4294967296 = 2 ^ (i % 32) * 2 ^ (32 - i % 32) := by rw [← Nat.pow_add, show i % 32 + (32 - i % 32) = 32 by omega]
  rw [h3, Nat.mod_mul_right_div_self]
  obtain ⟨m, hm⟩ : ∃ m, 32 - i % 32 = m + 1 := ⟨31 - i % 32, by omega⟩
  rw [hm, Nat.pow_succ, Nat.mul_comm (2 ^ m) 2, Nat.mod_mul_right_mod]
theorem bit_step (X i : Nat) : X / 2 ^ i = 2 * (X / 2 ^ (i + 1)) + X / 2 ^ i % 2 := by
  rw [Nat.pow_succ, ← Nat.div_div_eq_div_mul]
  omega
end Go.Proofs.YtchaahnhpeoomaaGreat
namespace Go.Proofs.YtchaahnhpeoomaaGreat
set_option linter.unusedVariables false
set_option linter.unusedSimpArgs false
set_option maxRecDepth 20000
open Go.RowKit
theorem mask32 (t : Nat) (h : t < 18446744073709551616) : bits .and .u64 (t : Int) 4294967295 = ((t % 4294967296 : Nat) : Int) := by
  rw [show (4294967295 : Int) = ((4294967295 : Nat) : Int) from rfl, u64_and_nat t 4294967295 h (by omega), show (4294967295 : Nat) = 2 ^ 32 - 1 from rfl, Nat.and_two_pow_sub_one_eq_mod]
def RetN (k : IntKind) (n : Nat) (w : World) (e : Ending) (w' : World) : Prop := e = .returned (.int k (n : Int)) ∧ w = w'
theorem at_any (A : Option Addr) (n c i : Nat) (xs : List Nat) (w : World) (hn : n = xs.length) (hx : Rd .u32 w A xs) (lx : Lim 4294967296 xs) :
    Calls Tryz.prog 131 #[.slice A n c, .int .i64 (i : Int)] w (RetN .u64 (xs.getD i 0) w) := by
  subst hn
  by_cases hlt : i < xs.length
  · obtain ⟨x, hgx⟩ := get_of_lt hlt
    obtain ⟨b, o, rfl, hbw, hcl⟩ := hx.pos hgx
    have hcell := hcl i x hgx
    have hxb := lx.get hgx
    have HG := Lib.hid (show xs.getD i 0 = x by rw [List.getD_eq_getElem?_getD, hgx]; rfl)
    clear hcl hgx
    go_enter Tryz.func131, Tryz.ntmps131
    go_wp2
    go_ret
    rw [HG.out]
    exact ⟨rfl, rfl⟩
  · have HG := Lib.hid (show xs.getD i 0 = 0 by rw [List.getD_eq_getElem?_getD, List.getElem?_eq_none (by omega)]; rfl)
    go_enter Tryz.func131, Tryz.ntmps131
    go_wp2
    go_ret
    rw [HG.out]
    exact ⟨rfl, rfl⟩
theorem below_row4 {w wr w5 : World} {o : Obj} {e : TypeId} {v : Value} {n : Nat} {xs : List Value} (hbel : Below w.heap.size w wr) (hown : wr.ownsRow w.heap.size e 1 v n xs) (hg : (wr.alloc o).grownBy w5 v.ownBlock) : Below w.heap.size w w5 :=
  (hbel.alloc hbel.size o).grown hg (by have := hbel.size; simp; omega) (fun k hk => (hown.lt k hk).1)
set_option maxRecDepth 100000 in
set_option maxHeartbeats 1600000 in
theorem refsub_any (A B : Option Addr) (n m c d : Nat) (xs ys : List Nat) (w : World) (hn : n = xs.length) (hm : m = ys.length) (hl : n ≤ 30000) (hx : Rd .u32 w A xs) (hy : Rd .u32 w B ys) (lx : Lim 4294967296 xs) (ly : Lim 4294967296 ys)
    (hle : ys.length ≤ xs.length) (hge : val ys ≤ val xs) :
    Calls Tryz.prog 107 #[.slice A n c, .slice B m d] w (Gives .u32 (limbs (val xs - val ys)) w) := by
  subst hn
  subst hm
  go_enter Tryz.func107, Tryz.ntmps107
  go_wp2_with fail
  go_loopw [5, 6, 7] (fun so sc si wr => ∃ (i cy : Nat) (A2 : Option Addr) (c2 : Nat) (ds : List Nat), so = .slice A2 i c2 ∧ sc = .int .u64 (cy : Int) ∧ si = .int .i64 (i : Int) ∧ i ≤ xs.length ∧ Hid (takeTo xs 0 ys i = (ds, cy)) ∧ wr.ownsRow w.heap.size 129 1 (.slice A2 i c2) i (ints .u32 (ds.take i)) ∧ Below w.heap.size w wr) (fun _ _ si _ => xs.length - (intOf si).toNat)
  case atStart => exact ⟨0, 0, none, 0, xs, rfl, rfl, rfl, Nat.zero_le _, rfl, World.ownsRow_nil _ _ _ _, Below.refl _ _⟩
  case round =>
    obtain ⟨i, cy, A2, c2, ds, rfl, rfl, rfl, hi, hst, hown, hbel⟩ := hrel
    have k1 := takeTo_borrow xs 0 ys i
    rw [hst.out] at k1
    by_cases hlt : i < xs.length
    · obtain ⟨x, hgx⟩ := get_of_lt hlt
      have hxb := lx.get hgx
      have hyb := getD_lim ly (by omega) i
      have hax := Lib.hid (at_any A _ c i xs wr rfl (hx.below hbel) lx)
      rw [show xs.getD i 0 = x by rw [List.getD_eq_getElem?_getD, hgx]; rfl] at hax
      have hay := Lib.hid (at_any B _ d i ys wr rfl (hy.below hbel) ly)
      obtain ⟨hs1, hs2⟩ := takeTo_take_succ hst.out hgx
      generalize ys.getD i 0 = y at *
      obtain ⟨e1, e2⟩ := diff_mod hxb hyb k1
      obtain ⟨T, hT⟩ : ∃ T, T = x + 4294967296 - y - cy := ⟨_, rfl⟩
      rw [← hT] at e1 e2
      have f1 : (x : Int) + 4294967296 - (y : Int) - (cy : Int) = (T : Int) := by omega
      have f2 : (1 : Int) - (T : Int) / 4294967296 = (borrow32 x y cy : Int) := by rw [← e2]; omega
      have hm := mask32 T (by omega)
      have hTl : T < 8589934592 := by omega
      have HS1 := Lib.hid hs1
      have HS2 := Lib.hid hs2
      have hb32 : borrow32 x y cy ≤ 1 := by unfold borrow32; split <;> omega
      have hdl : diff32 x y cy = T % 4294967296 := e1.symm
      have HD := Lib.hid hdl
      have hst2 := Lib.hid (show takeTo xs 0 ys (i + 1) = ((takeTo xs 0 ys (i + 1)).1, borrow32 x y cy) by rw [← hs2])
      clear hgx hs1 hs2 e1 e2 hT hdl
      go_wp2_with fail
      refine hax.out.mono ?_
      rintro e w' ⟨rfl, rfl⟩
      go_wp2_with fail
      refine hay.out.mono ?_
      rintro e w' ⟨rfl, rfl⟩
      clear hax hay
      have hv := Lib.hid (show (#[Value.int .u32 ((T : Int) % 4294967296)] : Array Value) = (ints .u32 [T % 4294967296]).toArray by simp [ints])
      go_wp2_with (at_builtin; refine wpList_append_ints _ rfl (.tmp 25) (.tmp 29) _ rfl w.heap.size 129 .u32 4 Tryz.underlying128 info_u32 (.slice A2 i c2) i (ds.take i) rfl (hown.alloc _) _ 1 1 [T % 4294967296] rfl rfl (Rd.of_all (blk_lit wr [T % 4294967296] _ (by first | exact hv.out | simp [ints]))) (by simp only [maxLen]; omega) (by omega) (by have := hbel.size; simp; omega) ?_; intro v5 w5 hown5 hgrow5 _)
      obtain ⟨A5, c5, rfl, _⟩ := Own.of_row hown5
      have hbr5 := below_row4 hbel hown hgrow5
      have hown6 : w5.ownsRow w.heap.size 129 1 (.slice A5 (i + 1) c5) (i + 1) (ints .u32 ((takeTo xs 0 ys (i + 1)).1.take (i + 1))) := by rw [HS1.out, HD.out]; exact hown5
      clear hown hown5 hbel hm hv
      go_roundw
      case rel => exact ⟨i + 1, borrow32 x y cy, A5, c5, _, rfl, rfl, by go_num, hlt, hst2, hown6, hbr5⟩
      case measure => simp [intOf]; omega
    · obtain rfl : i = xs.length := by omega
      obtain ⟨v1, v2⟩ := takeTo_sub (cs := xs) (ys := ys) (off := 0) (n := xs.length) (by omega) lx ly hle (by rw [Nat.pow_zero, Nat.one_mul]; exact hge)
      have k2 := takeTo_lim xs 0 ys xs.length lx
      have k3 := takeTo_length xs 0 ys xs.length
      rw [hst.out] at v2 k2 k3
      rw [Nat.pow_zero, Nat.one_mul] at v2
      simp only at k2 k3 v2
      rw [List.take_of_length_le (by omega)] at hown
      have hv := Lib.hid v2
      have hlen := Lib.hid k3.symm
      obtain ⟨A5, c5, he, -, hc1, hc2, hO⟩ := Own.of_row hown
      injection he with he _ he2
      subst he
      subst he2
      clear v1 v2 k3
      go_wp2_with fail
      refine (refTrim_any A2 _ c2 ds _ hlen.out hc1 (by omega) hO.rd k2).mono ?_
      rintro e w1 ⟨A', c', rfl, g1, g2, g3, g4⟩
      rw [hv.out] at g1 g3 ⊢
      go_wp2_with fail
      go_ret
      exact ⟨A', c', rfl, g1, g2, g3.mono hbel.size, hbel.trans (g4.mono hbel.size)⟩
set_option maxHeartbeats 800000 in
theorem refmul_any (A B : Option Addr) (n m c d : Nat) (xs ys : List Nat) (w : World) (hn : n = xs.length) (hm : m = ys.length) (hl : n ≤ 30000) (hl' : m ≤ 30000) (hx : Rd .u32 w A xs) (hy : Rd .u32 w B ys) (lx : Lim 4294967296 xs) (ly : Lim 4294967296 ys) :
    Calls Tryz.prog 105 #[.slice A n c, .slice B m d] w (Gives .u32 (limbs (val xs * val ys)) w) := by
  subst hn
  subst hm
  go_enter Tryz.func105, Tryz.ntmps105
  go_wp2_with (at_make; refine wpList_make_ints _ rfl _ _ _ rfl .u32 129 4 Tryz.underlying128 info_u32 _ _ (xs.length + ys.length) _ _ rfl rfl (by omega) (by omega) (by omega) (by omega) ?_; intro g w1 hg hw1 hs1 hb1)
  have hgl : w.heap.size ≤ g := by rw [hg.out]; exact Nat.le_refl _
  go_loopw [6] (fun t wr => ∃ i : Nat, t = .int .i64 i ∧ i ≤ xs.length ∧ Blk .u32 wr g (mulTo xs ys i) ∧ Below w.heap.size w wr) (fun t _ => xs.length - (intOf t).toNat)
  case atStart => exact ⟨0, rfl, Nat.zero_le _, hw1.blk, hb1⟩
  case round =>
    obtain ⟨i, rfl, hi, hbr, hbel⟩ := hrel
    by_cases hlt : i < xs.length
    · obtain ⟨a, hga⟩ := get_of_lt hlt
      obtain ⟨b, o, rfl, hbw, hcl⟩ := ((hx.below hbel).pos hga)
      have hab := lx.get hga
      have hlen := mulTo_length xs ys i
      have hlim := (mulTo_ok lx ly (Nat.le_of_lt hlt)).2.1
      have hfl := foldTo_length (mulTo xs ys i) i ys a ys.length
      obtain ⟨z, hz⟩ := get_of_lt (xs := (foldTo (mulTo xs ys i) i ys a ys.length).1) (i := i + ys.length) (by omega)
      have HS := Lib.hid (mulTo_succ (ys := ys) hga)
      have HZ := Lib.hid hz
      have HL := Lib.hid hlen
      have HFL := Lib.hid hfl
      have HA := Lib.hid hga
      clear hga hz hlen hfl hcl
      generalize mulTo xs ys i = cs at *
      go_wp2_with fail
      go_loopw [7, 8] (fun cy t wr' => ∃ k y : Nat, ∃ ds, k ≤ ys.length ∧ t = .int .i64 k ∧ cy = .int .u64 y ∧ Hid (foldTo cs i ys a k = (ds, y)) ∧ Blk .u32 wr' g ds ∧ Below w.heap.size w wr') (fun _ t _ => ys.length - (intOf t).toNat)
      case atStart => exact ⟨0, 0, cs, Nat.zero_le _, rfl, rfl, rfl, hbr, hbel⟩
      case round =>
        obtain ⟨k, cy, ds, hk, rfl, rfl, hf, hbr2, hbel2⟩ := hrel
        have hcy : cy < 4294967296 := by have := foldTo_carry cs i ys a k hab hlim ly; rwa [hf.out] at this
        by_cases hkl : k < ys.length
        · obtain ⟨y, hgy⟩ := get_of_lt hkl
          have hdl : i + k < ds.length := by have := foldTo_length cs i ys a k; rw [hf.out] at this; have := HL.out; simp at *; omega
          obtain ⟨x, hgx⟩ := get_of_lt hdl
          have hyb := ly.get hgy
          have hxb : x < 4294967296 := by have := foldTo_lim cs i ys a k hlim; rw [hf.out] at this; exact this.get hgx
          obtain ⟨b', o', rfl, hbw', hcy0⟩ := (hy.below hbel2).pos hgy
          have hcell := hcy0 k y hgy
          obtain ⟨b2, o2, e2, hbw2, hcx0⟩ := ((hx.below hbel2).pos HA.out)
          obtain ⟨rfl, rfl⟩ : b = b2 ∧ o = o2 := by injection e2 with e2; injection e2 with e2 e3 e4; exact ⟨e2, e3⟩
          have hca := hcx0 i a HA.out
          have hcx := hbr2.cell hgx
          have hfx := hbr2.frozen hgx
          have hml := mul_lim hab hyb
          have hstep := Lib.hid (foldTo_succ hgy hf.out hgx)
          have HG := Lib.hid hgx
          clear hcy0 hgy hgx hcx0 e2
          have hm := mask32 (a * y + x + cy) (by omega)
          rw [show ((a * y + x + cy : Nat) : Int) = (a : Int) * (y : Int) + (x : Int) + (cy : Int) by simp] at hm
          go_wp2_with fail
          go_quiet (fail)
          have hset := Lib.hid ((hbr2.drewN nq).set HG.out ((a * y + x + cy) % 4294967296))
          have hbel3 := below_drewN hbel2 nq
          go_wp2_with fail
          go_roundw
          case rel => exact ⟨k + 1, _, _, by omega, by go_num, by go_num, hstep.out, hset.out, hbel3.setCell hgl _⟩
          case measure => simp [intOf] <;> omega
        · obtain rfl : k = ys.length := by omega
          have hz := HZ.out
          rw [hf.out] at hz
          have hcz := hbr2.cell hz
          have hfz := hbr2.frozen hz
          have HT := Lib.hid (hbr2.set hz cy)
          have HSS := HS.out
          rw [hf.out] at HSS
          have HE := Lib.hid HSS
          clear hz HSS
          go_wp2_with fail
          go_roundw
          case rel => exact ⟨i + 1, by go_num, by omega, by rw [HE.out]; exact HT.out, hbel2.setCell hgl _⟩
          case measure => simp [intOf] <;> omega
    · obtain rfl : i = xs.length := by omega
      have hlen := Lib.hid (mulTo_length xs ys xs.length)
      have hok := mulTo_ok lx ly (Nat.le_refl xs.length)
      have hv := Lib.hid hok
      clear hok
      go_wp2_with fail
      refine (refTrim_any _ _ _ (mulTo xs ys xs.length) _ hlen.out.symm (Nat.le_refl _) (by omega) (Rd.of_all hbr) hv.out.2.1).mono ?_
      rintro e w1 ⟨A', c', rfl, g1, g2, g3, g4⟩
      rw [hv.out.1, List.take_of_length_le (Nat.le_refl _)] at g1 g3 ⊢
      go_wp2_with fail
      go_ret
      exact ⟨A', c', rfl, g1, g2, g3.mono hbel.size, hbel.trans (g4.mono hbel.size)⟩
end Go.Proofs.YtchaahnhpeoomaaGreat
namespace Go.Proofs.YtchaahnhpeoomaaGreat
set_option linter.unusedVariables false
set_option linter.unusedSimpArgs false
set_option maxRecDepth 20000
open Go.RowKit
def mulOf (xs ys : List Nat) : List Nat × Int := if isRight xs = true ∧ isRight ys = true then fitsOf (val xs * val ys) else ([], 1)
def subOf (xs ys : List Nat) : List Nat × Int := if isRight xs = true ∧ isRight ys = true ∧ val ys ≤ val xs then (limbs (val xs - val ys), 0) else ([], 1)
theorem not_and_bool {a b : Bool} (h : ¬ (a = true ∧ b = true)) : a = false ∨ b = false := by
  cases a <;> cases b <;> simp_all
set_option maxHeartbeats 400000 in
theorem refMul_all (A B : Option Addr) (n m c d : Nat) (xs ys : List Nat) (w : World) (hn : n = xs.length) (hm : m = ys.length) (hl : n ≤ 30000) (hl' : m ≤ 30000) (hx : Rd .u32 w A xs) (hy : Rd .u32 w B ys) (lx : Lim 4294967296 xs) (ly : Lim 4294967296 ys) :
    Calls Tryz.prog 72 #[.slice A n c, .slice B m d] w (Gives2 .u32 (mulOf xs ys).1 (mulOf xs ys).2 w) := by
  unfold mulOf
  by_cases h : isRight xs = true ∧ isRight ys = true
  · rw [if_pos h]
    obtain ⟨h1, h2⟩ := h
    subst hn
    subst hm
    have hfl : (limbs (val xs * val ys)).length ≤ 70000 := Nat.le_trans (limbs_length_le (k := xs.length + ys.length + 1) (by
      have k1 := val_lt lx
      have k2 := val_lt ly
      first
        | exact Nat.lt_of_lt_of_le (Nat.mul_lt_mul'' k1 k2) (by rw [← Nat.pow_add]; exact Nat.pow_le_pow_right (by omega) (by omega))
        | (have k3 : 4294967296 ^ xs.length ≤ 4294967296 ^ (xs.length + ys.length) := Nat.pow_le_pow_right (by omega) (by omega)
           have k4 : 4294967296 ^ ys.length ≤ 4294967296 ^ (xs.length + ys.length) := Nat.pow_le_pow_right (by omega) (by omega)
           rw [Nat.pow_succ]
           omega))) (by omega)
    have hr := Lib.hid (show ∀ v, (Gives .u32 (limbs v)) = Gives .u32 (limbs v) from fun _ => rfl)
    go_enter Tryz.func72, Tryz.ntmps72
    go_wp2_with fail
    refine (refRight_any _ _ c xs _ rfl (by omega) hx).mono ?_
    rintro e w' ⟨rfl, rfl⟩
    go_wp2_with fail
    refine (refRight_any _ _ d ys _ rfl (by omega) hy).mono ?_
    rintro e w' ⟨rfl, rfl⟩
    go_wp2_with fail
    refine (refmul_any A B _ _ c d xs ys _ rfl rfl hl hl' hx hy lx ly).mono ?_
    rintro e w1 ⟨A', c', rfl, g1, g2, g3, g4⟩
    generalize val xs * val ys = v at *
    go_wp2_with fail
    refine (fits_any A' c' v w1 w g1 g2 g3 g4 hfl).mono ?_
    rintro e w2 ⟨A2, c2, rfl, k1, k2, k3, k4⟩
    generalize fitsOf v = f at *
    go_wp2_with fail
    go_ret2
    exact ⟨A2, c2, rfl, k1, k2, k3, k4⟩
  · rw [if_neg h]
    exact refMul_arg A B n m c d xs ys w hn hm (by omega) (by omega) hx hy (not_and_bool h)
set_option maxHeartbeats 400000 in
theorem refSub_all (A B : Option Addr) (n m c d : Nat) (xs ys : List Nat) (w : World) (hn : n = xs.length) (hm : m = ys.length) (hl : n ≤ 30000) (hl' : m ≤ 30000) (hx : Rd .u32 w A xs) (hy : Rd .u32 w B ys) (lx : Lim 4294967296 xs) (ly : Lim 4294967296 ys) :
    Calls Tryz.prog 73 #[.slice A n c, .slice B m d] w (Gives2 .u32 (subOf xs ys).1 (subOf xs ys).2 w) := by
  subst hn
  subst hm
  cases r1 : isRight xs with
  | false =>
    have hs := Lib.hid (show subOf xs ys = ([], 1) by simp [subOf, r1])
    go_enter Tryz.func73, Tryz.ntmps73
    go_wp2_with fail
    refine (refRight_any _ _ c xs _ rfl (by omega) hx).mono ?_
    rintro e w' ⟨rfl, rfl⟩
    go_wp2_with fail
    go_ret2
    rw [hs.out]
    exact gives2_none _ _ _ _ (Below.refl _ _)
  | true =>
    cases r2 : isRight ys with
    | false =>
      have hs := Lib.hid (show subOf xs ys = ([], 1) by simp [subOf, r2])
      go_enter Tryz.func73, Tryz.ntmps73
      go_wp2_with fail
      refine (refRight_any _ _ c xs _ rfl (by omega) hx).mono ?_
      rintro e w' ⟨rfl, rfl⟩
      go_wp2_with fail
      refine (refRight_any _ _ d ys _ rfl (by omega) hy).mono ?_
      rintro e w' ⟨rfl, rfl⟩
      go_wp2_with fail
      go_ret2
      rw [hs.out]
      exact gives2_none _ _ _ _ (Below.refl _ _)
    | true =>
      obtain ⟨cp, hcp⟩ : ∃ cp, cp = cmpN (val xs) (val ys) := ⟨_, rfl⟩
      have hcmp := Lib.hid (show ∀ w, Rd .u32 w A xs → Rd .u32 w B ys → Calls Tryz.prog 106 #[.slice A xs.length c, .slice B ys.length d] w (Quiet (.int .i64 cp) w) from fun w hx hy => by rw [hcp]; exact refcmp_any A B _ _ c d xs ys w rfl rfl (by omega) (by omega) hx hy (isRight_canon lx r1) (isRight_canon ly r2))
      have cx := isRight_canon lx r1
      have cy := isRight_canon ly r2
      have hbd := cmpN_bd (val xs) (val ys)
      rw [← hcp] at hbd
      by_cases hlt : val xs < val ys
      · have hs := Lib.hid (show subOf xs ys = ([], 1) by simp [subOf]; omega)
        have hc : cp = -1 := by rw [hcp]; exact cmpN_lt hlt
        subst hc
        clear hcp
        go_enter Tryz.func73, Tryz.ntmps73
        go_wp2_with fail
        refine (refRight_any _ _ c xs _ rfl (by omega) hx).mono ?_
        rintro e w' ⟨rfl, rfl⟩
        go_wp2_with fail
        refine (refRight_any _ _ d ys _ rfl (by omega) hy).mono ?_
        rintro e w' ⟨rfl, rfl⟩
        go_wp2_with fail
        refine (hcmp.out _ hx hy).mono ?_
        rintro e w' ⟨rfl, q, rfl⟩
        go_wp2_with fail
        go_ret2
        rw [hs.out]
        exact gives2_none _ _ _ _ (below_drewN (Below.refl _ _) q)
      · have hs := Lib.hid (show subOf xs ys = (limbs (val xs - val ys), 0) by simp [subOf, r1, r2]; omega)
        have hlen : ys.length ≤ xs.length := by
          rcases Nat.lt_or_ge xs.length ys.length with h | h
          · have := val_lt_of_len lx cy h
            omega
          · exact h
        have hc : 0 ≤ cp := by
          have := (cmpN_neg (a := val xs) (b := val ys))
          rw [← hcp] at this
          omega
        have hge : val ys ≤ val xs := by omega
        have hd : decide (cp < 0) = false := by simp; omega
        clear hcp hlt
        go_enter Tryz.func73, Tryz.ntmps73
        go_wp2_with fail
        refine (refRight_any _ _ c xs _ rfl (by omega) hx).mono ?_
        rintro e w' ⟨rfl, rfl⟩
        go_wp2_with fail
        refine (refRight_any _ _ d ys _ rfl (by omega) hy).mono ?_
        rintro e w' ⟨rfl, rfl⟩
        go_wp2_with fail
        refine (hcmp.out _ hx hy).mono ?_
        rintro e w' ⟨rfl, q, rfl⟩
        go_wp2_with fail
        refine (refsub_any A B _ _ c d xs ys _ rfl rfl hl (hx.drewN q) (hy.drewN q) lx ly hlen hge).mono ?_
        rintro e w1 ⟨A', c', rfl, g1, g2, g3, g4⟩
        go_wp2_with fail
        go_ret2
        rw [hs.out]
        exact ⟨A', c', rfl, g1, g2, g3, (below_drewN (Below.refl _ _) q).trans g4⟩
end Go.Proofs.YtchaahnhpeoomaaGreat
namespace Go.Proofs.YtchaahnhpeoomaaGreat
set_option linter.unusedVariables false
set_option linter.unusedSimpArgs false
set_option maxRecDepth 20000
open Go.RowKit
end Go.Proofs.YtchaahnhpeoomaaGreat
namespace Go.Proofs.YtchaahnhpeoomaaGreat
set_option linter.unusedVariables false
set_option linter.unusedSimpArgs false
set_option maxRecDepth 20000
open Go.RowKit
end Go.Proofs.YtchaahnhpeoomaaGreat
namespace Go.Proofs.YtchaahnhpeoomaaGreat
set_option linter.unusedVariables false
set_option linter.unusedSimpArgs false
set_option maxRecDepth 20000
open Go.RowKit
end Go.Proofs.YtchaahnhpeoomaaGreat
