/-
  The walk of the statement NatOrder: of any three numbers the order is one, it goes through, and adding the same to both keeps it.
-/
import Derived.Test.YtglmplkjljgbbaaNatO
namespace Go.Proofs.Ytglmplkjljgbbaa
set_option linter.unusedVariables false
set_option linter.unusedSimpArgs false
open Go.RowKit

theorem order_lens {a b g k : Nat} (hk : k + 1 ≤ 256) (ha : a < 4294967296 ^ k) (hb : b < 4294967296 ^ k) (hc : g < 4294967296 ^ k) :
    (limbs a).length ≤ 256 ∧ (limbs b).length ≤ 256 ∧ (limbs g).length ≤ 256 ∧ (limbs (a + g)).length ≤ 256 ∧ (limbs (b + g)).length ≤ 256 :=
  ⟨len_256 ha (by omega), len_256 hb (by omega), len_256 hc (by omega), len_256 (len_add ha hc) (by omega), len_256 (len_add hb hc) (by omega)⟩

set_option maxRecDepth 100000 in
set_option maxHeartbeats 6400000 in
theorem natOrder_any (A B C : Option Addr) (n m k c d f : Nat) (xs ys zs : List Nat) (w : World) (hn : n = xs.length) (hm : m = ys.length) (hk : k = zs.length) (hnc : n ≤ c) (hmd : m ≤ d) (hkf : k ≤ f) (hnl : n ≤ 9223372036854775807) (hml : m ≤ 9223372036854775807) (hkl : k ≤ 9223372036854775807)
    (hx : Rd .u32 w A xs) (hy : Rd .u32 w B ys) (hz : Rd .u32 w C zs) (lx : Lim 4294967296 xs) (ly : Lim 4294967296 ys) (lz : Lim 4294967296 zs) :
    Calls Try.prog 5 #[.slice A n c, .slice B m d, .slice C k f] w (Yes w) := by
  subst hn
  subst hm
  subst hk
  have ha := briefOf_lt xs 80 lx
  have hb := briefOf_lt ys 80 ly
  have hc := briefOf_lt zs 80 lz
  obtain ⟨a, hae⟩ : ∃ a, a = briefOf xs 80 := ⟨_, rfl⟩
  obtain ⟨b, hbe⟩ : ∃ b, b = briefOf ys 80 := ⟨_, rfl⟩
  obtain ⟨g, hge⟩ : ∃ g, g = briefOf zs 80 := ⟨_, rfl⟩
  rw [← hae] at ha
  rw [← hbe] at hb
  rw [← hge] at hc
  obtain ⟨la, lb, lg, lp, lq⟩ := order_lens (k := 80) (by decide) ha hb hc
  clear ha hb hc
  have HA := Lib.hid hae
  have HB := Lib.hid hbe
  have HG := Lib.hid hge
  have hbel := Below.refl w.heap.size w
  clear hae hbe hge
  have HS := Lib.hid (cmpN_self a)
  rcases Nat.lt_trichotomy a b with hab | hab | hab
  · have H1 := Lib.hid (show cmpN (a) (b) = -1 from cmpN_lt (by omega))
    have H2 := Lib.hid (show cmpN (b) (a) = 1 from cmpN_gt (by omega))
    have H3 := Lib.hid (show decide (a = b) = false by simp; omega)
    have H5 := Lib.hid (show cmpN (a + g) (b + g) = -1 from cmpN_lt (by omega))
    rcases Nat.lt_trichotomy b g with hbg | hbg | hbg
    · have H4 := Lib.hid (show cmpN (b) (g) = -1 from cmpN_lt (by omega))
      have H6 := Lib.hid (show cmpN (a) (g) = -1 from cmpN_lt (by omega))
      go_enter Try.func5, Try.ntmps5
      go_wp2_with fail
      have h0 := briefL A xs.length c xs 80 _ rfl (by omega) (by omega) (by omega) hx lx
      rw [← HA.out] at h0
      refine h0.mono ?_
      rintro e w1 ⟨A1, c1, rfl, _, _, ho1, hb1⟩
      clear h0
      replace hx := hx.below hb1
      replace hy := hy.below hb1
      replace hz := hz.below hb1
      replace hbel := hbel.trans (hb1.mono hbel.size)
      have ra := ho1.rd
      clear ho1 hb1
      go_wp2_with fail
      have h0 := briefL B ys.length d ys 80 _ rfl (by omega) (by omega) (by omega) hy ly
      rw [← HB.out] at h0
      refine h0.mono ?_
      rintro e w2 ⟨A2, c2, rfl, _, _, ho2, hb2⟩
      clear h0
      replace hx := hx.below hb2
      replace hy := hy.below hb2
      replace hz := hz.below hb2
      replace ra := ra.below hb2
      replace hbel := hbel.trans (hb2.mono hbel.size)
      have rb := ho2.rd
      clear ho2 hb2
      go_wp2_with fail
      have h0 := briefL C zs.length f zs 80 _ rfl (by omega) (by omega) (by omega) hz lz
      rw [← HG.out] at h0
      refine h0.mono ?_
      rintro e w3 ⟨A3, c3, rfl, _, _, ho3, hb3⟩
      clear h0
      replace hx := hx.below hb3
      replace hy := hy.below hb3
      replace hz := hz.below hb3
      replace ra := ra.below hb3
      replace rb := rb.below hb3
      replace hbel := hbel.trans (hb3.mono hbel.size)
      have rg := ho3.rd
      clear ho3 hb3
      go_wp2_with fail
      refine (cmpL _ _ _ _ _ _ _ ra rb la lb).mono ?_
      rintro e w4 ⟨rfl, q4, rfl⟩
      replace ra := ra.drewN q4
      replace rb := rb.drewN q4
      replace rg := rg.drewN q4
      replace hbel := below_drewN hbel q4
      rw [H1.out]
      go_wp2_with fail
      refine (cmpL _ _ _ _ _ _ _ rb ra lb la).mono ?_
      rintro e w5 ⟨rfl, q5, rfl⟩
      replace ra := ra.drewN q5
      replace rb := rb.drewN q5
      replace rg := rg.drewN q5
      replace hbel := below_drewN hbel q5
      rw [World.drewN_drewN] at hbel ra rb rg
      rw [H2.out]
      go_wp2_with fail
      refine (sameL _ _ _ _ _ _ _ ra rb la lb).mono ?_
      rintro e w6 ⟨rfl, q6, rfl⟩
      replace ra := ra.drewN q6
      replace rb := rb.drewN q6
      replace rg := rg.drewN q6
      replace hbel := below_drewN hbel q6
      rw [World.drewN_drewN] at hbel ra rb rg
      rw [H3.out]
      go_wp2_with fail
      refine (cmpL _ _ _ _ _ _ _ ra ra la la).mono ?_
      rintro e w7 ⟨rfl, q7, rfl⟩
      replace ra := ra.drewN q7
      replace rb := rb.drewN q7
      replace rg := rg.drewN q7
      replace hbel := below_drewN hbel q7
      rw [World.drewN_drewN] at hbel ra rb rg
      rw [HS.out]
      go_wp2_with fail
      refine (cmpL _ _ _ _ _ _ _ rb rg lb lg).mono ?_
      rintro e w8 ⟨rfl, q8, rfl⟩
      replace ra := ra.drewN q8
      replace rb := rb.drewN q8
      replace rg := rg.drewN q8
      replace hbel := below_drewN hbel q8
      rw [World.drewN_drewN] at hbel ra rb rg
      rw [H4.out]
      go_wp2_with fail
      refine (cmpL _ _ _ _ _ _ _ ra rg la lg).mono ?_
      rintro e w9 ⟨rfl, q9, rfl⟩
      replace ra := ra.drewN q9
      replace rb := rb.drewN q9
      replace rg := rg.drewN q9
      replace hbel := below_drewN hbel q9
      rw [World.drewN_drewN] at hbel ra rb rg
      rw [H6.out]
      go_wp2_with fail
      refine (addL _ _ _ _ _ _ _ ra rg la lg lp).mono ?_
      rintro e w10 ⟨A10, c10, rfl, _, _, ho10, hb10⟩
      replace ra := ra.below hb10
      replace rb := rb.below hb10
      replace rg := rg.below hb10
      replace hbel := hbel.trans (hb10.mono hbel.size)
      have rp := ho10.rd
      clear ho10 hb10
      go_wp2_with fail
      refine (addL _ _ _ _ _ _ _ rb rg lb lg lq).mono ?_
      rintro e w11 ⟨A11, c11, rfl, _, _, ho11, hb11⟩
      replace ra := ra.below hb11
      replace rb := rb.below hb11
      replace rg := rg.below hb11
      replace rp := rp.below hb11
      replace hbel := hbel.trans (hb11.mono hbel.size)
      have rq := ho11.rd
      clear ho11 hb11
      go_wp2_with fail
      refine (cmpL _ _ _ _ _ _ _ rp rq lp lq).mono ?_
      rintro e w12 ⟨rfl, q12, rfl⟩
      replace ra := ra.drewN q12
      replace rb := rb.drewN q12
      replace rg := rg.drewN q12
      replace rp := rp.drewN q12
      replace rq := rq.drewN q12
      replace hbel := below_drewN hbel q12
      rw [H5.out]
      go_wp2_with fail
      refine (bitsL _ _ _ _ ra la).mono ?_
      rintro e w13 ⟨rfl, rfl⟩
      go_wp2_with fail
      refine (bitsL _ _ _ _ rb lb).mono ?_
      rintro e w14 ⟨rfl, rfl⟩
      go_wp2_with fail
      all_goals
        skip
        refine (works_any _).mono ?_
        rintro e w15 ⟨rfl, hb15⟩
        go_wp2_with fail
        go_ret
        exact ⟨rfl, hbel.trans (hb15.mono hbel.size)⟩
    · have H4 := Lib.hid (show cmpN (b) (g) = 0 from cmpN_eq_zero.2 (by omega))
      have H6 := Lib.hid (show cmpN (a) (g) = -1 from cmpN_lt (by omega))
      clear hbg
      go_enter Try.func5, Try.ntmps5
      go_wp2_with fail
      have h0 := briefL A xs.length c xs 80 _ rfl (by omega) (by omega) (by omega) hx lx
      rw [← HA.out] at h0
      refine h0.mono ?_
      rintro e w1 ⟨A1, c1, rfl, _, _, ho1, hb1⟩
      clear h0
      replace hx := hx.below hb1
      replace hy := hy.below hb1
      replace hz := hz.below hb1
      replace hbel := hbel.trans (hb1.mono hbel.size)
      have ra := ho1.rd
      clear ho1 hb1
      go_wp2_with fail
      have h0 := briefL B ys.length d ys 80 _ rfl (by omega) (by omega) (by omega) hy ly
      rw [← HB.out] at h0
      refine h0.mono ?_
      rintro e w2 ⟨A2, c2, rfl, _, _, ho2, hb2⟩
      clear h0
      replace hx := hx.below hb2
      replace hy := hy.below hb2
      replace hz := hz.below hb2
      replace ra := ra.below hb2
      replace hbel := hbel.trans (hb2.mono hbel.size)
      have rb := ho2.rd
      clear ho2 hb2
      go_wp2_with fail
      have h0 := briefL C zs.length f zs 80 _ rfl (by omega) (by omega) (by omega) hz lz
      rw [← HG.out] at h0
      refine h0.mono ?_
      rintro e w3 ⟨A3, c3, rfl, _, _, ho3, hb3⟩
      clear h0
      replace hx := hx.below hb3
      replace hy := hy.below hb3
      replace hz := hz.below hb3
      replace ra := ra.below hb3
      replace rb := rb.below hb3
      replace hbel := hbel.trans (hb3.mono hbel.size)
      have rg := ho3.rd
      clear ho3 hb3
      go_wp2_with fail
      refine (cmpL _ _ _ _ _ _ _ ra rb la lb).mono ?_
      rintro e w4 ⟨rfl, q4, rfl⟩
      replace ra := ra.drewN q4
      replace rb := rb.drewN q4
      replace rg := rg.drewN q4
      replace hbel := below_drewN hbel q4
      rw [H1.out]
      go_wp2_with fail
      refine (cmpL _ _ _ _ _ _ _ rb ra lb la).mono ?_
      rintro e w5 ⟨rfl, q5, rfl⟩
      replace ra := ra.drewN q5
      replace rb := rb.drewN q5
      replace rg := rg.drewN q5
      replace hbel := below_drewN hbel q5
      rw [World.drewN_drewN] at hbel ra rb rg
      rw [H2.out]
      go_wp2_with fail
      refine (sameL _ _ _ _ _ _ _ ra rb la lb).mono ?_
      rintro e w6 ⟨rfl, q6, rfl⟩
      replace ra := ra.drewN q6
      replace rb := rb.drewN q6
      replace rg := rg.drewN q6
      replace hbel := below_drewN hbel q6
      rw [World.drewN_drewN] at hbel ra rb rg
      rw [H3.out]
      go_wp2_with fail
      refine (cmpL _ _ _ _ _ _ _ ra ra la la).mono ?_
      rintro e w7 ⟨rfl, q7, rfl⟩
      replace ra := ra.drewN q7
      replace rb := rb.drewN q7
      replace rg := rg.drewN q7
      replace hbel := below_drewN hbel q7
      rw [World.drewN_drewN] at hbel ra rb rg
      rw [HS.out]
      go_wp2_with fail
      refine (cmpL _ _ _ _ _ _ _ rb rg lb lg).mono ?_
      rintro e w8 ⟨rfl, q8, rfl⟩
      replace ra := ra.drewN q8
      replace rb := rb.drewN q8
      replace rg := rg.drewN q8
      replace hbel := below_drewN hbel q8
      rw [World.drewN_drewN] at hbel ra rb rg
      rw [H4.out]
      go_wp2_with fail
      refine (cmpL _ _ _ _ _ _ _ ra rg la lg).mono ?_
      rintro e w9 ⟨rfl, q9, rfl⟩
      replace ra := ra.drewN q9
      replace rb := rb.drewN q9
      replace rg := rg.drewN q9
      replace hbel := below_drewN hbel q9
      rw [World.drewN_drewN] at hbel ra rb rg
      rw [H6.out]
      go_wp2_with fail
      refine (addL _ _ _ _ _ _ _ ra rg la lg lp).mono ?_
      rintro e w10 ⟨A10, c10, rfl, _, _, ho10, hb10⟩
      replace ra := ra.below hb10
      replace rb := rb.below hb10
      replace rg := rg.below hb10
      replace hbel := hbel.trans (hb10.mono hbel.size)
      have rp := ho10.rd
      clear ho10 hb10
      go_wp2_with fail
      refine (addL _ _ _ _ _ _ _ rb rg lb lg lq).mono ?_
      rintro e w11 ⟨A11, c11, rfl, _, _, ho11, hb11⟩
      replace ra := ra.below hb11
      replace rb := rb.below hb11
      replace rg := rg.below hb11
      replace rp := rp.below hb11
      replace hbel := hbel.trans (hb11.mono hbel.size)
      have rq := ho11.rd
      clear ho11 hb11
      go_wp2_with fail
      refine (cmpL _ _ _ _ _ _ _ rp rq lp lq).mono ?_
      rintro e w12 ⟨rfl, q12, rfl⟩
      replace ra := ra.drewN q12
      replace rb := rb.drewN q12
      replace rg := rg.drewN q12
      replace rp := rp.drewN q12
      replace rq := rq.drewN q12
      replace hbel := below_drewN hbel q12
      rw [H5.out]
      go_wp2_with fail
      refine (bitsL _ _ _ _ ra la).mono ?_
      rintro e w13 ⟨rfl, rfl⟩
      go_wp2_with fail
      refine (bitsL _ _ _ _ rb lb).mono ?_
      rintro e w14 ⟨rfl, rfl⟩
      go_wp2_with fail
      all_goals
        skip
        refine (works_any _).mono ?_
        rintro e w15 ⟨rfl, hb15⟩
        go_wp2_with fail
        go_ret
        exact ⟨rfl, hbel.trans (hb15.mono hbel.size)⟩
    · have H4 := Lib.hid (show cmpN (b) (g) = 1 from cmpN_gt (by omega))
      go_enter Try.func5, Try.ntmps5
      go_wp2_with fail
      have h0 := briefL A xs.length c xs 80 _ rfl (by omega) (by omega) (by omega) hx lx
      rw [← HA.out] at h0
      refine h0.mono ?_
      rintro e w1 ⟨A1, c1, rfl, _, _, ho1, hb1⟩
      clear h0
      replace hx := hx.below hb1
      replace hy := hy.below hb1
      replace hz := hz.below hb1
      replace hbel := hbel.trans (hb1.mono hbel.size)
      have ra := ho1.rd
      clear ho1 hb1
      go_wp2_with fail
      have h0 := briefL B ys.length d ys 80 _ rfl (by omega) (by omega) (by omega) hy ly
      rw [← HB.out] at h0
      refine h0.mono ?_
      rintro e w2 ⟨A2, c2, rfl, _, _, ho2, hb2⟩
      clear h0
      replace hx := hx.below hb2
      replace hy := hy.below hb2
      replace hz := hz.below hb2
      replace ra := ra.below hb2
      replace hbel := hbel.trans (hb2.mono hbel.size)
      have rb := ho2.rd
      clear ho2 hb2
      go_wp2_with fail
      have h0 := briefL C zs.length f zs 80 _ rfl (by omega) (by omega) (by omega) hz lz
      rw [← HG.out] at h0
      refine h0.mono ?_
      rintro e w3 ⟨A3, c3, rfl, _, _, ho3, hb3⟩
      clear h0
      replace hx := hx.below hb3
      replace hy := hy.below hb3
      replace hz := hz.below hb3
      replace ra := ra.below hb3
      replace rb := rb.below hb3
      replace hbel := hbel.trans (hb3.mono hbel.size)
      have rg := ho3.rd
      clear ho3 hb3
      go_wp2_with fail
      refine (cmpL _ _ _ _ _ _ _ ra rb la lb).mono ?_
      rintro e w4 ⟨rfl, q4, rfl⟩
      replace ra := ra.drewN q4
      replace rb := rb.drewN q4
      replace rg := rg.drewN q4
      replace hbel := below_drewN hbel q4
      rw [H1.out]
      go_wp2_with fail
      refine (cmpL _ _ _ _ _ _ _ rb ra lb la).mono ?_
      rintro e w5 ⟨rfl, q5, rfl⟩
      replace ra := ra.drewN q5
      replace rb := rb.drewN q5
      replace rg := rg.drewN q5
      replace hbel := below_drewN hbel q5
      rw [World.drewN_drewN] at hbel ra rb rg
      rw [H2.out]
      go_wp2_with fail
      refine (sameL _ _ _ _ _ _ _ ra rb la lb).mono ?_
      rintro e w6 ⟨rfl, q6, rfl⟩
      replace ra := ra.drewN q6
      replace rb := rb.drewN q6
      replace rg := rg.drewN q6
      replace hbel := below_drewN hbel q6
      rw [World.drewN_drewN] at hbel ra rb rg
      rw [H3.out]
      go_wp2_with fail
      refine (cmpL _ _ _ _ _ _ _ ra ra la la).mono ?_
      rintro e w7 ⟨rfl, q7, rfl⟩
      replace ra := ra.drewN q7
      replace rb := rb.drewN q7
      replace rg := rg.drewN q7
      replace hbel := below_drewN hbel q7
      rw [World.drewN_drewN] at hbel ra rb rg
      rw [HS.out]
      go_wp2_with fail
      refine (cmpL _ _ _ _ _ _ _ rb rg lb lg).mono ?_
      rintro e w8 ⟨rfl, q8, rfl⟩
      replace ra := ra.drewN q8
      replace rb := rb.drewN q8
      replace rg := rg.drewN q8
      replace hbel := below_drewN hbel q8
      rw [World.drewN_drewN] at hbel ra rb rg
      rw [H4.out]
      go_wp2_with fail
      refine (addL _ _ _ _ _ _ _ ra rg la lg lp).mono ?_
      rintro e w9 ⟨A9, c9, rfl, _, _, ho9, hb9⟩
      replace ra := ra.below hb9
      replace rb := rb.below hb9
      replace rg := rg.below hb9
      replace hbel := hbel.trans (hb9.mono hbel.size)
      have rp := ho9.rd
      clear ho9 hb9
      go_wp2_with fail
      refine (addL _ _ _ _ _ _ _ rb rg lb lg lq).mono ?_
      rintro e w10 ⟨A10, c10, rfl, _, _, ho10, hb10⟩
      replace ra := ra.below hb10
      replace rb := rb.below hb10
      replace rg := rg.below hb10
      replace rp := rp.below hb10
      replace hbel := hbel.trans (hb10.mono hbel.size)
      have rq := ho10.rd
      clear ho10 hb10
      go_wp2_with fail
      refine (cmpL _ _ _ _ _ _ _ rp rq lp lq).mono ?_
      rintro e w11 ⟨rfl, q11, rfl⟩
      replace ra := ra.drewN q11
      replace rb := rb.drewN q11
      replace rg := rg.drewN q11
      replace rp := rp.drewN q11
      replace rq := rq.drewN q11
      replace hbel := below_drewN hbel q11
      rw [H5.out]
      go_wp2_with fail
      refine (bitsL _ _ _ _ ra la).mono ?_
      rintro e w12 ⟨rfl, rfl⟩
      go_wp2_with fail
      refine (bitsL _ _ _ _ rb lb).mono ?_
      rintro e w13 ⟨rfl, rfl⟩
      go_wp2_with fail
      all_goals
        skip
        refine (works_any _).mono ?_
        rintro e w14 ⟨rfl, hb14⟩
        go_wp2_with fail
        go_ret
        exact ⟨rfl, hbel.trans (hb14.mono hbel.size)⟩
  · have H1 := Lib.hid (show cmpN (a) (b) = 0 from cmpN_eq_zero.2 (by omega))
    have H2 := Lib.hid (show cmpN (b) (a) = 0 from cmpN_eq_zero.2 (by omega))
    have H3 := Lib.hid (show decide (a = b) = true by simp [hab])
    have H5 := Lib.hid (show cmpN (a + g) (b + g) = 0 from cmpN_eq_zero.2 (by omega))
    have hbits : nbits b ≤ nbits a := nbits_mono (show b ≤ a by omega)
    rcases Nat.lt_trichotomy b g with hbg | hbg | hbg
    · have H4 := Lib.hid (show cmpN (b) (g) = -1 from cmpN_lt (by omega))
      have H6 := Lib.hid (show cmpN (a) (g) = -1 from cmpN_lt (by omega))
      clear hab
      go_enter Try.func5, Try.ntmps5
      go_wp2_with fail
      have h0 := briefL A xs.length c xs 80 _ rfl (by omega) (by omega) (by omega) hx lx
      rw [← HA.out] at h0
      refine h0.mono ?_
      rintro e w1 ⟨A1, c1, rfl, _, _, ho1, hb1⟩
      clear h0
      replace hx := hx.below hb1
      replace hy := hy.below hb1
      replace hz := hz.below hb1
      replace hbel := hbel.trans (hb1.mono hbel.size)
      have ra := ho1.rd
      clear ho1 hb1
      go_wp2_with fail
      have h0 := briefL B ys.length d ys 80 _ rfl (by omega) (by omega) (by omega) hy ly
      rw [← HB.out] at h0
      refine h0.mono ?_
      rintro e w2 ⟨A2, c2, rfl, _, _, ho2, hb2⟩
      clear h0
      replace hx := hx.below hb2
      replace hy := hy.below hb2
      replace hz := hz.below hb2
      replace ra := ra.below hb2
      replace hbel := hbel.trans (hb2.mono hbel.size)
      have rb := ho2.rd
      clear ho2 hb2
      go_wp2_with fail
      have h0 := briefL C zs.length f zs 80 _ rfl (by omega) (by omega) (by omega) hz lz
      rw [← HG.out] at h0
      refine h0.mono ?_
      rintro e w3 ⟨A3, c3, rfl, _, _, ho3, hb3⟩
      clear h0
      replace hx := hx.below hb3
      replace hy := hy.below hb3
      replace hz := hz.below hb3
      replace ra := ra.below hb3
      replace rb := rb.below hb3
      replace hbel := hbel.trans (hb3.mono hbel.size)
      have rg := ho3.rd
      clear ho3 hb3
      go_wp2_with fail
      refine (cmpL _ _ _ _ _ _ _ ra rb la lb).mono ?_
      rintro e w4 ⟨rfl, q4, rfl⟩
      replace ra := ra.drewN q4
      replace rb := rb.drewN q4
      replace rg := rg.drewN q4
      replace hbel := below_drewN hbel q4
      rw [H1.out]
      go_wp2_with fail
      refine (cmpL _ _ _ _ _ _ _ rb ra lb la).mono ?_
      rintro e w5 ⟨rfl, q5, rfl⟩
      replace ra := ra.drewN q5
      replace rb := rb.drewN q5
      replace rg := rg.drewN q5
      replace hbel := below_drewN hbel q5
      rw [World.drewN_drewN] at hbel ra rb rg
      rw [H2.out]
      go_wp2_with fail
      refine (sameL _ _ _ _ _ _ _ ra rb la lb).mono ?_
      rintro e w6 ⟨rfl, q6, rfl⟩
      replace ra := ra.drewN q6
      replace rb := rb.drewN q6
      replace rg := rg.drewN q6
      replace hbel := below_drewN hbel q6
      rw [World.drewN_drewN] at hbel ra rb rg
      rw [H3.out]
      go_wp2_with fail
      refine (cmpL _ _ _ _ _ _ _ ra ra la la).mono ?_
      rintro e w7 ⟨rfl, q7, rfl⟩
      replace ra := ra.drewN q7
      replace rb := rb.drewN q7
      replace rg := rg.drewN q7
      replace hbel := below_drewN hbel q7
      rw [World.drewN_drewN] at hbel ra rb rg
      rw [HS.out]
      go_wp2_with fail
      refine (cmpL _ _ _ _ _ _ _ rb rg lb lg).mono ?_
      rintro e w8 ⟨rfl, q8, rfl⟩
      replace ra := ra.drewN q8
      replace rb := rb.drewN q8
      replace rg := rg.drewN q8
      replace hbel := below_drewN hbel q8
      rw [World.drewN_drewN] at hbel ra rb rg
      rw [H4.out]
      go_wp2_with fail
      refine (cmpL _ _ _ _ _ _ _ ra rg la lg).mono ?_
      rintro e w9 ⟨rfl, q9, rfl⟩
      replace ra := ra.drewN q9
      replace rb := rb.drewN q9
      replace rg := rg.drewN q9
      replace hbel := below_drewN hbel q9
      rw [World.drewN_drewN] at hbel ra rb rg
      rw [H6.out]
      go_wp2_with fail
      refine (addL _ _ _ _ _ _ _ ra rg la lg lp).mono ?_
      rintro e w10 ⟨A10, c10, rfl, _, _, ho10, hb10⟩
      replace ra := ra.below hb10
      replace rb := rb.below hb10
      replace rg := rg.below hb10
      replace hbel := hbel.trans (hb10.mono hbel.size)
      have rp := ho10.rd
      clear ho10 hb10
      go_wp2_with fail
      refine (addL _ _ _ _ _ _ _ rb rg lb lg lq).mono ?_
      rintro e w11 ⟨A11, c11, rfl, _, _, ho11, hb11⟩
      replace ra := ra.below hb11
      replace rb := rb.below hb11
      replace rg := rg.below hb11
      replace rp := rp.below hb11
      replace hbel := hbel.trans (hb11.mono hbel.size)
      have rq := ho11.rd
      clear ho11 hb11
      go_wp2_with fail
      refine (cmpL _ _ _ _ _ _ _ rp rq lp lq).mono ?_
      rintro e w12 ⟨rfl, q12, rfl⟩
      replace ra := ra.drewN q12
      replace rb := rb.drewN q12
      replace rg := rg.drewN q12
      replace rp := rp.drewN q12
      replace rq := rq.drewN q12
      replace hbel := below_drewN hbel q12
      rw [H5.out]
      go_wp2_with fail
      refine (bitsL _ _ _ _ ra la).mono ?_
      rintro e w13 ⟨rfl, rfl⟩
      go_wp2_with fail
      refine (bitsL _ _ _ _ rb lb).mono ?_
      rintro e w14 ⟨rfl, rfl⟩
      go_wp2_with fail
      refine (works_any _).mono ?_
      rintro e w15 ⟨rfl, hb15⟩
      go_wp2_with fail
      go_ret
      exact ⟨rfl, hbel.trans (hb15.mono hbel.size)⟩
    · have H4 := Lib.hid (show cmpN (b) (g) = 0 from cmpN_eq_zero.2 (by omega))
      have H6 := Lib.hid (show cmpN (a) (g) = 0 from cmpN_eq_zero.2 (by omega))
      clear hab
      clear hbg
      go_enter Try.func5, Try.ntmps5
      go_wp2_with fail
      have h0 := briefL A xs.length c xs 80 _ rfl (by omega) (by omega) (by omega) hx lx
      rw [← HA.out] at h0
      refine h0.mono ?_
      rintro e w1 ⟨A1, c1, rfl, _, _, ho1, hb1⟩
      clear h0
      replace hx := hx.below hb1
      replace hy := hy.below hb1
      replace hz := hz.below hb1
      replace hbel := hbel.trans (hb1.mono hbel.size)
      have ra := ho1.rd
      clear ho1 hb1
      go_wp2_with fail
      have h0 := briefL B ys.length d ys 80 _ rfl (by omega) (by omega) (by omega) hy ly
      rw [← HB.out] at h0
      refine h0.mono ?_
      rintro e w2 ⟨A2, c2, rfl, _, _, ho2, hb2⟩
      clear h0
      replace hx := hx.below hb2
      replace hy := hy.below hb2
      replace hz := hz.below hb2
      replace ra := ra.below hb2
      replace hbel := hbel.trans (hb2.mono hbel.size)
      have rb := ho2.rd
      clear ho2 hb2
      go_wp2_with fail
      have h0 := briefL C zs.length f zs 80 _ rfl (by omega) (by omega) (by omega) hz lz
      rw [← HG.out] at h0
      refine h0.mono ?_
      rintro e w3 ⟨A3, c3, rfl, _, _, ho3, hb3⟩
      clear h0
      replace hx := hx.below hb3
      replace hy := hy.below hb3
      replace hz := hz.below hb3
      replace ra := ra.below hb3
      replace rb := rb.below hb3
      replace hbel := hbel.trans (hb3.mono hbel.size)
      have rg := ho3.rd
      clear ho3 hb3
      go_wp2_with fail
      refine (cmpL _ _ _ _ _ _ _ ra rb la lb).mono ?_
      rintro e w4 ⟨rfl, q4, rfl⟩
      replace ra := ra.drewN q4
      replace rb := rb.drewN q4
      replace rg := rg.drewN q4
      replace hbel := below_drewN hbel q4
      rw [H1.out]
      go_wp2_with fail
      refine (cmpL _ _ _ _ _ _ _ rb ra lb la).mono ?_
      rintro e w5 ⟨rfl, q5, rfl⟩
      replace ra := ra.drewN q5
      replace rb := rb.drewN q5
      replace rg := rg.drewN q5
      replace hbel := below_drewN hbel q5
      rw [World.drewN_drewN] at hbel ra rb rg
      rw [H2.out]
      go_wp2_with fail
      refine (sameL _ _ _ _ _ _ _ ra rb la lb).mono ?_
      rintro e w6 ⟨rfl, q6, rfl⟩
      replace ra := ra.drewN q6
      replace rb := rb.drewN q6
      replace rg := rg.drewN q6
      replace hbel := below_drewN hbel q6
      rw [World.drewN_drewN] at hbel ra rb rg
      rw [H3.out]
      go_wp2_with fail
      refine (cmpL _ _ _ _ _ _ _ ra ra la la).mono ?_
      rintro e w7 ⟨rfl, q7, rfl⟩
      replace ra := ra.drewN q7
      replace rb := rb.drewN q7
      replace rg := rg.drewN q7
      replace hbel := below_drewN hbel q7
      rw [World.drewN_drewN] at hbel ra rb rg
      rw [HS.out]
      go_wp2_with fail
      refine (cmpL _ _ _ _ _ _ _ rb rg lb lg).mono ?_
      rintro e w8 ⟨rfl, q8, rfl⟩
      replace ra := ra.drewN q8
      replace rb := rb.drewN q8
      replace rg := rg.drewN q8
      replace hbel := below_drewN hbel q8
      rw [World.drewN_drewN] at hbel ra rb rg
      rw [H4.out]
      go_wp2_with fail
      refine (cmpL _ _ _ _ _ _ _ ra rg la lg).mono ?_
      rintro e w9 ⟨rfl, q9, rfl⟩
      replace ra := ra.drewN q9
      replace rb := rb.drewN q9
      replace rg := rg.drewN q9
      replace hbel := below_drewN hbel q9
      rw [World.drewN_drewN] at hbel ra rb rg
      rw [H6.out]
      go_wp2_with fail
      refine (addL _ _ _ _ _ _ _ ra rg la lg lp).mono ?_
      rintro e w10 ⟨A10, c10, rfl, _, _, ho10, hb10⟩
      replace ra := ra.below hb10
      replace rb := rb.below hb10
      replace rg := rg.below hb10
      replace hbel := hbel.trans (hb10.mono hbel.size)
      have rp := ho10.rd
      clear ho10 hb10
      go_wp2_with fail
      refine (addL _ _ _ _ _ _ _ rb rg lb lg lq).mono ?_
      rintro e w11 ⟨A11, c11, rfl, _, _, ho11, hb11⟩
      replace ra := ra.below hb11
      replace rb := rb.below hb11
      replace rg := rg.below hb11
      replace rp := rp.below hb11
      replace hbel := hbel.trans (hb11.mono hbel.size)
      have rq := ho11.rd
      clear ho11 hb11
      go_wp2_with fail
      refine (cmpL _ _ _ _ _ _ _ rp rq lp lq).mono ?_
      rintro e w12 ⟨rfl, q12, rfl⟩
      replace ra := ra.drewN q12
      replace rb := rb.drewN q12
      replace rg := rg.drewN q12
      replace rp := rp.drewN q12
      replace rq := rq.drewN q12
      replace hbel := below_drewN hbel q12
      rw [H5.out]
      go_wp2_with fail
      refine (bitsL _ _ _ _ ra la).mono ?_
      rintro e w13 ⟨rfl, rfl⟩
      go_wp2_with fail
      refine (bitsL _ _ _ _ rb lb).mono ?_
      rintro e w14 ⟨rfl, rfl⟩
      go_wp2_with fail
      refine (works_any _).mono ?_
      rintro e w15 ⟨rfl, hb15⟩
      go_wp2_with fail
      go_ret
      exact ⟨rfl, hbel.trans (hb15.mono hbel.size)⟩
    · have H4 := Lib.hid (show cmpN (b) (g) = 1 from cmpN_gt (by omega))
      clear hab
      go_enter Try.func5, Try.ntmps5
      go_wp2_with fail
      have h0 := briefL A xs.length c xs 80 _ rfl (by omega) (by omega) (by omega) hx lx
      rw [← HA.out] at h0
      refine h0.mono ?_
      rintro e w1 ⟨A1, c1, rfl, _, _, ho1, hb1⟩
      clear h0
      replace hx := hx.below hb1
      replace hy := hy.below hb1
      replace hz := hz.below hb1
      replace hbel := hbel.trans (hb1.mono hbel.size)
      have ra := ho1.rd
      clear ho1 hb1
      go_wp2_with fail
      have h0 := briefL B ys.length d ys 80 _ rfl (by omega) (by omega) (by omega) hy ly
      rw [← HB.out] at h0
      refine h0.mono ?_
      rintro e w2 ⟨A2, c2, rfl, _, _, ho2, hb2⟩
      clear h0
      replace hx := hx.below hb2
      replace hy := hy.below hb2
      replace hz := hz.below hb2
      replace ra := ra.below hb2
      replace hbel := hbel.trans (hb2.mono hbel.size)
      have rb := ho2.rd
      clear ho2 hb2
      go_wp2_with fail
      have h0 := briefL C zs.length f zs 80 _ rfl (by omega) (by omega) (by omega) hz lz
      rw [← HG.out] at h0
      refine h0.mono ?_
      rintro e w3 ⟨A3, c3, rfl, _, _, ho3, hb3⟩
      clear h0
      replace hx := hx.below hb3
      replace hy := hy.below hb3
      replace hz := hz.below hb3
      replace ra := ra.below hb3
      replace rb := rb.below hb3
      replace hbel := hbel.trans (hb3.mono hbel.size)
      have rg := ho3.rd
      clear ho3 hb3
      go_wp2_with fail
      refine (cmpL _ _ _ _ _ _ _ ra rb la lb).mono ?_
      rintro e w4 ⟨rfl, q4, rfl⟩
      replace ra := ra.drewN q4
      replace rb := rb.drewN q4
      replace rg := rg.drewN q4
      replace hbel := below_drewN hbel q4
      rw [H1.out]
      go_wp2_with fail
      refine (cmpL _ _ _ _ _ _ _ rb ra lb la).mono ?_
      rintro e w5 ⟨rfl, q5, rfl⟩
      replace ra := ra.drewN q5
      replace rb := rb.drewN q5
      replace rg := rg.drewN q5
      replace hbel := below_drewN hbel q5
      rw [World.drewN_drewN] at hbel ra rb rg
      rw [H2.out]
      go_wp2_with fail
      refine (sameL _ _ _ _ _ _ _ ra rb la lb).mono ?_
      rintro e w6 ⟨rfl, q6, rfl⟩
      replace ra := ra.drewN q6
      replace rb := rb.drewN q6
      replace rg := rg.drewN q6
      replace hbel := below_drewN hbel q6
      rw [World.drewN_drewN] at hbel ra rb rg
      rw [H3.out]
      go_wp2_with fail
      refine (cmpL _ _ _ _ _ _ _ ra ra la la).mono ?_
      rintro e w7 ⟨rfl, q7, rfl⟩
      replace ra := ra.drewN q7
      replace rb := rb.drewN q7
      replace rg := rg.drewN q7
      replace hbel := below_drewN hbel q7
      rw [World.drewN_drewN] at hbel ra rb rg
      rw [HS.out]
      go_wp2_with fail
      refine (cmpL _ _ _ _ _ _ _ rb rg lb lg).mono ?_
      rintro e w8 ⟨rfl, q8, rfl⟩
      replace ra := ra.drewN q8
      replace rb := rb.drewN q8
      replace rg := rg.drewN q8
      replace hbel := below_drewN hbel q8
      rw [World.drewN_drewN] at hbel ra rb rg
      rw [H4.out]
      go_wp2_with fail
      refine (addL _ _ _ _ _ _ _ ra rg la lg lp).mono ?_
      rintro e w9 ⟨A9, c9, rfl, _, _, ho9, hb9⟩
      replace ra := ra.below hb9
      replace rb := rb.below hb9
      replace rg := rg.below hb9
      replace hbel := hbel.trans (hb9.mono hbel.size)
      have rp := ho9.rd
      clear ho9 hb9
      go_wp2_with fail
      refine (addL _ _ _ _ _ _ _ rb rg lb lg lq).mono ?_
      rintro e w10 ⟨A10, c10, rfl, _, _, ho10, hb10⟩
      replace ra := ra.below hb10
      replace rb := rb.below hb10
      replace rg := rg.below hb10
      replace rp := rp.below hb10
      replace hbel := hbel.trans (hb10.mono hbel.size)
      have rq := ho10.rd
      clear ho10 hb10
      go_wp2_with fail
      refine (cmpL _ _ _ _ _ _ _ rp rq lp lq).mono ?_
      rintro e w11 ⟨rfl, q11, rfl⟩
      replace ra := ra.drewN q11
      replace rb := rb.drewN q11
      replace rg := rg.drewN q11
      replace rp := rp.drewN q11
      replace rq := rq.drewN q11
      replace hbel := below_drewN hbel q11
      rw [H5.out]
      go_wp2_with fail
      refine (bitsL _ _ _ _ ra la).mono ?_
      rintro e w12 ⟨rfl, rfl⟩
      go_wp2_with fail
      refine (bitsL _ _ _ _ rb lb).mono ?_
      rintro e w13 ⟨rfl, rfl⟩
      go_wp2_with fail
      refine (works_any _).mono ?_
      rintro e w14 ⟨rfl, hb14⟩
      go_wp2_with fail
      go_ret
      exact ⟨rfl, hbel.trans (hb14.mono hbel.size)⟩
  · have H1 := Lib.hid (show cmpN (a) (b) = 1 from cmpN_gt (by omega))
    have H2 := Lib.hid (show cmpN (b) (a) = -1 from cmpN_lt (by omega))
    have H3 := Lib.hid (show decide (a = b) = false by simp; omega)
    have H5 := Lib.hid (show cmpN (a + g) (b + g) = 1 from cmpN_gt (by omega))
    have hbits : nbits b ≤ nbits a := nbits_mono (show b ≤ a by omega)
    go_enter Try.func5, Try.ntmps5
    go_wp2_with fail
    have h0 := briefL A xs.length c xs 80 _ rfl (by omega) (by omega) (by omega) hx lx
    rw [← HA.out] at h0
    refine h0.mono ?_
    rintro e w1 ⟨A1, c1, rfl, _, _, ho1, hb1⟩
    clear h0
    replace hx := hx.below hb1
    replace hy := hy.below hb1
    replace hz := hz.below hb1
    replace hbel := hbel.trans (hb1.mono hbel.size)
    have ra := ho1.rd
    clear ho1 hb1
    go_wp2_with fail
    have h0 := briefL B ys.length d ys 80 _ rfl (by omega) (by omega) (by omega) hy ly
    rw [← HB.out] at h0
    refine h0.mono ?_
    rintro e w2 ⟨A2, c2, rfl, _, _, ho2, hb2⟩
    clear h0
    replace hx := hx.below hb2
    replace hy := hy.below hb2
    replace hz := hz.below hb2
    replace ra := ra.below hb2
    replace hbel := hbel.trans (hb2.mono hbel.size)
    have rb := ho2.rd
    clear ho2 hb2
    go_wp2_with fail
    have h0 := briefL C zs.length f zs 80 _ rfl (by omega) (by omega) (by omega) hz lz
    rw [← HG.out] at h0
    refine h0.mono ?_
    rintro e w3 ⟨A3, c3, rfl, _, _, ho3, hb3⟩
    clear h0
    replace hx := hx.below hb3
    replace hy := hy.below hb3
    replace hz := hz.below hb3
    replace ra := ra.below hb3
    replace rb := rb.below hb3
    replace hbel := hbel.trans (hb3.mono hbel.size)
    have rg := ho3.rd
    clear ho3 hb3
    go_wp2_with fail
    refine (cmpL _ _ _ _ _ _ _ ra rb la lb).mono ?_
    rintro e w4 ⟨rfl, q4, rfl⟩
    replace ra := ra.drewN q4
    replace rb := rb.drewN q4
    replace rg := rg.drewN q4
    replace hbel := below_drewN hbel q4
    rw [H1.out]
    go_wp2_with fail
    refine (cmpL _ _ _ _ _ _ _ rb ra lb la).mono ?_
    rintro e w5 ⟨rfl, q5, rfl⟩
    replace ra := ra.drewN q5
    replace rb := rb.drewN q5
    replace rg := rg.drewN q5
    replace hbel := below_drewN hbel q5
    rw [World.drewN_drewN] at hbel ra rb rg
    rw [H2.out]
    go_wp2_with fail
    refine (sameL _ _ _ _ _ _ _ ra rb la lb).mono ?_
    rintro e w6 ⟨rfl, q6, rfl⟩
    replace ra := ra.drewN q6
    replace rb := rb.drewN q6
    replace rg := rg.drewN q6
    replace hbel := below_drewN hbel q6
    rw [World.drewN_drewN] at hbel ra rb rg
    rw [H3.out]
    go_wp2_with fail
    refine (cmpL _ _ _ _ _ _ _ ra ra la la).mono ?_
    rintro e w7 ⟨rfl, q7, rfl⟩
    replace ra := ra.drewN q7
    replace rb := rb.drewN q7
    replace rg := rg.drewN q7
    replace hbel := below_drewN hbel q7
    rw [World.drewN_drewN] at hbel ra rb rg
    rw [HS.out]
    go_wp2_with fail
    refine (addL _ _ _ _ _ _ _ ra rg la lg lp).mono ?_
    rintro e w8 ⟨A8, c8, rfl, _, _, ho8, hb8⟩
    replace ra := ra.below hb8
    replace rb := rb.below hb8
    replace rg := rg.below hb8
    replace hbel := hbel.trans (hb8.mono hbel.size)
    have rp := ho8.rd
    clear ho8 hb8
    go_wp2_with fail
    refine (addL _ _ _ _ _ _ _ rb rg lb lg lq).mono ?_
    rintro e w9 ⟨A9, c9, rfl, _, _, ho9, hb9⟩
    replace ra := ra.below hb9
    replace rb := rb.below hb9
    replace rg := rg.below hb9
    replace rp := rp.below hb9
    replace hbel := hbel.trans (hb9.mono hbel.size)
    have rq := ho9.rd
    clear ho9 hb9
    go_wp2_with fail
    refine (cmpL _ _ _ _ _ _ _ rp rq lp lq).mono ?_
    rintro e w10 ⟨rfl, q10, rfl⟩
    replace ra := ra.drewN q10
    replace rb := rb.drewN q10
    replace rg := rg.drewN q10
    replace rp := rp.drewN q10
    replace rq := rq.drewN q10
    replace hbel := below_drewN hbel q10
    rw [H5.out]
    go_wp2_with fail
    refine (bitsL _ _ _ _ ra la).mono ?_
    rintro e w11 ⟨rfl, rfl⟩
    go_wp2_with fail
    refine (bitsL _ _ _ _ rb lb).mono ?_
    rintro e w12 ⟨rfl, rfl⟩
    go_wp2_with fail
    refine (works_any _).mono ?_
    rintro e w13 ⟨rfl, hb13⟩
    go_wp2_with fail
    go_ret
    exact ⟨rfl, hbel.trans (hb13.mono hbel.size)⟩
end Go.Proofs.Ytglmplkjljgbbaa
