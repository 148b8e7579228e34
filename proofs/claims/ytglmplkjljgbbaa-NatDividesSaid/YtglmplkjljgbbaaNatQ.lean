/-
  The walk of the statement NatDivides: x is q times y, and r more, and r is below y; who is above whom is told by differences.
-/
import Derived.Test.YtglmplkjljgbbaaNatO
namespace Go.Proofs.Ytglmplkjljgbbaa
set_option linter.unusedVariables false
set_option linter.unusedSimpArgs false
open Go.RowKit

theorem divL_zero (A B : Option Addr) (c d : Nat) (a : Nat) (w : World) (hA : Rd .u32 w A (limbs a)) (hB : Rd .u32 w B (limbs 0)) (h1 : (limbs a).length ≤ 256) :
    Calls Try.prog 31 #[.slice A (limbs a).length c, .slice B (limbs 0).length d] w (Gives3 [] [] 1 w) :=
  div_arg A B _ _ c d (limbs a) (limbs 0) w rfl rfl (by omega) (by rw [limbs_zero]; simp) hA hB (.inr (.inr rfl))
theorem addE (A B : Option Addr) (c d : Nat) (a b s : Nat) (w : World) (hA : Rd .u32 w A (limbs a)) (hB : Rd .u32 w B (limbs b)) (h1 : (limbs a).length ≤ 256) (h2 : (limbs b).length ≤ 256) (h3 : (limbs s).length ≤ 256) (e : a + b = s) :
    Calls Try.prog 25 #[.slice A (limbs a).length c, .slice B (limbs b).length d] w (Gives2 .u32 (limbs s) 0 w) := by
  subst e
  exact addL A B c d a b w hA hB h1 h2 h3
theorem mulE (A B : Option Addr) (c d : Nat) (a b s : Nat) (w : World) (hA : Rd .u32 w A (limbs a)) (hB : Rd .u32 w B (limbs b)) (h1 : (limbs a).length ≤ 256) (h2 : (limbs b).length ≤ 256) (h3 : (limbs s).length ≤ 256) (e : a * b = s) :
    Calls Try.prog 26 #[.slice A (limbs a).length c, .slice B (limbs b).length d] w (Gives2 .u32 (limbs s) 0 w) := by
  subst e
  exact mulL A B c d a b w hA hB h1 h2 h3
theorem div_lens {a b k : Nat} (hk : k ≤ 256) (ha : a < 4294967296 ^ k) (hb : b < 4294967296 ^ k) :
    (limbs a).length ≤ 256 ∧ (limbs b).length ≤ 256 ∧ (limbs (a / b)).length ≤ 256 ∧ (limbs (a % b)).length ≤ 256 ∧ (limbs (a / b * b)).length ≤ 256 :=
  ⟨len_256 ha hk, len_256 hb hk, len_256 (len_le ha (Nat.div_le_self _ _)) hk, len_256 (len_le ha (Nat.mod_le _ _)) hk, len_256 (len_le ha (Nat.div_mul_le_self _ _)) hk⟩

set_option maxRecDepth 100000 in
set_option maxHeartbeats 3200000 in
theorem natDivides_any (A B : Option Addr) (n m c d : Nat) (xs ys : List Nat) (w : World) (hn : n = xs.length) (hm : m = ys.length) (hnc : n ≤ c) (hmd : m ≤ d) (hnl : n ≤ 9223372036854775807) (hml : m ≤ 9223372036854775807)
    (hx : Rd .u32 w A xs) (hy : Rd .u32 w B ys) (lx : Lim 4294967296 xs) (ly : Lim 4294967296 ys) :
    Calls Try.prog 9 #[.slice A n c, .slice B m d] w (Yes w) := by
  subst hn
  subst hm
  have ha := briefOf_lt xs 128 lx
  have hb := briefOf_lt ys 128 ly
  obtain ⟨a, hae⟩ : ∃ a, a = briefOf xs 128 := ⟨_, rfl⟩
  obtain ⟨b, hbe⟩ : ∃ b, b = briefOf ys 128 := ⟨_, rfl⟩
  rw [← hae] at ha
  rw [← hbe] at hb
  obtain ⟨la, lb, lq, lr, lp⟩ := div_lens (k := 128) (by decide) ha hb
  clear ha hb
  have HA := Lib.hid hae
  have HB := Lib.hid hbe
  have hbel := Below.refl w.heap.size w
  clear hae hbe
  rcases Nat.eq_zero_or_pos b with hb0 | hbp
  · subst hb0
    have hz : (((limbs 0).length : Int) == 0) = true := by rw [limbs_zero]; rfl
    go_enter Try.func9, Try.ntmps9
    go_wp2_with fail
    have h0 := briefL A xs.length c xs 128 _ rfl (by omega) (by omega) (by omega) hx lx
    rw [← HA.out] at h0
    refine h0.mono ?_
    rintro e w1 ⟨A1, c1, rfl, _, _, ho1, hb1⟩
    clear h0
    replace hx := hx.below hb1
    replace hy := hy.below hb1
    replace hbel := hbel.trans (hb1.mono hbel.size)
    have ra := ho1.rd
    clear ho1 hb1
    go_wp2_with fail
    have h0 := briefL B ys.length d ys 128 _ rfl (by omega) (by omega) (by omega) hy ly
    rw [← HB.out] at h0
    refine h0.mono ?_
    rintro e w2 ⟨A2, c2, rfl, _, _, ho2, hb2⟩
    clear h0
    replace hx := hx.below hb2
    replace hy := hy.below hb2
    replace ra := ra.below hb2
    replace hbel := hbel.trans (hb2.mono hbel.size)
    have rb := ho2.rd
    clear ho2 hb2
    go_wp2_with fail
    refine (divL_zero _ _ _ _ _ _ ra rb la).mono ?_
    rintro e w3 ⟨A3, c3, B3, d3, rfl, _, _, ho3, hp3, hb3⟩
    replace ra := ra.below hb3
    replace rb := rb.below hb3
    replace hbel := hbel.trans (hb3.mono hbel.size)
    have rq := ho3.rd
    have rr := hp3.rd
    clear ho3 hp3 hb3
    go_wp2_with fail
    refine (works_any _).mono ?_
    rintro e w4 ⟨rfl, hb4⟩
    go_wp2_with fail
    go_ret
    exact ⟨rfl, hbel.trans (hb4.mono hbel.size)⟩
  · have hz : (((limbs b).length : Int) == 0) = false := by
      have : limbs b ≠ [] := by rw [ne_eq, limbs_nil_iff]; omega
      simpa using this
    have hdm : a / b * b + a % b = a := by rw [Nat.mul_comm]; exact Nat.div_add_mod a b
    have HDM := Lib.hid hdm
    have HC1 := Lib.hid (cmpN_lt (Nat.mod_lt a hbp))
    clear hdm
    rcases Nat.lt_trichotomy a b with hab | hab | hab
    · have HC2 := Lib.hid (cmpN_lt hab)
      have hle2 : a ≤ b := by omega
      go_enter Try.func9, Try.ntmps9
      go_wp2_with fail
      have h0 := briefL A xs.length c xs 128 _ rfl (by omega) (by omega) (by omega) hx lx
      rw [← HA.out] at h0
      refine h0.mono ?_
      rintro e w1 ⟨A1, c1, rfl, _, _, ho1, hb1⟩
      clear h0
      replace hx := hx.below hb1
      replace hy := hy.below hb1
      replace hbel := hbel.trans (hb1.mono hbel.size)
      have ra := ho1.rd
      clear ho1 hb1
      go_wp2_with fail
      have h0 := briefL B ys.length d ys 128 _ rfl (by omega) (by omega) (by omega) hy ly
      rw [← HB.out] at h0
      refine h0.mono ?_
      rintro e w2 ⟨A2, c2, rfl, _, _, ho2, hb2⟩
      clear h0
      replace hx := hx.below hb2
      replace hy := hy.below hb2
      replace ra := ra.below hb2
      replace hbel := hbel.trans (hb2.mono hbel.size)
      have rb := ho2.rd
      clear ho2 hb2
      go_wp2_with fail
      refine (divL _ _ _ _ _ _ _ ra rb la lb hbp).mono ?_
      rintro e w3 ⟨A3, c3, B3, d3, rfl, _, _, ho3, hp3, hb3⟩
      replace ra := ra.below hb3
      replace rb := rb.below hb3
      replace hbel := hbel.trans (hb3.mono hbel.size)
      have rq := ho3.rd
      have rr := hp3.rd
      clear ho3 hp3 hb3
      go_wp2_with fail
      refine (mulL _ _ _ _ _ _ _ rq rb lq lb lp).mono ?_
      rintro e w4 ⟨A4, c4, rfl, _, _, ho4, hb4⟩
      replace ra := ra.below hb4
      replace rb := rb.below hb4
      replace rq := rq.below hb4
      replace rr := rr.below hb4
      replace hbel := hbel.trans (hb4.mono hbel.size)
      have rp := ho4.rd
      clear ho4 hb4
      go_wp2_with fail
      refine (addE _ _ _ _ _ _ a _ rp rr lp lr la HDM.out).mono ?_
      rintro e w5 ⟨A5, c5, rfl, _, _, ho5, hb5⟩
      replace ra := ra.below hb5
      replace rb := rb.below hb5
      replace rq := rq.below hb5
      replace rr := rr.below hb5
      replace rp := rp.below hb5
      replace hbel := hbel.trans (hb5.mono hbel.size)
      have rs := ho5.rd
      clear ho5 hb5
      go_wp2_with fail
      refine (sameL _ _ _ _ _ _ _ rs ra la la).mono ?_
      rintro e w6 ⟨rfl, q6, rfl⟩
      replace ra := ra.drewN q6
      replace rb := rb.drewN q6
      replace rq := rq.drewN q6
      replace rr := rr.drewN q6
      replace rp := rp.drewN q6
      replace rs := rs.drewN q6
      replace hbel := below_drewN hbel q6
      go_wp2_with fail
      refine (cmpL _ _ _ _ _ _ _ rr rb lr lb).mono ?_
      rintro e w7 ⟨rfl, q7, rfl⟩
      replace ra := ra.drewN q7
      replace rb := rb.drewN q7
      replace rq := rq.drewN q7
      replace rr := rr.drewN q7
      replace rp := rp.drewN q7
      replace rs := rs.drewN q7
      replace hbel := below_drewN hbel q7
      rw [World.drewN_drewN] at hbel ra rb rq rr rp rs
      rw [HC1.out]
      go_wp2_with fail
      refine (rightL _ _ _ _ rq lq).mono ?_
      rintro e w8 ⟨rfl, rfl⟩
      go_wp2_with fail
      refine (rightL _ _ _ _ rr lr).mono ?_
      rintro e w9 ⟨rfl, rfl⟩
      go_wp2_with fail
      refine (subL_arg _ _ _ _ _ _ _ ra rb la lb hab).mono ?_
      rintro e w10 ⟨A10, c10, rfl, _, _, ho10, hb10⟩
      replace ra := ra.below hb10
      replace rb := rb.below hb10
      replace rq := rq.below hb10
      replace rr := rr.below hb10
      replace rp := rp.below hb10
      replace rs := rs.below hb10
      replace hbel := hbel.trans (hb10.mono hbel.size)
      have r1 := ho10.rd
      clear ho10 hb10
      go_wp2_with fail
      refine (subL _ _ _ _ _ _ _ rb ra lb la hle2).mono ?_
      rintro e w11 ⟨A11, c11, rfl, _, _, ho11, hb11⟩
      replace ra := ra.below hb11
      replace rb := rb.below hb11
      replace rq := rq.below hb11
      replace rr := rr.below hb11
      replace rp := rp.below hb11
      replace rs := rs.below hb11
      replace r1 := r1.below hb11
      replace hbel := hbel.trans (hb11.mono hbel.size)
      have r2 := ho11.rd
      clear ho11 hb11
      go_wp2_with fail
      refine (cmpL _ _ _ _ _ _ _ ra rb la lb).mono ?_
      rintro e w12 ⟨rfl, q12, rfl⟩
      replace ra := ra.drewN q12
      replace rb := rb.drewN q12
      replace rq := rq.drewN q12
      replace rr := rr.drewN q12
      replace rp := rp.drewN q12
      replace rs := rs.drewN q12
      replace r1 := r1.drewN q12
      replace r2 := r2.drewN q12
      replace hbel := below_drewN hbel q12
      rw [HC2.out]
      go_wp2_with fail
      refine (works_any _).mono ?_
      rintro e w13 ⟨rfl, hb13⟩
      go_wp2_with fail
      go_ret
      exact ⟨rfl, hbel.trans (hb13.mono hbel.size)⟩
    · have HAB := Lib.hid hab
      have hle1 : b ≤ a := by omega
      have hle2 : a ≤ b := by omega
      have HC2 := Lib.hid (show cmpN a b = 0 by rw [hab]; exact cmpN_self b)
      have HD := Lib.hid (show decide (a = b) = true by simp [hab])
      clear hab
      go_enter Try.func9, Try.ntmps9
      go_wp2_with fail
      have h0 := briefL A xs.length c xs 128 _ rfl (by omega) (by omega) (by omega) hx lx
      rw [← HA.out] at h0
      refine h0.mono ?_
      rintro e w1 ⟨A1, c1, rfl, _, _, ho1, hb1⟩
      clear h0
      replace hx := hx.below hb1
      replace hy := hy.below hb1
      replace hbel := hbel.trans (hb1.mono hbel.size)
      have ra := ho1.rd
      clear ho1 hb1
      go_wp2_with fail
      have h0 := briefL B ys.length d ys 128 _ rfl (by omega) (by omega) (by omega) hy ly
      rw [← HB.out] at h0
      refine h0.mono ?_
      rintro e w2 ⟨A2, c2, rfl, _, _, ho2, hb2⟩
      clear h0
      replace hx := hx.below hb2
      replace hy := hy.below hb2
      replace ra := ra.below hb2
      replace hbel := hbel.trans (hb2.mono hbel.size)
      have rb := ho2.rd
      clear ho2 hb2
      go_wp2_with fail
      refine (divL _ _ _ _ _ _ _ ra rb la lb hbp).mono ?_
      rintro e w3 ⟨A3, c3, B3, d3, rfl, _, _, ho3, hp3, hb3⟩
      replace ra := ra.below hb3
      replace rb := rb.below hb3
      replace hbel := hbel.trans (hb3.mono hbel.size)
      have rq := ho3.rd
      have rr := hp3.rd
      clear ho3 hp3 hb3
      go_wp2_with fail
      refine (mulL _ _ _ _ _ _ _ rq rb lq lb lp).mono ?_
      rintro e w4 ⟨A4, c4, rfl, _, _, ho4, hb4⟩
      replace ra := ra.below hb4
      replace rb := rb.below hb4
      replace rq := rq.below hb4
      replace rr := rr.below hb4
      replace hbel := hbel.trans (hb4.mono hbel.size)
      have rp := ho4.rd
      clear ho4 hb4
      go_wp2_with fail
      refine (addE _ _ _ _ _ _ a _ rp rr lp lr la HDM.out).mono ?_
      rintro e w5 ⟨A5, c5, rfl, _, _, ho5, hb5⟩
      replace ra := ra.below hb5
      replace rb := rb.below hb5
      replace rq := rq.below hb5
      replace rr := rr.below hb5
      replace rp := rp.below hb5
      replace hbel := hbel.trans (hb5.mono hbel.size)
      have rs := ho5.rd
      clear ho5 hb5
      go_wp2_with fail
      refine (sameL _ _ _ _ _ _ _ rs ra la la).mono ?_
      rintro e w6 ⟨rfl, q6, rfl⟩
      replace ra := ra.drewN q6
      replace rb := rb.drewN q6
      replace rq := rq.drewN q6
      replace rr := rr.drewN q6
      replace rp := rp.drewN q6
      replace rs := rs.drewN q6
      replace hbel := below_drewN hbel q6
      go_wp2_with fail
      refine (cmpL _ _ _ _ _ _ _ rr rb lr lb).mono ?_
      rintro e w7 ⟨rfl, q7, rfl⟩
      replace ra := ra.drewN q7
      replace rb := rb.drewN q7
      replace rq := rq.drewN q7
      replace rr := rr.drewN q7
      replace rp := rp.drewN q7
      replace rs := rs.drewN q7
      replace hbel := below_drewN hbel q7
      rw [World.drewN_drewN] at hbel ra rb rq rr rp rs
      rw [HC1.out]
      go_wp2_with fail
      refine (rightL _ _ _ _ rq lq).mono ?_
      rintro e w8 ⟨rfl, rfl⟩
      go_wp2_with fail
      refine (rightL _ _ _ _ rr lr).mono ?_
      rintro e w9 ⟨rfl, rfl⟩
      go_wp2_with fail
      refine (subL _ _ _ _ _ _ _ ra rb la lb hle1).mono ?_
      rintro e w10 ⟨A10, c10, rfl, _, _, ho10, hb10⟩
      replace ra := ra.below hb10
      replace rb := rb.below hb10
      replace rq := rq.below hb10
      replace rr := rr.below hb10
      replace rp := rp.below hb10
      replace rs := rs.below hb10
      replace hbel := hbel.trans (hb10.mono hbel.size)
      have r1 := ho10.rd
      clear ho10 hb10
      go_wp2_with fail
      refine (subL _ _ _ _ _ _ _ rb ra lb la hle2).mono ?_
      rintro e w11 ⟨A11, c11, rfl, _, _, ho11, hb11⟩
      replace ra := ra.below hb11
      replace rb := rb.below hb11
      replace rq := rq.below hb11
      replace rr := rr.below hb11
      replace rp := rp.below hb11
      replace rs := rs.below hb11
      replace r1 := r1.below hb11
      replace hbel := hbel.trans (hb11.mono hbel.size)
      have r2 := ho11.rd
      clear ho11 hb11
      go_wp2_with fail
      refine (cmpL _ _ _ _ _ _ _ ra rb la lb).mono ?_
      rintro e w12 ⟨rfl, q12, rfl⟩
      replace ra := ra.drewN q12
      replace rb := rb.drewN q12
      replace rq := rq.drewN q12
      replace rr := rr.drewN q12
      replace rp := rp.drewN q12
      replace rs := rs.drewN q12
      replace r1 := r1.drewN q12
      replace r2 := r2.drewN q12
      replace hbel := below_drewN hbel q12
      rw [HC2.out]
      go_wp2_with fail
      refine (sameL _ _ _ _ _ _ _ ra rb la lb).mono ?_
      rintro e w13 ⟨rfl, q13, rfl⟩
      replace ra := ra.drewN q13
      replace rb := rb.drewN q13
      replace rq := rq.drewN q13
      replace rr := rr.drewN q13
      replace rp := rp.drewN q13
      replace rs := rs.drewN q13
      replace r1 := r1.drewN q13
      replace r2 := r2.drewN q13
      replace hbel := below_drewN hbel q13
      rw [World.drewN_drewN] at hbel ra rb rq rr rp rs r1 r2
      rw [HD.out]
      go_wp2_with fail
      refine (works_any _).mono ?_
      rintro e w14 ⟨rfl, hb14⟩
      go_wp2_with fail
      go_ret
      exact ⟨rfl, hbel.trans (hb14.mono hbel.size)⟩
    · have HC2 := Lib.hid (cmpN_gt hab)
      have hle1 : b ≤ a := by omega
      go_enter Try.func9, Try.ntmps9
      go_wp2_with fail
      have h0 := briefL A xs.length c xs 128 _ rfl (by omega) (by omega) (by omega) hx lx
      rw [← HA.out] at h0
      refine h0.mono ?_
      rintro e w1 ⟨A1, c1, rfl, _, _, ho1, hb1⟩
      clear h0
      replace hx := hx.below hb1
      replace hy := hy.below hb1
      replace hbel := hbel.trans (hb1.mono hbel.size)
      have ra := ho1.rd
      clear ho1 hb1
      go_wp2_with fail
      have h0 := briefL B ys.length d ys 128 _ rfl (by omega) (by omega) (by omega) hy ly
      rw [← HB.out] at h0
      refine h0.mono ?_
      rintro e w2 ⟨A2, c2, rfl, _, _, ho2, hb2⟩
      clear h0
      replace hx := hx.below hb2
      replace hy := hy.below hb2
      replace ra := ra.below hb2
      replace hbel := hbel.trans (hb2.mono hbel.size)
      have rb := ho2.rd
      clear ho2 hb2
      go_wp2_with fail
      refine (divL _ _ _ _ _ _ _ ra rb la lb hbp).mono ?_
      rintro e w3 ⟨A3, c3, B3, d3, rfl, _, _, ho3, hp3, hb3⟩
      replace ra := ra.below hb3
      replace rb := rb.below hb3
      replace hbel := hbel.trans (hb3.mono hbel.size)
      have rq := ho3.rd
      have rr := hp3.rd
      clear ho3 hp3 hb3
      go_wp2_with fail
      refine (mulL _ _ _ _ _ _ _ rq rb lq lb lp).mono ?_
      rintro e w4 ⟨A4, c4, rfl, _, _, ho4, hb4⟩
      replace ra := ra.below hb4
      replace rb := rb.below hb4
      replace rq := rq.below hb4
      replace rr := rr.below hb4
      replace hbel := hbel.trans (hb4.mono hbel.size)
      have rp := ho4.rd
      clear ho4 hb4
      go_wp2_with fail
      refine (addE _ _ _ _ _ _ a _ rp rr lp lr la HDM.out).mono ?_
      rintro e w5 ⟨A5, c5, rfl, _, _, ho5, hb5⟩
      replace ra := ra.below hb5
      replace rb := rb.below hb5
      replace rq := rq.below hb5
      replace rr := rr.below hb5
      replace rp := rp.below hb5
      replace hbel := hbel.trans (hb5.mono hbel.size)
      have rs := ho5.rd
      clear ho5 hb5
      go_wp2_with fail
      refine (sameL _ _ _ _ _ _ _ rs ra la la).mono ?_
      rintro e w6 ⟨rfl, q6, rfl⟩
      replace ra := ra.drewN q6
      replace rb := rb.drewN q6
      replace rq := rq.drewN q6
      replace rr := rr.drewN q6
      replace rp := rp.drewN q6
      replace rs := rs.drewN q6
      replace hbel := below_drewN hbel q6
      go_wp2_with fail
      refine (cmpL _ _ _ _ _ _ _ rr rb lr lb).mono ?_
      rintro e w7 ⟨rfl, q7, rfl⟩
      replace ra := ra.drewN q7
      replace rb := rb.drewN q7
      replace rq := rq.drewN q7
      replace rr := rr.drewN q7
      replace rp := rp.drewN q7
      replace rs := rs.drewN q7
      replace hbel := below_drewN hbel q7
      rw [World.drewN_drewN] at hbel ra rb rq rr rp rs
      rw [HC1.out]
      go_wp2_with fail
      refine (rightL _ _ _ _ rq lq).mono ?_
      rintro e w8 ⟨rfl, rfl⟩
      go_wp2_with fail
      refine (rightL _ _ _ _ rr lr).mono ?_
      rintro e w9 ⟨rfl, rfl⟩
      go_wp2_with fail
      refine (subL _ _ _ _ _ _ _ ra rb la lb hle1).mono ?_
      rintro e w10 ⟨A10, c10, rfl, _, _, ho10, hb10⟩
      replace ra := ra.below hb10
      replace rb := rb.below hb10
      replace rq := rq.below hb10
      replace rr := rr.below hb10
      replace rp := rp.below hb10
      replace rs := rs.below hb10
      replace hbel := hbel.trans (hb10.mono hbel.size)
      have r1 := ho10.rd
      clear ho10 hb10
      go_wp2_with fail
      refine (subL_arg _ _ _ _ _ _ _ rb ra lb la hab).mono ?_
      rintro e w11 ⟨A11, c11, rfl, _, _, ho11, hb11⟩
      replace ra := ra.below hb11
      replace rb := rb.below hb11
      replace rq := rq.below hb11
      replace rr := rr.below hb11
      replace rp := rp.below hb11
      replace rs := rs.below hb11
      replace r1 := r1.below hb11
      replace hbel := hbel.trans (hb11.mono hbel.size)
      have r2 := ho11.rd
      clear ho11 hb11
      go_wp2_with fail
      refine (cmpL _ _ _ _ _ _ _ ra rb la lb).mono ?_
      rintro e w12 ⟨rfl, q12, rfl⟩
      replace ra := ra.drewN q12
      replace rb := rb.drewN q12
      replace rq := rq.drewN q12
      replace rr := rr.drewN q12
      replace rp := rp.drewN q12
      replace rs := rs.drewN q12
      replace r1 := r1.drewN q12
      replace r2 := r2.drewN q12
      replace hbel := below_drewN hbel q12
      rw [HC2.out]
      go_wp2_with fail
      refine (works_any _).mono ?_
      rintro e w13 ⟨rfl, hb13⟩
      go_wp2_with fail
      go_ret
      exact ⟨rfl, hbel.trans (hb13.mono hbel.size)⟩
end Go.Proofs.Ytglmplkjljgbbaa
