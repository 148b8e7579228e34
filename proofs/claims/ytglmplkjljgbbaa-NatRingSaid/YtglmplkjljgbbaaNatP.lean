/-
  The walk of the statement NatRing: sums and products hang on no order, and a difference is undone by a sum.
-/
import Derived.Test.YtglmplkjljgbbaaNatO
namespace Go.Proofs.Ytglmplkjljgbbaa
set_option linter.unusedVariables false
set_option linter.unusedSimpArgs false
open Go.RowKit

theorem ring_lens {a b g k : Nat} (hk : 3 * k + 2 ≤ 256) (ha : a < 4294967296 ^ k) (hb : b < 4294967296 ^ k) (hc : g < 4294967296 ^ k) :
    (limbs a).length ≤ 256 ∧ (limbs b).length ≤ 256 ∧ (limbs g).length ≤ 256 ∧ (limbs (a + b)).length ≤ 256 ∧ (limbs (b + a)).length ≤ 256 ∧ (limbs (a * b)).length ≤ 256 ∧ (limbs (b * a)).length ≤ 256 ∧
    (limbs ((a + b) * g)).length ≤ 256 ∧ (limbs (a * g)).length ≤ 256 ∧ (limbs (b * g)).length ≤ 256 ∧ (limbs (a * g + b * g)).length ≤ 256 ∧ (limbs (a * b * g)).length ≤ 256 ∧ (limbs (a * (b * g))).length ≤ 256 :=
  ⟨len_256 ha (by omega), len_256 hb (by omega), len_256 hc (by omega), len_256 (len_add ha hb) (by omega), len_256 (len_add hb ha) (by omega), len_256 (len_mul ha hb) (by omega), len_256 (len_mul hb ha) (by omega),
    len_256 (len_mul (len_add ha hb) hc) (by omega), len_256 (len_mul ha hc) (by omega), len_256 (len_mul hb hc) (by omega), len_256 (len_add (len_mul ha hc) (len_mul hb hc)) (by omega), len_256 (len_mul (len_mul ha hb) hc) (by omega), len_256 (len_mul ha (len_mul hb hc)) (by omega)⟩

set_option maxRecDepth 100000 in
set_option maxHeartbeats 3200000 in
theorem natRing_any (A B C : Option Addr) (n m k c d f : Nat) (xs ys zs : List Nat) (w : World) (hn : n = xs.length) (hm : m = ys.length) (hk : k = zs.length) (hnc : n ≤ c) (hmd : m ≤ d) (hkf : k ≤ f) (hnl : n ≤ 9223372036854775807) (hml : m ≤ 9223372036854775807) (hkl : k ≤ 9223372036854775807)
    (hx : Rd .u32 w A xs) (hy : Rd .u32 w B ys) (hz : Rd .u32 w C zs) (lx : Lim 4294967296 xs) (ly : Lim 4294967296 ys) (lz : Lim 4294967296 zs) :
    Calls Try.prog 6 #[.slice A n c, .slice B m d, .slice C k f] w (Yes w) := by
  subst hn
  subst hm
  subst hk
  have ha := briefOf_lt xs 80 lx
  have hb := briefOf_lt ys 80 ly
  have hc := briefOf_lt zs 80 lz
  obtain ⟨a, hae⟩ : ∃ a, a = briefOf xs 80 := ⟨_, rfl⟩
  obtain ⟨b, hbe⟩ : ∃ b, b = briefOf ys 80 := ⟨_, rfl⟩
  obtain ⟨g, hge⟩ : ∃ g, g = briefOf zs 80 := ⟨_, rfl⟩
  rw [← hae] at ha
  rw [← hbe] at hb
  rw [← hge] at hc
  obtain ⟨la, lb, lg, lab, lba, lpab, lpba, lsg, lag, lbg, lsum, labg, labg2⟩ := ring_lens (k := 80) (by decide) ha hb hc
  clear ha hb hc
  have e1 := Lib.hid (show decide (a + b = b + a) = true by simp [Nat.add_comm])
  have e2 := Lib.hid (show decide (a * b = b * a) = true by simp [Nat.mul_comm])
  have e3 := Lib.hid (show decide ((a + b) * g = a * g + b * g) = true by simp [Nat.add_mul])
  have e5 := Lib.hid (show decide (a * b * g = a * (b * g)) = true by simp [Nat.mul_assoc])
  have hle : b ≤ a + b := Nat.le_add_left _ _
  have HA := Lib.hid hae
  have HB := Lib.hid hbe
  have HG := Lib.hid hge
  have hbel := Below.refl w.heap.size w
  clear hae hbe hge
  go_enter Try.func6, Try.ntmps6
  go_wp2_with fail
  have h0 := briefL A xs.length c xs 80 _ rfl (by omega) (by omega) (by omega) hx lx
  rw [← HA.out] at h0
  refine h0.mono ?_
  rintro e w1 ⟨A1, c1, rfl, _, _, ho1, hb1⟩
  clear h0
  replace hx := hx.below hb1
  replace hy := hy.below hb1
  replace hz := hz.below hb1
  replace hbel := hbel.trans (hb1.mono hbel.size)
  have ra := ho1.rd
  clear ho1 hb1
  go_wp2_with fail
  have h0 := briefL B ys.length d ys 80 _ rfl (by omega) (by omega) (by omega) hy ly
  rw [← HB.out] at h0
  refine h0.mono ?_
  rintro e w2 ⟨A2, c2, rfl, _, _, ho2, hb2⟩
  clear h0
  replace hx := hx.below hb2
  replace hy := hy.below hb2
  replace hz := hz.below hb2
  replace ra := ra.below hb2
  replace hbel := hbel.trans (hb2.mono hbel.size)
  have rb := ho2.rd
  clear ho2 hb2
  go_wp2_with fail
  have h0 := briefL C zs.length f zs 80 _ rfl (by omega) (by omega) (by omega) hz lz
  rw [← HG.out] at h0
  refine h0.mono ?_
  rintro e w3 ⟨A3, c3, rfl, _, _, ho3, hb3⟩
  clear h0
  replace hx := hx.below hb3
  replace hy := hy.below hb3
  replace hz := hz.below hb3
  replace ra := ra.below hb3
  replace rb := rb.below hb3
  replace hbel := hbel.trans (hb3.mono hbel.size)
  have rg := ho3.rd
  clear ho3 hb3
  go_wp2_with fail
  refine (addL _ _ _ _ _ _ _ ra rb la lb lab).mono ?_
  rintro e w4 ⟨A4, c4, rfl, _, _, ho4, hb4⟩
  replace ra := ra.below hb4
  replace rb := rb.below hb4
  replace rg := rg.below hb4
  replace hbel := hbel.trans (hb4.mono hbel.size)
  have rs1 := ho4.rd
  clear ho4 hb4
  go_wp2_with fail
  refine (addL _ _ _ _ _ _ _ rb ra lb la lba).mono ?_
  rintro e w5 ⟨A5, c5, rfl, _, _, ho5, hb5⟩
  replace ra := ra.below hb5
  replace rb := rb.below hb5
  replace rg := rg.below hb5
  replace rs1 := rs1.below hb5
  replace hbel := hbel.trans (hb5.mono hbel.size)
  have rs2 := ho5.rd
  clear ho5 hb5
  go_wp2_with fail
  refine (mulL _ _ _ _ _ _ _ ra rb la lb lpab).mono ?_
  rintro e w6 ⟨A6, c6, rfl, _, _, ho6, hb6⟩
  replace ra := ra.below hb6
  replace rb := rb.below hb6
  replace rg := rg.below hb6
  replace rs1 := rs1.below hb6
  replace rs2 := rs2.below hb6
  replace hbel := hbel.trans (hb6.mono hbel.size)
  have rp1 := ho6.rd
  clear ho6 hb6
  go_wp2_with fail
  refine (mulL _ _ _ _ _ _ _ rb ra lb la lpba).mono ?_
  rintro e w7 ⟨A7, c7, rfl, _, _, ho7, hb7⟩
  replace ra := ra.below hb7
  replace rb := rb.below hb7
  replace rg := rg.below hb7
  replace rs1 := rs1.below hb7
  replace rs2 := rs2.below hb7
  replace rp1 := rp1.below hb7
  replace hbel := hbel.trans (hb7.mono hbel.size)
  have rp2 := ho7.rd
  clear ho7 hb7
  go_wp2_with fail
  refine (mulL _ _ _ _ _ _ _ rs1 rg lab lg lsg).mono ?_
  rintro e w8 ⟨A8, c8, rfl, _, _, ho8, hb8⟩
  replace ra := ra.below hb8
  replace rb := rb.below hb8
  replace rg := rg.below hb8
  replace rs1 := rs1.below hb8
  replace rs2 := rs2.below hb8
  replace rp1 := rp1.below hb8
  replace rp2 := rp2.below hb8
  replace hbel := hbel.trans (hb8.mono hbel.size)
  have rl := ho8.rd
  clear ho8 hb8
  go_wp2_with fail
  refine (mulL _ _ _ _ _ _ _ ra rg la lg lag).mono ?_
  rintro e w9 ⟨A9, c9, rfl, _, _, ho9, hb9⟩
  replace ra := ra.below hb9
  replace rb := rb.below hb9
  replace rg := rg.below hb9
  replace rs1 := rs1.below hb9
  replace rs2 := rs2.below hb9
  replace rp1 := rp1.below hb9
  replace rp2 := rp2.below hb9
  replace rl := rl.below hb9
  replace hbel := hbel.trans (hb9.mono hbel.size)
  have rm := ho9.rd
  clear ho9 hb9
  go_wp2_with fail
  refine (mulL _ _ _ _ _ _ _ rb rg lb lg lbg).mono ?_
  rintro e w10 ⟨A10, c10, rfl, _, _, ho10, hb10⟩
  replace ra := ra.below hb10
  replace rb := rb.below hb10
  replace rg := rg.below hb10
  replace rs1 := rs1.below hb10
  replace rs2 := rs2.below hb10
  replace rp1 := rp1.below hb10
  replace rp2 := rp2.below hb10
  replace rl := rl.below hb10
  replace rm := rm.below hb10
  replace hbel := hbel.trans (hb10.mono hbel.size)
  have rn := ho10.rd
  clear ho10 hb10
  go_wp2_with fail
  refine (addL _ _ _ _ _ _ _ rm rn lag lbg lsum).mono ?_
  rintro e w11 ⟨A11, c11, rfl, _, _, ho11, hb11⟩
  replace ra := ra.below hb11
  replace rb := rb.below hb11
  replace rg := rg.below hb11
  replace rs1 := rs1.below hb11
  replace rs2 := rs2.below hb11
  replace rp1 := rp1.below hb11
  replace rp2 := rp2.below hb11
  replace rl := rl.below hb11
  replace rm := rm.below hb11
  replace rn := rn.below hb11
  replace hbel := hbel.trans (hb11.mono hbel.size)
  have rr := ho11.rd
  clear ho11 hb11
  go_wp2_with fail
  refine (subL2 _ _ _ _ _ _ _ rs1 rb lab lb la).mono ?_
  rintro e w12 ⟨A12, c12, rfl, _, _, ho12, hb12⟩
  replace ra := ra.below hb12
  replace rb := rb.below hb12
  replace rg := rg.below hb12
  replace rs1 := rs1.below hb12
  replace rs2 := rs2.below hb12
  replace rp1 := rp1.below hb12
  replace rp2 := rp2.below hb12
  replace rl := rl.below hb12
  replace rm := rm.below hb12
  replace rn := rn.below hb12
  replace rr := rr.below hb12
  replace hbel := hbel.trans (hb12.mono hbel.size)
  have rd := ho12.rd
  clear ho12 hb12
  go_wp2_with fail
  refine (mulL _ _ _ _ _ _ _ rp1 rg lpab lg labg).mono ?_
  rintro e w13 ⟨A13, c13, rfl, _, _, ho13, hb13⟩
  replace ra := ra.below hb13
  replace rb := rb.below hb13
  replace rg := rg.below hb13
  replace rs1 := rs1.below hb13
  replace rs2 := rs2.below hb13
  replace rp1 := rp1.below hb13
  replace rp2 := rp2.below hb13
  replace rl := rl.below hb13
  replace rm := rm.below hb13
  replace rn := rn.below hb13
  replace rr := rr.below hb13
  replace rd := rd.below hb13
  replace hbel := hbel.trans (hb13.mono hbel.size)
  have rt := ho13.rd
  clear ho13 hb13
  go_wp2_with fail
  refine (mulL _ _ _ _ _ _ _ ra rn la lbg labg2).mono ?_
  rintro e w14 ⟨A14, c14, rfl, _, _, ho14, hb14⟩
  replace ra := ra.below hb14
  replace rb := rb.below hb14
  replace rg := rg.below hb14
  replace rs1 := rs1.below hb14
  replace rs2 := rs2.below hb14
  replace rp1 := rp1.below hb14
  replace rp2 := rp2.below hb14
  replace rl := rl.below hb14
  replace rm := rm.below hb14
  replace rn := rn.below hb14
  replace rr := rr.below hb14
  replace rd := rd.below hb14
  replace rt := rt.below hb14
  replace hbel := hbel.trans (hb14.mono hbel.size)
  have ru := ho14.rd
  clear ho14 hb14
  go_wp2_with fail
  refine (sameL _ _ _ _ _ _ _ rs1 rs2 lab lba).mono ?_
  rintro e w15 ⟨rfl, q15, rfl⟩
  replace ra := ra.drewN q15
  replace rb := rb.drewN q15
  replace rg := rg.drewN q15
  replace rs1 := rs1.drewN q15
  replace rs2 := rs2.drewN q15
  replace rp1 := rp1.drewN q15
  replace rp2 := rp2.drewN q15
  replace rl := rl.drewN q15
  replace rm := rm.drewN q15
  replace rn := rn.drewN q15
  replace rr := rr.drewN q15
  replace rd := rd.drewN q15
  replace rt := rt.drewN q15
  replace ru := ru.drewN q15
  replace hbel := below_drewN hbel q15
  rw [e1.out]
  go_wp2_with fail
  refine (sameL _ _ _ _ _ _ _ rp1 rp2 lpab lpba).mono ?_
  rintro e w16 ⟨rfl, q16, rfl⟩
  replace ra := ra.drewN q16
  replace rb := rb.drewN q16
  replace rg := rg.drewN q16
  replace rs1 := rs1.drewN q16
  replace rs2 := rs2.drewN q16
  replace rp1 := rp1.drewN q16
  replace rp2 := rp2.drewN q16
  replace rl := rl.drewN q16
  replace rm := rm.drewN q16
  replace rn := rn.drewN q16
  replace rr := rr.drewN q16
  replace rd := rd.drewN q16
  replace rt := rt.drewN q16
  replace ru := ru.drewN q16
  replace hbel := below_drewN hbel q16
  rw [World.drewN_drewN] at hbel ra rb rg rs1 rs2 rp1 rp2 rl rm rn rr rd rt ru
  rw [e2.out]
  go_wp2_with fail
  refine (sameL _ _ _ _ _ _ _ rl rr lsg lsum).mono ?_
  rintro e w17 ⟨rfl, q17, rfl⟩
  replace ra := ra.drewN q17
  replace rb := rb.drewN q17
  replace rg := rg.drewN q17
  replace rs1 := rs1.drewN q17
  replace rs2 := rs2.drewN q17
  replace rp1 := rp1.drewN q17
  replace rp2 := rp2.drewN q17
  replace rl := rl.drewN q17
  replace rm := rm.drewN q17
  replace rn := rn.drewN q17
  replace rr := rr.drewN q17
  replace rd := rd.drewN q17
  replace rt := rt.drewN q17
  replace ru := ru.drewN q17
  replace hbel := below_drewN hbel q17
  rw [World.drewN_drewN] at hbel ra rb rg rs1 rs2 rp1 rp2 rl rm rn rr rd rt ru
  rw [e3.out]
  go_wp2_with fail
  refine (sameL _ _ _ _ _ _ _ rd ra la la).mono ?_
  rintro e w18 ⟨rfl, q18, rfl⟩
  replace ra := ra.drewN q18
  replace rb := rb.drewN q18
  replace rg := rg.drewN q18
  replace rs1 := rs1.drewN q18
  replace rs2 := rs2.drewN q18
  replace rp1 := rp1.drewN q18
  replace rp2 := rp2.drewN q18
  replace rl := rl.drewN q18
  replace rm := rm.drewN q18
  replace rn := rn.drewN q18
  replace rr := rr.drewN q18
  replace rd := rd.drewN q18
  replace rt := rt.drewN q18
  replace ru := ru.drewN q18
  replace hbel := below_drewN hbel q18
  rw [World.drewN_drewN] at hbel ra rb rg rs1 rs2 rp1 rp2 rl rm rn rr rd rt ru
  go_wp2_with fail
  refine (sameL _ _ _ _ _ _ _ rt ru labg labg2).mono ?_
  rintro e w19 ⟨rfl, q19, rfl⟩
  replace ra := ra.drewN q19
  replace rb := rb.drewN q19
  replace rg := rg.drewN q19
  replace rs1 := rs1.drewN q19
  replace rs2 := rs2.drewN q19
  replace rp1 := rp1.drewN q19
  replace rp2 := rp2.drewN q19
  replace rl := rl.drewN q19
  replace rm := rm.drewN q19
  replace rn := rn.drewN q19
  replace rr := rr.drewN q19
  replace rd := rd.drewN q19
  replace rt := rt.drewN q19
  replace ru := ru.drewN q19
  replace hbel := below_drewN hbel q19
  rw [World.drewN_drewN] at hbel ra rb rg rs1 rs2 rp1 rp2 rl rm rn rr rd rt ru
  rw [e5.out]
  go_wp2_with fail
  refine (rightL _ _ _ _ rs1 lab).mono ?_
  rintro e w20 ⟨rfl, rfl⟩
  go_wp2_with fail
  refine (rightL _ _ _ _ rp1 lpab).mono ?_
  rintro e w21 ⟨rfl, rfl⟩
  go_wp2_with fail
  refine (works_any _).mono ?_
  rintro e w22 ⟨rfl, hb22⟩
  go_wp2_with fail
  go_ret
  exact ⟨rfl, hbel.trans (hb22.mono hbel.size)⟩
end Go.Proofs.Ytglmplkjljgbbaa
