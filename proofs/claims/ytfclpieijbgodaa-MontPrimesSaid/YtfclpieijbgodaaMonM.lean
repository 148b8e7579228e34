/-
  The walk of the statement MontSmall: modulo a number of 16 bits products and powers are what plain numbers come to.
-/
import Derived.Test.YtfclpieijbgodaaMonL
namespace Go.Proofs.Ytfclpieijbgodaa
set_option linter.unusedVariables false
set_option linter.unusedSimpArgs false
open Go.RowKit

theorem may_no {m : Nat} (h : m % 2 = 0 ∨ m < 3) : mayB (limbs m) = false := by
  unfold mayB
  rw [val_limbs]
  rcases h with h | h
  · simp [h]
  · simp [show ¬ 3 ≤ m by omega]
theorem may_yes {m : Nat} (h : m % 2 = 1) (h3 : 3 ≤ m) (hl : (limbs m).length ≤ 128) : mayB (limbs m) = true := by
  unfold mayB
  have h0 : 0 < (limbs m).length := by
    rw [limbs_pos (by omega)]
    simp
  rw [val_limbs, isRight_limbs (by omega)]
  simp [h, h3, h0, hl]
set_option maxRecDepth 100000 in
set_option maxHeartbeats 3200000 in
theorem montSmall_any (m x y n : Nat) (w : World) (hm : m < 65536) (hx : x < 65536) (hy : y < 65536) (hn : n < 65536) :
    Calls Try.prog 7 #[.int .u16 (m : Int), .int .u16 (x : Int), .int .u16 (y : Int), .int .u16 (n : Int)] w (Yes w) := by
  have hNm := Lib.hid (fun w' => number5_any m w' (by omega))
  have hml : (limbs m).length ≤ 2 := limbs64_len (by omega)
  by_cases hno : m % 2 = 0 ∨ m < 3
  · have hmay := Lib.hid (may_no hno)
    have hz : (m : Int) % 2 = 0 ∨ ¬ (m : Int) % 2 = 0 ∧ (m : Int) < 3 := by omega
    clear hno
    rcases hz with z1 | ⟨z1, z2⟩
    all_goals
      go_enter Try.func7, Try.ntmps7
      go_wp2_with fail
      refine (hNm.out _).mono ?_
      rintro e w1 ⟨Am, cm, rfl, _, _, hOm, hb1⟩
      go_wp2_with fail
      refine (newNo_any _ _ cm (limbs m) w1 rfl (by omega) hOm.rd (limbs_lim _) hmay.out).mono ?_
      rintro e w' ⟨rfl, rfl⟩
      go_wp2_with fail
      refine (works5_any _).mono ?_
      rintro e w2 ⟨rfl, hb2⟩
      go_wp2_with fail
      go_ret
      exact ⟨rfl, hb1.trans (hb2.mono hb1.size)⟩
  have h3 : 3 ≤ m := by omega
  have hodd : m % 2 = 1 := by omega
  have hM := mayB_out (limbs_lim m) (may_yes hodd h3 (by omega))
  have HM := Lib.hid (val_limbs m)
  have z1 : ((m : Int) % 2 == 0) = false := by simp; omega
  have z2 : decide ((m : Int) < 3) = false := by simp; omega
  clear hno hodd
  obtain ⟨a, ham, haE⟩ : ∃ a, a < m ∧ a = x % m := ⟨_, Nat.mod_lt _ (by omega), rfl⟩
  obtain ⟨b, hbm, hbE⟩ : ∃ b, b < m ∧ b = y % m := ⟨_, Nat.mod_lt _ (by omega), rfl⟩
  have e1 : (x : Int) % (m : Int) = (a : Int) := by rw [haE]; simp
  have e2 : (y : Int) % (m : Int) = (b : Int) := by rw [hbE]; simp
  clear haE hbE
  have k1 : a * b ≤ 65535 * 65535 := Nat.mul_le_mul (by omega) (by omega)
  obtain ⟨ab, habE⟩ : ∃ ab, ab = a * b := ⟨_, rfl⟩
  obtain ⟨p, hpm, hpE⟩ : ∃ p, p < m ∧ p = ab % m := ⟨_, Nat.mod_lt _ (by omega), rfl⟩
  have e3 : (a : Int) * (b : Int) = (ab : Int) := by rw [habE]; simp
  have e4 : (ab : Int) % (m : Int) = (p : Int) := by rw [hpE]; simp
  obtain ⟨q, hqm, hqE⟩ : ∃ q, q < m ∧ Hid (q = a ^ n % m) := ⟨_, Nat.mod_lt _ (by omega), rfl⟩
  rw [← habE] at k1
  have HP : Hid (p = a * b % val (limbs m)) := by rw [hpE, habE, val_limbs]; exact rfl
  have HQ : Hid (q = a ^ n % val (limbs m)) := by have := hqE.out; rw [← val_limbs m] at this; exact this
  clear habE hpE
  have ha' : a < val (limbs m) := by rw [val_limbs]; exact ham
  have hb' : b < val (limbs m) := by rw [val_limbs]; exact hbm
  have HA := Lib.hid ha'
  have HB := Lib.hid hb'
  clear ha' hb'
  have hNa := Lib.hid (fun w' => number5_any a w' (by omega))
  have hNb := Lib.hid (fun w' => number5_any b w' (by omega))
  have hNn := Lib.hid (fun w' => number5_any n w' (by omega))
  have hNp := Lib.hid (fun w' => number5_any p w' (by omega))
  have hNq := Lib.hid (fun w' => number5_any q w' (by omega))
  have hpl := limbs64_len (v := p) (by omega)
  have hql := limbs64_len (v := q) (by omega)
  have hnl := num_len (e := n) (by omega)
  go_enter Try.func7, Try.ntmps7
  go_wp2_with fail
  refine (hNm.out _).mono ?_
  rintro e w1 ⟨Am, cm, rfl, _, _, hOm, hb1⟩
  go_wp2_with fail
  refine (newYes_any _ _ cm (limbs m) w1 rfl hOm.rd hM).mono ?_
  rintro e w2 ⟨g, rfl, hO, hb2⟩
  have hbel := hb1.trans (hb2.mono hb1.size)
  clear hb1 hb2 hOm
  generalize w1.heap.size = B0 at hO
  have hOw := Owns.nil w2 w2.heap.size
  have hb0 := Below.refl w2.heap.size w2
  go_wp2_with fail
  refine (hNa.out w2).mono ?_
  rintro e w3 ⟨A0q, c0q, rfl, _, _, ho, hb⟩
  replace hOw := hOw.add hb ho hb0.size
  replace hb0 := hb0.trans (hb.mono hb0.size)
  clear hb ho
  simp only [List.nil_append, List.cons_append] at hOw
  go_wp2_with fail
  refine (hNb.out w3).mono ?_
  rintro e w4 ⟨A1q, c1q, rfl, _, _, ho, hb⟩
  replace hOw := hOw.add hb ho hb0.size
  replace hb0 := hb0.trans (hb.mono hb0.size)
  clear hb ho
  simp only [List.nil_append, List.cons_append] at hOw
  go_wp2_with fail
  refine (mul_at hM HA.out HB.out HP.out _ _ _ _ _ _ _ (hO.below hb0) (hOw.rd 0 rfl) (hOw.rd 1 rfl)).mono ?_
  rintro e w5 ⟨A2q, c2q, rfl, _, _, ho, hb⟩
  replace hOw := hOw.add hb ho hb0.size
  replace hb0 := hb0.trans (hb.mono hb0.size)
  clear hb ho
  simp only [List.nil_append, List.cons_append] at hOw
  go_wp2_with fail
  refine (hNa.out w5).mono ?_
  rintro e w6 ⟨A3q, c3q, rfl, _, _, ho, hb⟩
  replace hOw := hOw.add hb ho hb0.size
  replace hb0 := hb0.trans (hb.mono hb0.size)
  clear hb ho
  simp only [List.nil_append, List.cons_append] at hOw
  go_wp2_with fail
  refine (hNn.out w6).mono ?_
  rintro e w7 ⟨A4q, c4q, rfl, _, _, ho, hb⟩
  replace hOw := hOw.add hb ho hb0.size
  replace hb0 := hb0.trans (hb.mono hb0.size)
  clear hb ho
  simp only [List.nil_append, List.cons_append] at hOw
  go_wp2_with fail
  refine (exp_at hM HA.out hnl HQ.out _ _ _ _ _ _ _ (hO.below hb0) (hOw.rd 3 rfl) (hOw.rd 4 rfl)).mono ?_
  rintro e w8 ⟨A5q, c5q, rfl, _, _, ho, hb⟩
  replace hOw := hOw.add hb ho hb0.size
  replace hb0 := hb0.trans (hb.mono hb0.size)
  clear hb ho
  simp only [List.nil_append, List.cons_append] at hOw
  go_wp2_with fail
  clear hO
  go_loop [17, 18] (fun sz si => ∃ (i z : Nat), sz = .int .u64 (z : Int) ∧ si = .int .i64 (i : Int) ∧ i ≤ n ∧ z < m ∧ Hid (z = a ^ i % m)) (fun _ si => n - (intOf si).toNat)
  case atStart => exact ⟨0, 1, rfl, rfl, Nat.zero_le _, by omega, show 1 = a ^ 0 % m by rw [Nat.pow_zero, Nat.mod_eq_of_lt (by omega)]⟩
  case round =>
    obtain ⟨i, z, rfl, rfl, hi, hzm, hzE⟩ := hrel
    by_cases hlt : i < n
    · have k2 : z * a ≤ 65535 * 65535 := Nat.mul_le_mul (by omega) (by omega)
      obtain ⟨za, hzaE⟩ : ∃ za, za = z * a := ⟨_, rfl⟩
      obtain ⟨z2, hz2m, hz2E⟩ : ∃ z2, z2 < m ∧ z2 = za % m := ⟨_, Nat.mod_lt _ (by omega), rfl⟩
      have f1 : (z : Int) * (a : Int) = (za : Int) := by rw [hzaE]; simp
      have f2 : (za : Int) % (m : Int) = (z2 : Int) := by rw [hz2E]; simp
      have HZ : Hid (z2 = a ^ (i + 1) % m) := by
        rw [hz2E, hzaE, hzE.out, Nat.pow_succ, Nat.mul_mod, Nat.mod_mod, ← Nat.mul_mod]
        exact rfl
      rw [← hzaE] at k2
      clear hzaE hz2E hzE
      go_wp2_with fail
      go_round
      case rel => exact ⟨i + 1, z2, by rw [f2], by go_num, hlt, hz2m, HZ⟩
      case measure => simp [intOf]; omega
    · obtain rfl : i = n := by omega
      obtain rfl : z = q := by rw [hzE.out, hqE.out]
      clear hzE
      go_wp2_with fail
      refine (hNp.out w8).mono ?_
      rintro e w9 ⟨A6q, c6q, rfl, _, _, ho, hb⟩
      replace hOw := hOw.add hb ho hb0.size
      replace hb0 := hb0.trans (hb.mono hb0.size)
      clear hb ho
      simp only [List.nil_append, List.cons_append] at hOw
      go_wp2_with fail
      refine (same_any A2q A6q _ _ c2q c6q (limbs p) (limbs p) w9 rfl rfl (by omega) (by omega) (hOw.rd 2 rfl) (hOw.rd 6 rfl)).mono ?_
      rintro e w' ⟨rfl, q', rfl⟩
      rw [show decide (limbs p = limbs p) = true by simp]
      replace hOw := hOw.drewN q'
      replace hb0 := below_drewN hb0 q'
      generalize w9.drewN q' = w10 at *
      go_wp2_with fail
      refine (hNq.out w10).mono ?_
      rintro e w11 ⟨A7q, c7q, rfl, _, _, ho, hb⟩
      replace hOw := hOw.add hb ho hb0.size
      replace hb0 := hb0.trans (hb.mono hb0.size)
      clear hb ho
      simp only [List.nil_append, List.cons_append] at hOw
      go_wp2_with fail
      refine (same_any A5q A7q _ _ c5q c7q (limbs z) (limbs z) w11 rfl rfl (by omega) (by omega) (hOw.rd 5 rfl) (hOw.rd 7 rfl)).mono ?_
      rintro e w' ⟨rfl, q', rfl⟩
      rw [show decide (limbs z = limbs z) = true by simp]
      replace hb0 := below_drewN hb0 q'
      generalize w11.drewN q' = w12 at *
      go_wp2_with fail
      refine (works5_any _).mono ?_
      rintro e w25 ⟨rfl, hbz⟩
      go_wp2_with fail
      go_ret
      exact ⟨rfl, hbel.trans ((hb0.trans (hbz.mono hb0.size)).mono hbel.size)⟩
end Go.Proofs.Ytfclpieijbgodaa
