/-
  The walk of the statement MontPowers: the power by a sum of exponents is the product of the powers, and so on.
-/
import Derived.Test.YtfclpieijbgodaaMonK
namespace Go.Proofs.Ytfclpieijbgodaa
set_option linter.unusedVariables false
set_option linter.unusedSimpArgs false
open Go.RowKit

theorem limbs_in {ms : List Nat} (hM : MayM ms) {x : Nat} (hx : x < val ms) : (limbs x).length ≤ 128 :=
  limbs_length_le (Nat.lt_of_lt_of_le hx (Nat.le_of_lt (Nat.lt_of_lt_of_le (val_lt hM.lm) (Nat.pow_le_pow_right (by omega) hM.len))))
theorem may_in {ms : List Nat} (hM : MayM ms) {x : Nat} (hx : x < val ms) : mayOf (limbs x) ms = true := by
  have := may_limbs hM x
  rwa [Nat.mod_eq_of_lt hx] at this
theorem exp_at {ms : List Nat} (hM : MayM ms) {x e v : Nat} (hx : x < val ms) (he : (limbs e).length ≤ 256) (hv : v = x ^ e % val ms) (B g : Nat) (X Y : Option Addr) (c d : Nat) (w : World) (hO : ModOk w B g ms) (h1 : Rd .u32 w X (limbs x)) (h2 : Rd .u32 w Y (limbs e)) :
    Calls Try.prog 37 #[.pointer (some ⟨g, 0, none⟩), .slice X (limbs x).length c, .slice Y (limbs e).length d] w (Gives2 .u32 (limbs v) 0 w) := by
  have h := mexp_any B g ms X Y _ _ c d (limbs x) (limbs e) w hO hM rfl rfl (by have := limbs_in hM hx; omega) (by omega) h1 h2 (limbs_lim _) (limbs_lim _)
  unfold expMOf at h
  rw [if_pos ⟨may_in hM hx, isRight_limbs he⟩, val_limbs, val_limbs, ← hv] at h
  exact h
theorem mul_at {ms : List Nat} (hM : MayM ms) {x y v : Nat} (hx : x < val ms) (hy : y < val ms) (hv : v = x * y % val ms) (B g : Nat) (X Y : Option Addr) (c d : Nat) (w : World) (hO : ModOk w B g ms) (h1 : Rd .u32 w X (limbs x)) (h2 : Rd .u32 w Y (limbs y)) :
    Calls Try.prog 35 #[.pointer (some ⟨g, 0, none⟩), .slice X (limbs x).length c, .slice Y (limbs y).length d] w (Gives2 .u32 (limbs v) 0 w) := by
  have h := mmul_any B g ms X Y _ _ c d (limbs x) (limbs y) w hO hM rfl rfl (by have := limbs_in hM hx; omega) (by have := limbs_in hM hy; omega) h1 h2 (limbs_lim _) (limbs_lim _)
  unfold mulMOf at h
  rw [if_pos ⟨may_in hM hx, may_in hM hy⟩, val_limbs, val_limbs, ← hv] at h
  exact h
theorem num_len {e : Nat} (h : e < 18446744073709551616) : (limbs e).length ≤ 256 := Nat.le_trans (limbs64_len h) (by omega)
theorem vast_cases {n m p : Nat} (h : 24 < n ∨ 300 < m ∨ 300 < p) :
    decide ((24 : Int) < (n : Int)) = true ∨ (decide ((24 : Int) < (n : Int)) = false ∧ decide ((300 : Int) < (m : Int)) = true) ∨ (decide ((24 : Int) < (n : Int)) = false ∧ decide ((300 : Int) < (m : Int)) = false ∧ decide ((300 : Int) < (p : Int)) = true) := by
  simp only [decide_eq_true_eq, decide_eq_false_iff_not]
  omega
set_option maxRecDepth 100000 in
set_option maxHeartbeats 3200000 in
theorem montPowers_any (A0 A1 A2 : Option Addr) (n0 n1 n2 c0 c1 c2 a b : Nat) (ms xs ys : List Nat) (w : World) (hn0 : n0 = ms.length) (hn1 : n1 = xs.length) (hn2 : n2 = ys.length)
    (hl0 : n0 ≤ 9223372036854775807) (hl1 : n1 ≤ 9223372036854775807) (hl2 : n2 ≤ 9223372036854775807) (hc1 : n1 ≤ c1) (hc2 : n2 ≤ c2) (ha : a < 65536) (hb : b < 65536)
    (r0 : Rd .u32 w A0 ms) (r1 : Rd .u32 w A1 xs) (r2 : Rd .u32 w A2 ys) (lm : Lim 4294967296 ms) (lx : Lim 4294967296 xs) (ly : Lim 4294967296 ys) :
    Calls Try.prog 5 #[.slice A0 n0 c0, .slice A1 n1 c1, .slice A2 n2 c2, .int .u16 (a : Int), .int .u16 (b : Int)] w (Yes w) := by
  subst hn0
  subst hn1
  subst hn2
  by_cases hbig : 24 < ms.length ∨ 300 < xs.length ∨ 300 < ys.length
  · have hz := vast_cases hbig
    clear hbig
    rcases hz with z1 | ⟨z1, z2⟩ | ⟨z1, z2, z3⟩
    all_goals
      go_enter Try.func5, Try.ntmps5
      go_wp2_with fail
      refine (works5_any _).mono ?_
      rintro e w1 ⟨rfl, hb⟩
      go_wp2_with fail
      go_ret
      exact ⟨rfl, hb⟩
  have hm3 : ms.length ≤ 24 := by omega
  have hx3 : xs.length ≤ 300 := by omega
  have hy3 : ys.length ≤ 300 := by omega
  have z1 : decide ((24 : Int) < (ms.length : Int)) = false := by simp; omega
  have z2 : decide ((300 : Int) < (xs.length : Int)) = false := by simp; omega
  have z3 : decide ((300 : Int) < (ys.length : Int)) = false := by simp; omega
  clear hbig
  have htw := Lib.hid (twin5_any A0 _ c0 ms w rfl (by omega) r0)
  cases hmay : mayB ms with
  | false =>
    go_enter Try.func5, Try.ntmps5
    go_wp2_with fail
    refine htw.out.mono ?_
    rintro e w1 ⟨gn, cn, rfl, hgn, hbn, hcn, hcn2, hb1⟩
    go_wp2_with fail
    refine (newNo_any _ _ cn ms w1 rfl (by omega) (Rd.of_all hbn) lm hmay).mono ?_
    rintro e w' ⟨rfl, rfl⟩
    go_wp2_with fail
    refine (works5_any _).mono ?_
    rintro e w2 ⟨rfl, hb2⟩
    go_wp2_with fail
    go_ret
    exact ⟨rfl, hb1.trans (hb2.mono hb1.size)⟩
  | true =>
    have hM := mayB_out lm hmay
    have hpos : 0 < val ms := by have := hM.three; omega
    obtain ⟨S, hS, hSE⟩ : ∃ S, S < val ms ∧ Hid (belowOf xs ms = limbs S) := ⟨_, Nat.mod_lt _ hpos, rfl⟩
    obtain ⟨T, hT, hTE⟩ : ∃ T, T < val ms ∧ Hid (belowOf ys ms = limbs T) := ⟨_, Nat.mod_lt _ hpos, rfl⟩
    have hab : a * b < 4294967296 := by have := Nat.mul_le_mul (show a ≤ 65535 by omega) (show b ≤ 65535 by omega); omega
    have hBX := Lib.hid (fun w' hb => below5_any A1 A0 _ ms.length c1 c0 xs ms w' rfl rfl (by omega) hc1 (r1.below hb) (r0.below hb) lx hM)
    have hBY := Lib.hid (fun w' hb => below5_any A2 A0 _ ms.length c2 c0 ys ms w' rfl rfl (by omega) hc2 (r2.below hb) (r0.below hb) ly hM)
    obtain ⟨P, hP, HP⟩ : ∃ P, P < val ms ∧ Hid (P = S ^ a % val ms) := ⟨_, Nat.mod_lt _ hpos, rfl⟩
    obtain ⟨Q, hQ, HQ⟩ : ∃ Q, Q < val ms ∧ Hid (Q = S ^ b % val ms) := ⟨_, Nat.mod_lt _ hpos, rfl⟩
    obtain ⟨R, hR, HR⟩ : ∃ R, R < val ms ∧ Hid (R = T ^ a % val ms) := ⟨_, Nat.mod_lt _ hpos, rfl⟩
    obtain ⟨U, hU, HU, HU2⟩ : ∃ U, U < val ms ∧ Hid (U = P * Q % val ms) ∧ Hid (U = S ^ (a + b) % val ms) := ⟨_, Nat.mod_lt _ hpos, rfl, show P * Q % val ms = S ^ (a + b) % val ms by rw [HP.out, HQ.out, Nat.pow_add, ← Nat.mul_mod]⟩
    obtain ⟨V, hV, HV⟩ : ∃ V, V < val ms ∧ Hid (V = S * T % val ms) := ⟨_, Nat.mod_lt _ hpos, rfl⟩
    obtain ⟨L, hL, HL, HL2⟩ : ∃ L, L < val ms ∧ Hid (L = V ^ a % val ms) ∧ Hid (L = P * R % val ms) := ⟨_, Nat.mod_lt _ hpos, rfl, show V ^ a % val ms = P * R % val ms by rw [HV.out, HP.out, HR.out, ← Nat.pow_mod, Nat.mul_pow, ← Nat.mul_mod]⟩
    obtain ⟨F, hF, HF, HF2⟩ : ∃ F, F < val ms ∧ Hid (F = P ^ b % val ms) ∧ Hid (F = S ^ (a * b) % val ms) := ⟨_, Nat.mod_lt _ hpos, rfl, show P ^ b % val ms = S ^ (a * b) % val ms by rw [HP.out, ← Nat.pow_mod, Nat.pow_mul]⟩
    have hUl := limbs_in hM hU
    have hLl := limbs_in hM hL
    have hFl := limbs_in hM hF
    have hNa := Lib.hid (fun w' => number5_any a w' (by omega))
    have hNb := Lib.hid (fun w' => number5_any b w' (by omega))
    have hNs := Lib.hid (fun w' => number5_any (a + b) w' (by omega))
    have hNp := Lib.hid (fun w' => number5_any (a * b) w' (by omega))
    rw [show ((a + b : Nat) : Int) = (a : Int) + (b : Int) by simp] at hNs
    rw [show ((a * b : Nat) : Int) = (a : Int) * (b : Int) by simp] at hNp
    have la := num_len (e := a) (by omega)
    have lb := num_len (e := b) (by omega)
    have ls := num_len (e := a + b) (by omega)
    have lp := num_len (e := a * b) (by omega)
    have hcst : ((a * b : Nat) : Int) = (a : Int) * (b : Int) := by simp
    have hab1 : (a : Int) * (b : Int) < 4294967296 := by omega
    have hab0 : 0 ≤ (a : Int) * (b : Int) := by omega
    clear hcst
    go_enter Try.func5, Try.ntmps5
    go_wp2_with fail
    refine htw.out.mono ?_
    rintro e w1 ⟨gn, cn, rfl, hgn, hbn, hcn, hcn2, hb1⟩
    clear htw
    go_wp2_with fail
    refine (newYes_any _ _ cn ms w1 rfl (Rd.of_all hbn) hM).mono ?_
    rintro e w2 ⟨g, rfl, hO, hb2⟩
    have hbel := hb1.trans (hb2.mono hb1.size)
    clear hb1 hb2 hbn hgn
    generalize w1.heap.size = B0 at hO
    have hOw := Owns.nil w2 w2.heap.size
    have hb0 := Below.refl w2.heap.size w2
    go_wp2_with fail
    refine (hBX.out w2 (hbel.trans (hb0.mono hbel.size))).mono ?_
    rintro e w3 ⟨A0q, c0q, rfl, _, _, ho, hb⟩
    rw [hSE.out] at ho ⊢
    replace hOw := hOw.add hb ho hb0.size
    replace hb0 := hb0.trans (hb.mono hb0.size)
    clear hb ho
    go_wp2_with fail
    refine (hBY.out w3 (hbel.trans (hb0.mono hbel.size))).mono ?_
    rintro e w4 ⟨A1q, c1q, rfl, _, _, ho, hb⟩
    rw [hTE.out] at ho ⊢
    replace hOw := hOw.add hb ho hb0.size
    replace hb0 := hb0.trans (hb.mono hb0.size)
    clear hb ho
    simp only [List.nil_append, List.cons_append] at hOw
    clear hBX hBY hSE hTE
    go_wp2_with fail
    refine (hNa.out w4).mono ?_
    rintro e w5 ⟨A2q, c2q, rfl, _, _, ho, hb⟩
    replace hOw := hOw.add hb ho hb0.size
    replace hb0 := hb0.trans (hb.mono hb0.size)
    clear hb ho
    simp only [List.nil_append, List.cons_append] at hOw
    go_wp2_with fail
    refine (exp_at hM hS la HP.out _ _ _ _ _ _ _ (hO.below hb0) (hOw.rd 0 rfl) (hOw.rd 2 rfl)).mono ?_
    rintro e w6 ⟨APq, cPq, rfl, _, _, ho, hb⟩
    replace hOw := hOw.add hb ho hb0.size
    replace hb0 := hb0.trans (hb.mono hb0.size)
    clear hb ho
    simp only [List.nil_append, List.cons_append] at hOw
    go_wp2_with fail
    refine (hNb.out w6).mono ?_
    rintro e w7 ⟨A4q, c4q, rfl, _, _, ho, hb⟩
    replace hOw := hOw.add hb ho hb0.size
    replace hb0 := hb0.trans (hb.mono hb0.size)
    clear hb ho
    simp only [List.nil_append, List.cons_append] at hOw
    go_wp2_with fail
    refine (exp_at hM hS lb HQ.out _ _ _ _ _ _ _ (hO.below hb0) (hOw.rd 0 rfl) (hOw.rd 4 rfl)).mono ?_
    rintro e w8 ⟨AQq, cQq, rfl, _, _, ho, hb⟩
    replace hOw := hOw.add hb ho hb0.size
    replace hb0 := hb0.trans (hb.mono hb0.size)
    clear hb ho
    simp only [List.nil_append, List.cons_append] at hOw
    go_wp2_with fail
    refine (hNs.out w8).mono ?_
    rintro e w9 ⟨A6q, c6q, rfl, _, _, ho, hb⟩
    replace hOw := hOw.add hb ho hb0.size
    replace hb0 := hb0.trans (hb.mono hb0.size)
    clear hb ho
    simp only [List.nil_append, List.cons_append] at hOw
    go_wp2_with fail
    refine (exp_at hM hS ls HU2.out _ _ _ _ _ _ _ (hO.below hb0) (hOw.rd 0 rfl) (hOw.rd 6 rfl)).mono ?_
    rintro e w10 ⟨AUq, cUq, rfl, _, _, ho, hb⟩
    replace hOw := hOw.add hb ho hb0.size
    replace hb0 := hb0.trans (hb.mono hb0.size)
    clear hb ho
    simp only [List.nil_append, List.cons_append] at hOw
    go_wp2_with fail
    refine (mul_at hM hP hQ HU.out _ _ _ _ _ _ _ (hO.below hb0) (hOw.rd 3 rfl) (hOw.rd 5 rfl)).mono ?_
    rintro e w11 ⟨AU2q, cU2q, rfl, _, _, ho, hb⟩
    replace hOw := hOw.add hb ho hb0.size
    replace hb0 := hb0.trans (hb.mono hb0.size)
    clear hb ho
    simp only [List.nil_append, List.cons_append] at hOw
    go_wp2_with fail
    refine (mul_at hM hS hT HV.out _ _ _ _ _ _ _ (hO.below hb0) (hOw.rd 0 rfl) (hOw.rd 1 rfl)).mono ?_
    rintro e w12 ⟨AVq, cVq, rfl, _, _, ho, hb⟩
    replace hOw := hOw.add hb ho hb0.size
    replace hb0 := hb0.trans (hb.mono hb0.size)
    clear hb ho
    simp only [List.nil_append, List.cons_append] at hOw
    go_wp2_with fail
    refine (hNa.out w12).mono ?_
    rintro e w13 ⟨A10q, c10q, rfl, _, _, ho, hb⟩
    replace hOw := hOw.add hb ho hb0.size
    replace hb0 := hb0.trans (hb.mono hb0.size)
    clear hb ho
    simp only [List.nil_append, List.cons_append] at hOw
    go_wp2_with fail
    refine (exp_at hM hT la HR.out _ _ _ _ _ _ _ (hO.below hb0) (hOw.rd 1 rfl) (hOw.rd 10 rfl)).mono ?_
    rintro e w14 ⟨ARq, cRq, rfl, _, _, ho, hb⟩
    replace hOw := hOw.add hb ho hb0.size
    replace hb0 := hb0.trans (hb.mono hb0.size)
    clear hb ho
    simp only [List.nil_append, List.cons_append] at hOw
    go_wp2_with fail
    refine (hNa.out w14).mono ?_
    rintro e w15 ⟨A12q, c12q, rfl, _, _, ho, hb⟩
    replace hOw := hOw.add hb ho hb0.size
    replace hb0 := hb0.trans (hb.mono hb0.size)
    clear hb ho
    simp only [List.nil_append, List.cons_append] at hOw
    go_wp2_with fail
    refine (exp_at hM hV la HL.out _ _ _ _ _ _ _ (hO.below hb0) (hOw.rd 9 rfl) (hOw.rd 12 rfl)).mono ?_
    rintro e w16 ⟨ALq, cLq, rfl, _, _, ho, hb⟩
    replace hOw := hOw.add hb ho hb0.size
    replace hb0 := hb0.trans (hb.mono hb0.size)
    clear hb ho
    simp only [List.nil_append, List.cons_append] at hOw
    go_wp2_with fail
    refine (mul_at hM hP hR HL2.out _ _ _ _ _ _ _ (hO.below hb0) (hOw.rd 3 rfl) (hOw.rd 11 rfl)).mono ?_
    rintro e w17 ⟨AL2q, cL2q, rfl, _, _, ho, hb⟩
    replace hOw := hOw.add hb ho hb0.size
    replace hb0 := hb0.trans (hb.mono hb0.size)
    clear hb ho
    simp only [List.nil_append, List.cons_append] at hOw
    go_wp2_with fail
    refine (hNb.out w17).mono ?_
    rintro e w18 ⟨A15q, c15q, rfl, _, _, ho, hb⟩
    replace hOw := hOw.add hb ho hb0.size
    replace hb0 := hb0.trans (hb.mono hb0.size)
    clear hb ho
    simp only [List.nil_append, List.cons_append] at hOw
    go_wp2_with fail
    refine (exp_at hM hP lb HF.out _ _ _ _ _ _ _ (hO.below hb0) (hOw.rd 3 rfl) (hOw.rd 15 rfl)).mono ?_
    rintro e w19 ⟨AFq, cFq, rfl, _, _, ho, hb⟩
    replace hOw := hOw.add hb ho hb0.size
    replace hb0 := hb0.trans (hb.mono hb0.size)
    clear hb ho
    simp only [List.nil_append, List.cons_append] at hOw
    go_wp2_with fail
    refine (hNp.out w19).mono ?_
    rintro e w20 ⟨A17q, c17q, rfl, _, _, ho, hb⟩
    replace hOw := hOw.add hb ho hb0.size
    replace hb0 := hb0.trans (hb.mono hb0.size)
    clear hb ho
    simp only [List.nil_append, List.cons_append] at hOw
    go_wp2_with fail
    refine (exp_at hM hS lp HF2.out _ _ _ _ _ _ _ (hO.below hb0) (hOw.rd 0 rfl) (hOw.rd 17 rfl)).mono ?_
    rintro e w21 ⟨AF2q, cF2q, rfl, _, _, ho, hb⟩
    replace hOw := hOw.add hb ho hb0.size
    replace hb0 := hb0.trans (hb.mono hb0.size)
    clear hb ho
    simp only [List.nil_append, List.cons_append] at hOw
    go_wp2_with fail
    refine (same_any AUq AU2q _ _ cUq cU2q (limbs U) (limbs U) w21 rfl rfl (by omega) (by omega) (hOw.rd 7 rfl) (hOw.rd 8 rfl)).mono ?_
    rintro e w' ⟨rfl, q, rfl⟩
    rw [show decide (limbs U = limbs U) = true by simp]
    replace hOw := hOw.drewN q
    replace hb0 := below_drewN hb0 q
    generalize w21.drewN q = w22 at *
    go_wp2_with fail
    refine (same_any ALq AL2q _ _ cLq cL2q (limbs L) (limbs L) w22 rfl rfl (by omega) (by omega) (hOw.rd 13 rfl) (hOw.rd 14 rfl)).mono ?_
    rintro e w' ⟨rfl, q, rfl⟩
    rw [show decide (limbs L = limbs L) = true by simp]
    replace hOw := hOw.drewN q
    replace hb0 := below_drewN hb0 q
    generalize w22.drewN q = w23 at *
    go_wp2_with fail
    refine (same_any AFq AF2q _ _ cFq cF2q (limbs F) (limbs F) w23 rfl rfl (by omega) (by omega) (hOw.rd 16 rfl) (hOw.rd 18 rfl)).mono ?_
    rintro e w' ⟨rfl, q, rfl⟩
    rw [show decide (limbs F = limbs F) = true by simp]
    replace hOw := hOw.drewN q
    replace hb0 := below_drewN hb0 q
    generalize w23.drewN q = w24 at *
    go_wp2_with fail
    refine (works5_any _).mono ?_
    rintro e w25 ⟨rfl, hbz⟩
    go_wp2_with fail
    go_ret
    exact ⟨rfl, hbel.trans ((hb0.trans (hbz.mono hb0.size)).mono hbel.size)⟩
end Go.Proofs.Ytfclpieijbgodaa
