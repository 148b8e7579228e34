/-
  Sums, products and differences as they are answered, errors and all: the program's and the reference's.
-/
import Derived.Test.YtfclpieijbgodaaNatT
import Derived.Test.YtfclpieijbgodaaNatN
namespace Go.Proofs.Ytfclpieijbgodaa
set_option linter.unusedVariables false
set_option linter.unusedSimpArgs false
open Go.RowKit

def addOf (xs ys : List Nat) : List Nat × Int := if isRight xs = true ∧ isRight ys = true then fitsOf (val xs + val ys) else ([], 1)
def mulOf (xs ys : List Nat) : List Nat × Int := if isRight xs = true ∧ isRight ys = true then fitsOf (val xs * val ys) else ([], 1)
def subOf (xs ys : List Nat) : List Nat × Int := if isRight xs = true ∧ isRight ys = true ∧ val ys ≤ val xs then (limbs (val xs - val ys), 0) else ([], 1)
theorem not_and_bool {a b : Bool} (h : ¬ (a = true ∧ b = true)) : a = false ∨ b = false := by
  cases a <;> cases b <;> simp_all
theorem add_all (A B : Option Addr) (n m c d : Nat) (xs ys : List Nat) (w : World) (hn : n = xs.length) (hm : m = ys.length) (hl : n ≤ 30000) (hl' : m ≤ 30000) (hx : Rd .u32 w A xs) (hy : Rd .u32 w B ys) (lx : Lim 4294967296 xs) (ly : Lim 4294967296 ys) :
    Calls Try.prog 18 #[.slice A n c, .slice B m d] w (Gives2 .u32 (addOf xs ys).1 (addOf xs ys).2 w) := by
  unfold addOf
  by_cases h : isRight xs = true ∧ isRight ys = true
  · rw [if_pos h]
    exact add_any A B n m c d xs ys w hn hm hx hy lx ly h.1 h.2
  · rw [if_neg h]
    exact add_arg A B n m c d xs ys w hn hm (by omega) (by omega) hx hy (not_and_bool h)
set_option maxHeartbeats 400000 in
theorem refAdd_all (A B : Option Addr) (n m c d : Nat) (xs ys : List Nat) (w : World) (hn : n = xs.length) (hm : m = ys.length) (hl : n ≤ 30000) (hl' : m ≤ 30000) (hx : Rd .u32 w A xs) (hy : Rd .u32 w B ys) (lx : Lim 4294967296 xs) (ly : Lim 4294967296 ys) :
    Calls Try.prog 19 #[.slice A n c, .slice B m d] w (Gives2 .u32 (addOf xs ys).1 (addOf xs ys).2 w) := by
  unfold addOf
  by_cases h : isRight xs = true ∧ isRight ys = true
  · rw [if_pos h]
    obtain ⟨h1, h2⟩ := h
    subst hn
    subst hm
    have hfl : (limbs (val xs + val ys)).length ≤ 70000 := Nat.le_trans (limbs_length_le (k := xs.length + ys.length + 1) (by
      have k1 := val_lt lx
      have k2 := val_lt ly
      first
        | exact Nat.lt_of_lt_of_le (Nat.mul_lt_mul'' k1 k2) (by rw [← Nat.pow_add]; exact Nat.pow_le_pow_right (by omega) (by omega))
        | (have k3 : 4294967296 ^ xs.length ≤ 4294967296 ^ (xs.length + ys.length) := Nat.pow_le_pow_right (by omega) (by omega)
           have k4 : 4294967296 ^ ys.length ≤ 4294967296 ^ (xs.length + ys.length) := Nat.pow_le_pow_right (by omega) (by omega)
           rw [Nat.pow_succ]
           omega))) (by omega)
    have hr := Lib.hid (show ∀ v, (Gives .u32 (limbs v)) = Gives .u32 (limbs v) from fun _ => rfl)
    go_enter Try.func19, Try.ntmps19
    go_wp2_with fail
    refine (refRight_any _ _ c xs _ rfl (by omega) hx).mono ?_
    rintro e w' ⟨rfl, rfl⟩
    go_wp2_with fail
    refine (refRight_any _ _ d ys _ rfl (by omega) hy).mono ?_
    rintro e w' ⟨rfl, rfl⟩
    go_wp2_with fail
    refine (refadd_any A B _ _ c d xs ys _ rfl rfl hl hl' hx hy lx ly).mono ?_
    rintro e w1 ⟨A', c', rfl, g1, g2, g3, g4⟩
    generalize val xs + val ys = v at *
    go_wp2_with fail
    refine (fits_any A' c' v w1 w g1 g2 g3 g4 hfl).mono ?_
    rintro e w2 ⟨A2, c2, rfl, k1, k2, k3, k4⟩
    generalize fitsOf v = f at *
    go_wp2_with fail
    go_ret2
    exact ⟨A2, c2, rfl, k1, k2, k3, k4⟩
  · rw [if_neg h]
    exact refAdd_arg A B n m c d xs ys w hn hm (by omega) (by omega) hx hy (not_and_bool h)
theorem mul_all (A B : Option Addr) (n m c d : Nat) (xs ys : List Nat) (w : World) (hn : n = xs.length) (hm : m = ys.length) (hl : n ≤ 30000) (hl' : m ≤ 30000) (hx : Rd .u32 w A xs) (hy : Rd .u32 w B ys) (lx : Lim 4294967296 xs) (ly : Lim 4294967296 ys) :
    Calls Try.prog 22 #[.slice A n c, .slice B m d] w (Gives2 .u32 (mulOf xs ys).1 (mulOf xs ys).2 w) := by
  unfold mulOf
  by_cases h : isRight xs = true ∧ isRight ys = true
  · rw [if_pos h]
    exact mul_any A B n m c d xs ys w hn hm hx hy lx ly h.1 h.2
  · rw [if_neg h]
    exact mul_arg A B n m c d xs ys w hn hm (by omega) (by omega) hx hy (not_and_bool h)
set_option maxHeartbeats 400000 in
theorem refMul_all (A B : Option Addr) (n m c d : Nat) (xs ys : List Nat) (w : World) (hn : n = xs.length) (hm : m = ys.length) (hl : n ≤ 30000) (hl' : m ≤ 30000) (hx : Rd .u32 w A xs) (hy : Rd .u32 w B ys) (lx : Lim 4294967296 xs) (ly : Lim 4294967296 ys) :
    Calls Try.prog 23 #[.slice A n c, .slice B m d] w (Gives2 .u32 (mulOf xs ys).1 (mulOf xs ys).2 w) := by
  unfold mulOf
  by_cases h : isRight xs = true ∧ isRight ys = true
  · rw [if_pos h]
    obtain ⟨h1, h2⟩ := h
    subst hn
    subst hm
    have hfl : (limbs (val xs * val ys)).length ≤ 70000 := Nat.le_trans (limbs_length_le (k := xs.length + ys.length + 1) (by
      have k1 := val_lt lx
      have k2 := val_lt ly
      first
        | exact Nat.lt_of_lt_of_le (Nat.mul_lt_mul'' k1 k2) (by rw [← Nat.pow_add]; exact Nat.pow_le_pow_right (by omega) (by omega))
        | (have k3 : 4294967296 ^ xs.length ≤ 4294967296 ^ (xs.length + ys.length) := Nat.pow_le_pow_right (by omega) (by omega)
           have k4 : 4294967296 ^ ys.length ≤ 4294967296 ^ (xs.length + ys.length) := Nat.pow_le_pow_right (by omega) (by omega)
           rw [Nat.pow_succ]
           omega))) (by omega)
    have hr := Lib.hid (show ∀ v, (Gives .u32 (limbs v)) = Gives .u32 (limbs v) from fun _ => rfl)
    go_enter Try.func23, Try.ntmps23
    go_wp2_with fail
    refine (refRight_any _ _ c xs _ rfl (by omega) hx).mono ?_
    rintro e w' ⟨rfl, rfl⟩
    go_wp2_with fail
    refine (refRight_any _ _ d ys _ rfl (by omega) hy).mono ?_
    rintro e w' ⟨rfl, rfl⟩
    go_wp2_with fail
    refine (refmul_any A B _ _ c d xs ys _ rfl rfl hl hl' hx hy lx ly).mono ?_
    rintro e w1 ⟨A', c', rfl, g1, g2, g3, g4⟩
    generalize val xs * val ys = v at *
    go_wp2_with fail
    refine (fits_any A' c' v w1 w g1 g2 g3 g4 hfl).mono ?_
    rintro e w2 ⟨A2, c2, rfl, k1, k2, k3, k4⟩
    generalize fitsOf v = f at *
    go_wp2_with fail
    go_ret2
    exact ⟨A2, c2, rfl, k1, k2, k3, k4⟩
  · rw [if_neg h]
    exact refMul_arg A B n m c d xs ys w hn hm (by omega) (by omega) hx hy (not_and_bool h)
theorem sub_all (A B : Option Addr) (n m c d : Nat) (xs ys : List Nat) (w : World) (hn : n = xs.length) (hm : m = ys.length) (hl : n ≤ 30000) (hl' : m ≤ 30000) (hx : Rd .u32 w A xs) (hy : Rd .u32 w B ys) (lx : Lim 4294967296 xs) (ly : Lim 4294967296 ys) :
    Calls Try.prog 20 #[.slice A n c, .slice B m d] w (Gives2 .u32 (subOf xs ys).1 (subOf xs ys).2 w) := by
  unfold subOf
  by_cases h : isRight xs = true ∧ isRight ys = true ∧ val ys ≤ val xs
  · rw [if_pos h]
    exact sub_ok A B n m c d xs ys w hn hm (by omega) (by omega) hx hy lx ly h.1 h.2.1 h.2.2
  · rw [if_neg h]
    refine sub_arg A B n m c d xs ys w hn hm (by omega) (by omega) hx hy lx ly ?_
    cases h1 : isRight xs
    · exact .inl rfl
    · cases h2 : isRight ys
      · exact .inr (.inl rfl)
      · refine .inr (.inr ?_)
        simp [h1, h2] at h
        omega
set_option maxHeartbeats 400000 in
theorem refSub_all (A B : Option Addr) (n m c d : Nat) (xs ys : List Nat) (w : World) (hn : n = xs.length) (hm : m = ys.length) (hl : n ≤ 30000) (hl' : m ≤ 30000) (hx : Rd .u32 w A xs) (hy : Rd .u32 w B ys) (lx : Lim 4294967296 xs) (ly : Lim 4294967296 ys) :
    Calls Try.prog 21 #[.slice A n c, .slice B m d] w (Gives2 .u32 (subOf xs ys).1 (subOf xs ys).2 w) := by
  subst hn
  subst hm
  cases r1 : isRight xs with
  | false =>
    have hs := Lib.hid (show subOf xs ys = ([], 1) by simp [subOf, r1])
    go_enter Try.func21, Try.ntmps21
    go_wp2_with fail
    refine (refRight_any _ _ c xs _ rfl (by omega) hx).mono ?_
    rintro e w' ⟨rfl, rfl⟩
    go_wp2_with fail
    go_ret2
    rw [hs.out]
    exact gives2_none _ _ _ _ (Below.refl _ _)
  | true =>
    cases r2 : isRight ys with
    | false =>
      have hs := Lib.hid (show subOf xs ys = ([], 1) by simp [subOf, r2])
      go_enter Try.func21, Try.ntmps21
      go_wp2_with fail
      refine (refRight_any _ _ c xs _ rfl (by omega) hx).mono ?_
      rintro e w' ⟨rfl, rfl⟩
      go_wp2_with fail
      refine (refRight_any _ _ d ys _ rfl (by omega) hy).mono ?_
      rintro e w' ⟨rfl, rfl⟩
      go_wp2_with fail
      go_ret2
      rw [hs.out]
      exact gives2_none _ _ _ _ (Below.refl _ _)
    | true =>
      obtain ⟨cp, hcp⟩ : ∃ cp, cp = cmpN (val xs) (val ys) := ⟨_, rfl⟩
      have hcmp := Lib.hid (show ∀ w, Rd .u32 w A xs → Rd .u32 w B ys → Calls Try.prog 64 #[.slice A xs.length c, .slice B ys.length d] w (Quiet (.int .i64 cp) w) from fun w hx hy => by rw [hcp]; exact refcmp_any A B _ _ c d xs ys w rfl rfl (by omega) (by omega) hx hy (isRight_canon lx r1) (isRight_canon ly r2))
      have cx := isRight_canon lx r1
      have cy := isRight_canon ly r2
      have hbd := cmpN_bd (val xs) (val ys)
      rw [← hcp] at hbd
      by_cases hlt : val xs < val ys
      · have hs := Lib.hid (show subOf xs ys = ([], 1) by simp [subOf]; omega)
        have hc : cp = -1 := by rw [hcp]; exact cmpN_lt hlt
        subst hc
        clear hcp
        go_enter Try.func21, Try.ntmps21
        go_wp2_with fail
        refine (refRight_any _ _ c xs _ rfl (by omega) hx).mono ?_
        rintro e w' ⟨rfl, rfl⟩
        go_wp2_with fail
        refine (refRight_any _ _ d ys _ rfl (by omega) hy).mono ?_
        rintro e w' ⟨rfl, rfl⟩
        go_wp2_with fail
        refine (hcmp.out _ hx hy).mono ?_
        rintro e w' ⟨rfl, q, rfl⟩
        go_wp2_with fail
        go_ret2
        rw [hs.out]
        exact gives2_none _ _ _ _ (below_drewN (Below.refl _ _) q)
      · have hs := Lib.hid (show subOf xs ys = (limbs (val xs - val ys), 0) by simp [subOf, r1, r2]; omega)
        have hlen : ys.length ≤ xs.length := by
          rcases Nat.lt_or_ge xs.length ys.length with h | h
          · have := val_lt_of_len lx cy h
            omega
          · exact h
        have hc : 0 ≤ cp := by
          have := (cmpN_neg (a := val xs) (b := val ys))
          rw [← hcp] at this
          omega
        have hge : val ys ≤ val xs := by omega
        have hd : decide (cp < 0) = false := by simp; omega
        clear hcp hlt
        go_enter Try.func21, Try.ntmps21
        go_wp2_with fail
        refine (refRight_any _ _ c xs _ rfl (by omega) hx).mono ?_
        rintro e w' ⟨rfl, rfl⟩
        go_wp2_with fail
        refine (refRight_any _ _ d ys _ rfl (by omega) hy).mono ?_
        rintro e w' ⟨rfl, rfl⟩
        go_wp2_with fail
        refine (hcmp.out _ hx hy).mono ?_
        rintro e w' ⟨rfl, q, rfl⟩
        go_wp2_with fail
        refine (refsub_any A B _ _ c d xs ys _ rfl rfl hl (hx.drewN q) (hy.drewN q) lx ly hlen hge).mono ?_
        rintro e w1 ⟨A', c', rfl, g1, g2, g3, g4⟩
        go_wp2_with fail
        go_ret2
        rw [hs.out]
        exact ⟨A', c', rfl, g1, g2, g3, (below_drewN (Below.refl _ _) q).trans g4⟩
end Go.Proofs.Ytfclpieijbgodaa
