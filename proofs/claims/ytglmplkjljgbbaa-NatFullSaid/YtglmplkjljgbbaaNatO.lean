/-
  The program's functions on right numbers, told by the numbers themselves: for the statements that go without the document's answer.
-/
import Derived.Test.YtglmplkjljgbbaaNatN
namespace Go.Proofs.Ytglmplkjljgbbaa
set_option linter.unusedVariables false
set_option linter.unusedSimpArgs false
open Go.RowKit

theorem addL (A B : Option Addr) (c d : Nat) (a b : Nat) (w : World) (hA : Rd .u32 w A (limbs a)) (hB : Rd .u32 w B (limbs b)) (h1 : (limbs a).length ≤ 256) (h2 : (limbs b).length ≤ 256) (h3 : (limbs (a + b)).length ≤ 256) :
    Calls Try.prog 25 #[.slice A (limbs a).length c, .slice B (limbs b).length d] w (Gives2 .u32 (limbs (a + b)) 0 w) := by
  have h := add_any A B _ _ c d (limbs a) (limbs b) w rfl rfl hA hB (limbs_lim a) (limbs_lim b) (isRight_limbs h1) (isRight_limbs h2)
  rwa [val_limbs, val_limbs, fitsOf_ok h3] at h
theorem addL_big (A B : Option Addr) (c d : Nat) (a b : Nat) (w : World) (hA : Rd .u32 w A (limbs a)) (hB : Rd .u32 w B (limbs b)) (h1 : (limbs a).length ≤ 256) (h2 : (limbs b).length ≤ 256) (h3 : 256 < (limbs (a + b)).length) :
    Calls Try.prog 25 #[.slice A (limbs a).length c, .slice B (limbs b).length d] w (Gives2 .u32 [] 10 w) := by
  have h := add_any A B _ _ c d (limbs a) (limbs b) w rfl rfl hA hB (limbs_lim a) (limbs_lim b) (isRight_limbs h1) (isRight_limbs h2)
  rwa [val_limbs, val_limbs, fitsOf_big h3] at h
theorem mulL (A B : Option Addr) (c d : Nat) (a b : Nat) (w : World) (hA : Rd .u32 w A (limbs a)) (hB : Rd .u32 w B (limbs b)) (h1 : (limbs a).length ≤ 256) (h2 : (limbs b).length ≤ 256) (h3 : (limbs (a * b)).length ≤ 256) :
    Calls Try.prog 26 #[.slice A (limbs a).length c, .slice B (limbs b).length d] w (Gives2 .u32 (limbs (a * b)) 0 w) := by
  have h := mul_any A B _ _ c d (limbs a) (limbs b) w rfl rfl hA hB (limbs_lim a) (limbs_lim b) (isRight_limbs h1) (isRight_limbs h2)
  rwa [val_limbs, val_limbs, fitsOf_ok h3] at h
theorem mulL_big (A B : Option Addr) (c d : Nat) (a b : Nat) (w : World) (hA : Rd .u32 w A (limbs a)) (hB : Rd .u32 w B (limbs b)) (h1 : (limbs a).length ≤ 256) (h2 : (limbs b).length ≤ 256) (h3 : 256 < (limbs (a * b)).length) :
    Calls Try.prog 26 #[.slice A (limbs a).length c, .slice B (limbs b).length d] w (Gives2 .u32 [] 10 w) := by
  have h := mul_any A B _ _ c d (limbs a) (limbs b) w rfl rfl hA hB (limbs_lim a) (limbs_lim b) (isRight_limbs h1) (isRight_limbs h2)
  rwa [val_limbs, val_limbs, fitsOf_big h3] at h
theorem subL (A B : Option Addr) (c d : Nat) (a b : Nat) (w : World) (hA : Rd .u32 w A (limbs a)) (hB : Rd .u32 w B (limbs b)) (h1 : (limbs a).length ≤ 256) (h2 : (limbs b).length ≤ 256) (h3 : b ≤ a) :
    Calls Try.prog 27 #[.slice A (limbs a).length c, .slice B (limbs b).length d] w (Gives2 .u32 (limbs (a - b)) 0 w) := by
  have h := sub_ok A B _ _ c d (limbs a) (limbs b) w rfl rfl (by omega) (by omega) hA hB (limbs_lim a) (limbs_lim b) (isRight_limbs h1) (isRight_limbs h2) (by rw [val_limbs, val_limbs]; exact h3)
  rwa [val_limbs, val_limbs] at h
theorem subL2 (A B : Option Addr) (c d : Nat) (a b : Nat) (w : World) (hA : Rd .u32 w A (limbs (a + b))) (hB : Rd .u32 w B (limbs b)) (h1 : (limbs (a + b)).length ≤ 256) (h2 : (limbs b).length ≤ 256) (h3 : (limbs a).length ≤ 256) :
    Calls Try.prog 27 #[.slice A (limbs (a + b)).length c, .slice B (limbs b).length d] w (Gives2 .u32 (limbs a) 0 w) := by
  have h := subL A B c d (a + b) b w hA hB h1 h2 (Nat.le_add_left _ _)
  rwa [Nat.add_sub_cancel] at h
theorem subL_arg (A B : Option Addr) (c d : Nat) (a b : Nat) (w : World) (hA : Rd .u32 w A (limbs a)) (hB : Rd .u32 w B (limbs b)) (h1 : (limbs a).length ≤ 256) (h2 : (limbs b).length ≤ 256) (h3 : a < b) :
    Calls Try.prog 27 #[.slice A (limbs a).length c, .slice B (limbs b).length d] w (Gives2 .u32 [] 1 w) :=
  sub_arg A B _ _ c d (limbs a) (limbs b) w rfl rfl (by omega) (by omega) hA hB (limbs_lim a) (limbs_lim b) (.inr (.inr (by rw [val_limbs, val_limbs]; exact h3)))
theorem divL (A B : Option Addr) (c d : Nat) (a b : Nat) (w : World) (hA : Rd .u32 w A (limbs a)) (hB : Rd .u32 w B (limbs b)) (h1 : (limbs a).length ≤ 256) (h2 : (limbs b).length ≤ 256) (h3 : 0 < b) :
    Calls Try.prog 31 #[.slice A (limbs a).length c, .slice B (limbs b).length d] w (Gives3 (limbs (a / b)) (limbs (a % b)) 0 w) := by
  have h := div_any A B _ _ c d (limbs a) (limbs b) w rfl rfl (by omega) (by omega) hA hB (limbs_lim a) (limbs_lim b)
  rw [divOf_ok (isRight_limbs h1) (isRight_limbs h2) (by rw [ne_eq, limbs_nil_iff]; omega), val_limbs, val_limbs] at h
  exact h
theorem cmpL (A B : Option Addr) (c d : Nat) (a b : Nat) (w : World) (hA : Rd .u32 w A (limbs a)) (hB : Rd .u32 w B (limbs b)) (h1 : (limbs a).length ≤ 256) (h2 : (limbs b).length ≤ 256) :
    Calls Try.prog 24 #[.slice A (limbs a).length c, .slice B (limbs b).length d] w (Quiet (.int .i64 (cmpN a b)) w) := by
  have h := cmpAny_any A B _ _ c d (limbs a) (limbs b) w rfl rfl (by omega) (by omega) hA hB (limbs_lim a) (limbs_lim b)
  rw [if_pos ⟨isRight_limbs h1, isRight_limbs h2⟩, val_limbs, val_limbs] at h
  exact h
theorem bitsL (A : Option Addr) (c : Nat) (a : Nat) (w : World) (hA : Rd .u32 w A (limbs a)) (h1 : (limbs a).length ≤ 256) :
    Calls Try.prog 18 #[.slice A (limbs a).length c] w fun e w' => e = .returned (.int .i64 (nbits a : Int)) ∧ w = w' := by
  have h := bits_any A _ c (limbs a) w rfl (by omega) hA (limbs_lim a)
  rw [bitsOf_right (isRight_limbs h1), val_limbs] at h
  exact h
theorem rightL (A : Option Addr) (c : Nat) (a : Nat) (w : World) (hA : Rd .u32 w A (limbs a)) (h1 : (limbs a).length ≤ 256) :
    Calls Try.prog 16 #[.slice A (limbs a).length c] w fun e w' => e = .returned (.bool true) ∧ w = w' := by
  have h := right_any A _ c (limbs a) w rfl (by omega) hA
  rw [isRight_limbs h1] at h
  exact h
theorem sameL (A B : Option Addr) (c d : Nat) (a b : Nat) (w : World) (hA : Rd .u32 w A (limbs a)) (hB : Rd .u32 w B (limbs b)) (h1 : (limbs a).length ≤ 256) (h2 : (limbs b).length ≤ 256) :
    Calls Try.prog 15 #[.slice A (limbs a).length c, .slice B (limbs b).length d] w (Quiet (.bool (decide (a = b))) w) := by
  have h := same_any A B _ _ c d (limbs a) (limbs b) w rfl rfl (by omega) (by omega) hA hB
  have e : decide (limbs a = limbs b) = decide (a = b) := by
    by_cases h : a = b
    · subst h; simp
    · have : limbs a ≠ limbs b := fun e => h (limbs_inj e)
      simp [h, this]
  rw [e] at h
  exact h
theorem briefL (A : Option Addr) (n c : Nat) (xs : List Nat) (most : Nat) (w : World) (hn : n = xs.length) (hc : n ≤ c) (hnl : n ≤ 9223372036854775807) (hl : most ≤ 70000) (hx : Rd .u32 w A xs) (lx : Lim 4294967296 xs) :
    Calls Try.prog 23 #[.slice A n c, .int .i64 (most : Int)] w (Gives .u32 (limbs (briefOf xs most)) w) := brief_any A n c xs most w hn hc hnl hl hx lx
theorem briefOf_lt (xs : List Nat) (most : Nat) (lx : Lim 4294967296 xs) : briefOf xs most < 4294967296 ^ most := by
  have h := val_lt (lx.take most)
  have h2 : (4294967296 : Nat) ^ (xs.take most).length ≤ 4294967296 ^ most := Nat.pow_le_pow_right (by omega) (by rw [List.length_take]; omega)
  exact Nat.lt_of_lt_of_le h h2
theorem len_add {a b k : Nat} (ha : a < 4294967296 ^ k) (hb : b < 4294967296 ^ k) : a + b < 4294967296 ^ (k + 1) := by
  rw [Nat.pow_succ]
  omega
theorem len_mul {a b k j : Nat} (ha : a < 4294967296 ^ k) (hb : b < 4294967296 ^ j) : a * b < 4294967296 ^ (k + j) := by
  rw [Nat.pow_add]
  exact Nat.mul_lt_mul'' ha hb
theorem len_mono {a k j : Nat} (ha : a < 4294967296 ^ k) (h : k ≤ j) : a < 4294967296 ^ j := Nat.lt_of_lt_of_le ha (Nat.pow_le_pow_right (by omega) h)
theorem len_le {a b k : Nat} (hb : b < 4294967296 ^ k) (h : a ≤ b) : a < 4294967296 ^ k := Nat.lt_of_le_of_lt h hb
theorem len_256 {a k : Nat} (ha : a < 4294967296 ^ k) (h : k ≤ 256) : (limbs a).length ≤ 256 := Nat.le_trans (limbs_length_le ha) h
end Go.Proofs.Ytglmplkjljgbbaa
