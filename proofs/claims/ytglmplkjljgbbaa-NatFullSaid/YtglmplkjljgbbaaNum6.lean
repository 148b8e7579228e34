/-
  Numbers of the statement NatFull: the greatest of so many limbs, one more, and products of two that have one limb only, at the top.
-/
import Derived.Test.YtglmplkjljgbbaaNatO
namespace Go.Proofs.Ytglmplkjljgbbaa
open Go.RowKit

theorem lim_app {b : Nat} {xs ys : List Nat} (hx : Lim b xs) (hy : Lim b ys) : Lim b (xs ++ ys) := by
  intro x h
  rcases List.mem_append.1 h with h | h
  · exact hx x h
  · exact hy x h
theorem lim_rep {b : Nat} (n y : Nat) (h : y < b) : Lim b (List.replicate n y) := by
  intro x hx
  rw [List.eq_of_mem_replicate hx]
  exact h
theorem val_one (x : Nat) : val [x] = x := by simp [val]
theorem val_max (n : Nat) : val (List.replicate n 4294967295) + 1 = 4294967296 ^ n := by
  induction n with
  | zero => rfl
  | succ n ih => rw [List.replicate_succ, val, Nat.pow_succ]; omega
theorem limbs_max (n : Nat) : limbs (4294967296 ^ n - 1) = List.replicate n 4294967295 := by
  have h : val (List.replicate n 4294967295) = 4294967296 ^ n - 1 := by have := val_max n; omega
  rw [← h]
  refine limbs_val ⟨lim_rep _ _ (by decide), ?_⟩
  rw [List.getLast?_replicate]
  split <;> simp
theorem limbs_pow (n : Nat) : limbs (4294967296 ^ n) = List.replicate n 0 ++ [1] := by
  have h : val (List.replicate n 0 ++ [1]) = 4294967296 ^ n := by rw [val_append, val_replicate, val_one, List.length_replicate]; omega
  rw [← h]
  refine limbs_val ⟨lim_app (lim_rep _ _ (by decide)) (lim_rep 1 1 (by decide)), ?_⟩
  simp
theorem limbs_top (n : Nat) : limbs (4294967296 ^ n * 4294967295) = List.replicate n 0 ++ [4294967295] := by
  have h : val (List.replicate n 0 ++ [4294967295]) = 4294967296 ^ n * 4294967295 := by rw [val_append, val_replicate, val_one, List.length_replicate]; omega
  rw [← h]
  refine limbs_val ⟨lim_app (lim_rep _ _ (by decide)) (lim_rep 1 4294967295 (by decide)), ?_⟩
  simp
theorem limbs_top2 (n m : Nat) : limbs (4294967296 ^ n * 4294967295 * (4294967296 ^ m * 4294967295)) = List.replicate (n + m) 0 ++ [1, 4294967294] := by
  have h : val (List.replicate (n + m) 0 ++ [1, 4294967294]) = 4294967296 ^ n * 4294967295 * (4294967296 ^ m * 4294967295) := by
    rw [val_append, val_replicate, List.length_replicate, show val [1, 4294967294] = 4294967295 * 4294967295 from rfl, Nat.pow_add]
    generalize 4294967296 ^ n = p
    generalize 4294967296 ^ m = q
    rw [Nat.zero_add, Nat.mul_mul_mul_comm]
  rw [← h]
  refine limbs_val ⟨lim_app (lim_rep _ _ (by decide)) ?_, ?_⟩
  · intro x hx
    simp at hx
    omega
  · simp
theorem nbits_pow (n : Nat) : nbits (4294967296 ^ n) = 32 * n + 1 := by
  have e : (4294967296 : Nat) ^ n = 2 ^ (32 * n) := by rw [Nat.pow_mul]
  rw [e]
  exact nbits_eq (Nat.le_refl _) (Nat.pow_lt_pow_right (by decide) (by omega))
theorem len_max (n : Nat) : (limbs (4294967296 ^ n - 1)).length = n := by rw [limbs_max, List.length_replicate]
theorem len_pow (n : Nat) : (limbs (4294967296 ^ n)).length = n + 1 := by rw [limbs_pow]; simp
theorem len_top (n : Nat) : (limbs (4294967296 ^ n * 4294967295)).length = n + 1 := by rw [limbs_top]; simp
theorem len_top2 (n m : Nat) : (limbs (4294967296 ^ n * 4294967295 * (4294967296 ^ m * 4294967295))).length = n + m + 2 := by rw [limbs_top2]; simp
theorem get_pow (n : Nat) : (limbs (4294967296 ^ n))[n]? = some 1 := by rw [limbs_pow, List.getElem?_append_right (by simp)]; simp
theorem get_top2 (n m : Nat) : (limbs (4294967296 ^ n * 4294967295 * (4294967296 ^ m * 4294967295)))[n + m + 1]? = some 4294967294 := by
  rw [limbs_top2, List.getElem?_append_right (by simp)]; simp
theorem limbs_one : limbs 1 = [1] := rfl
end Go.Proofs.Ytglmplkjljgbbaa
