/-
  Plain laws for the quotient and the rest: what is kept from digit to digit, and shifting back. No program in sight.
-/
import Derived.Test.YtfclpieijbgodaaNum4
namespace Go.Proofs.Ytfclpieijbgodaa
set_option linter.unusedVariables false
set_option linter.unusedSimpArgs false

theorem val_drop_set {qs : List Nat} {j q : Nat} (h : j < qs.length) : val ((qs.set j q).drop j) = q + 4294967296 * val (qs.drop (j + 1)) := by
  have h1 : (qs.set j q)[j]? = some q := by rw [List.getElem?_set_self h]
  rw [val_drop_succ h1]
  congr 3
  apply List.ext_getElem?
  intro i
  rw [List.getElem?_drop, List.getElem?_drop, List.getElem?_set_ne (by omega)]

/-- One digit: what was kept is kept. -/
theorem div_step {us us' qs : List Nat} {j V U : Nat} (hj : j < us.length) (hjq : j < qs.length)
    (hinv : val us + V * (4294967296 ^ (j + 1) * val (qs.drop (j + 1))) = U)
    (h1 : us'.take j = us.take j) (hlen : us'.length = us.length) (h2 : val (us'.drop j) = val (us.drop j) % V) :
    val us' + V * (4294967296 ^ j * val ((qs.set j (val (us.drop j) / V)).drop j)) = U := by
  have e1 := val_split us j (by omega)
  have e2 := val_split us' j (by omega)
  rw [h1, h2] at e2
  rw [val_drop_set hjq]
  have e3 : V * (4294967296 ^ j * (val (us.drop j) / V + 4294967296 * val (qs.drop (j + 1)))) = 4294967296 ^ j * (V * (val (us.drop j) / V)) + V * (4294967296 ^ (j + 1) * val (qs.drop (j + 1))) := by
    rw [Nat.mul_add, Nat.mul_add, Nat.pow_succ, Nat.mul_left_comm V, ← Nat.mul_assoc (4294967296 ^ j) 4294967296]
  have e4 : 4294967296 ^ j * (val (us.drop j) % V) + 4294967296 ^ j * (V * (val (us.drop j) / V)) = 4294967296 ^ j * val (us.drop j) := by
    rw [← Nat.mul_add, Nat.mod_add_div]
  omega
theorem div_high {us : List Nat} {i V z : Nat} (h : val (us.drop (i + 1)) < V) (hz : us[i]? = some z) (hzl : z < 4294967296) : val (us.drop i) < 4294967296 * V := by
  rw [val_drop_succ hz]
  have : 4294967296 * (val (us.drop (i + 1)) + 1) ≤ 4294967296 * V := Nat.mul_le_mul_left _ h
  omega
theorem div_end {u q U V : Nat} (h1 : u < V) (h2 : u + V * q = U) : q = U / V ∧ u = U % V := by
  subst h2
  rw [Nat.add_mul_div_left _ _ (by omega), Nat.div_eq_of_lt h1, Nat.add_mul_mod_self_left, Nat.mod_eq_of_lt h1]
  exact ⟨by omega, rfl⟩

/-- What shifting back has done behind i limbs. -/
def rshTo (cs : List Nat) (n k : Nat) : Nat → List Nat
  | 0 => cs
  | i + 1 => (rshTo cs n k i).set i ((rshTo cs n k i).getD i 0 / 2 ^ k + (if i + 1 < n then (rshTo cs n k i).getD (i + 1) 0 * 2 ^ (32 - k) % 4294967296 else 0))
theorem rshTo_length (cs : List Nat) (n k i : Nat) : (rshTo cs n k i).length = cs.length := by
  induction i with
  | zero => rfl
  | succ i ih => simp [rshTo, ih]
theorem rshTo_get {cs : List Nat} {n k i j : Nat} (h : i ≤ j) : (rshTo cs n k i)[j]? = cs[j]? := by
  induction i with
  | zero => rfl
  | succ i ih => rw [rshTo, List.getElem?_set_ne (by omega)]; exact ih (by omega)
theorem low_bits (y k : Nat) (hk : k ≤ 32) : 2 ^ k * (y * 2 ^ (32 - k) % 4294967296) = 4294967296 * (y % 2 ^ k) := by
  have h : (4294967296 : Nat) = 2 ^ k * 2 ^ (32 - k) := by rw [← Nat.pow_add, show k + (32 - k) = 32 from by omega]
  have h2 : y * 2 ^ (32 - k) % 4294967296 = (y % 2 ^ k) * 2 ^ (32 - k) := by rw [h, Nat.mul_mod_mul_right]
  rw [h2, h, Nat.mul_assoc, Nat.mul_comm (y % 2 ^ k)]
theorem rsh_sum {x y k : Nat} (hx : x < 4294967296) (hk : k ≤ 32) : x / 2 ^ k + y * 2 ^ (32 - k) % 4294967296 < 4294967296 ∧ (x / 2 ^ k ||| (y * 2 ^ (32 - k) % 4294967296)) = x / 2 ^ k + y * 2 ^ (32 - k) % 4294967296 := by
  obtain ⟨q, hq⟩ := mod_shift y (32 - k) (by omega)
  have h : (4294967296 : Nat) = 2 ^ k * 2 ^ (32 - k) := by rw [← Nat.pow_add, show k + (32 - k) = 32 from by omega]
  have h1 : x / 2 ^ k < 2 ^ (32 - k) := by rw [Nat.div_lt_iff_lt_mul (Nat.two_pow_pos k), Nat.mul_comm, ← h]; exact hx
  have h2 : q * 2 ^ (32 - k) < 2 ^ k * 2 ^ (32 - k) := by rw [← h, ← hq]; exact Nat.mod_lt _ (by omega)
  have h3 : q < 2 ^ k := Nat.lt_of_mul_lt_mul_right h2
  have h4 : (q + 1) * 2 ^ (32 - k) ≤ 2 ^ k * 2 ^ (32 - k) := Nat.mul_le_mul_right _ h3
  rw [← h, Nat.add_mul, Nat.one_mul] at h4
  rw [hq]
  exact ⟨by omega, or_shift h1⟩
theorem rshTo_lim {cs : List Nat} {n k : Nat} (lc : Lim 4294967296 cs) (hk : k ≤ 32) (i : Nat) : Lim 4294967296 (rshTo cs n k i) := by
  induction i with
  | zero => exact lc
  | succ i ih =>
    refine ih.set ?_
    have h1 := getD_lim ih (by omega) i
    split
    · exact (rsh_sum h1 hk).1
    · exact Nat.lt_of_le_of_lt (Nat.div_le_self _ _) h1
theorem rshTo_sum {cs : List Nat} {n k i : Nat} (hk : k ≤ 32) (hi : i ≤ n) (hn : n ≤ cs.length) (hp : 0 < n) :
    2 ^ k * val ((rshTo cs n k i).take i) + cs.getD 0 0 % 2 ^ k = val (cs.take i) + (if i < n then 4294967296 ^ i * (cs.getD i 0 % 2 ^ k) else 0) := by
  induction i with
  | zero => simp [val, hp]
  | succ i ih =>
    have ih := ih (by omega)
    rw [if_pos (by omega)] at ih
    have hlen := rshTo_length cs n k i
    have e1 : (rshTo cs n k i).getD i 0 = cs.getD i 0 := by rw [List.getD_eq_getElem?_getD, List.getD_eq_getElem?_getD, rshTo_get (Nat.le_refl _)]
    have e2 : (rshTo cs n k i).getD (i + 1) 0 = cs.getD (i + 1) 0 := by rw [List.getD_eq_getElem?_getD, List.getD_eq_getElem?_getD, rshTo_get (by omega)]
    have e3 : (rshTo cs n k (i + 1)).take i = (rshTo cs n k i).take i := take_ext fun j hj => by rw [rshTo, List.getElem?_set_ne (by omega)]
    have e4 : (rshTo cs n k (i + 1)).getD i 0 = cs.getD i 0 / 2 ^ k + (if i + 1 < n then cs.getD (i + 1) 0 * 2 ^ (32 - k) % 4294967296 else 0) := by
      rw [List.getD_eq_getElem?_getD, rshTo, List.getElem?_set_self (by omega), Option.getD_some, e1, e2]
    rw [val_take_succ e4, e3, val_take_succ (xs := cs) (k := i) rfl]
    generalize cs.getD i 0 = x at *
    generalize cs.getD (i + 1) 0 = y at *
    generalize val ((rshTo cs n k i).take i) = a at *
    generalize cs.getD 0 0 % 2 ^ k = b at *
    have h5 := Nat.div_add_mod x (2 ^ k)
    have h6 := low_bits y k hk
    split
    · rename_i hlt
      rw [Nat.mul_add, Nat.mul_left_comm, Nat.mul_add (2 ^ k), h6]
      rw [Nat.pow_succ, Nat.mul_assoc]
      have h7 : 4294967296 ^ i * (2 ^ k * (x / 2 ^ k) + 4294967296 * (y % 2 ^ k)) + 4294967296 ^ i * (x % 2 ^ k) = 4294967296 ^ i * x + 4294967296 ^ i * (4294967296 * (y % 2 ^ k)) := by
        rw [← Nat.mul_add, ← Nat.mul_add]
        congr 1
        omega
      omega
    · rename_i hlt
      rw [Nat.mul_add, Nat.mul_left_comm, Nat.add_zero]
      have h7 : 4294967296 ^ i * (2 ^ k * (x / 2 ^ k)) + 4294967296 ^ i * (x % 2 ^ k) = 4294967296 ^ i * x := by
        rw [← Nat.mul_add]
        congr 1
      omega
theorem rshTo_val {cs : List Nat} {n k : Nat} (hk : k ≤ 32) (hn : n ≤ cs.length) (hp : 0 < n) : val ((rshTo cs n k n).take n) = val (cs.take n) / 2 ^ k := by
  have h := rshTo_sum (i := n) hk (Nat.le_refl _) hn hp
  rw [if_neg (by omega), Nat.add_zero] at h
  have h1 : cs.getD 0 0 % 2 ^ k < 2 ^ k := Nat.mod_lt _ (Nat.two_pow_pos k)
  rw [← h, Nat.add_comm, Nat.add_mul_div_left _ _ (Nat.two_pow_pos k), Nat.div_eq_of_lt h1]
  omega

/-- The divisor shifted till its highest bit is set. -/
theorem norm_divisor {ys : List Nat} {y1 : Nat} (ly : Lim 4294967296 ys) (hy : ys[ys.length - 1]? = some y1) (h0 : y1 ≠ 0) :
    32 - nbits y1 < 32 ∧ val ys * 2 ^ (32 - nbits y1) < 4294967296 ^ ys.length ∧ (limbs (val ys * 2 ^ (32 - nbits y1))).length = ys.length ∧ 4294967296 ^ (ys.length - 1) * 2147483648 ≤ val ys * 2 ^ (32 - nbits y1) := by
  have hn := (List.getElem?_eq_some_iff.1 hy).1
  have h1 := nbits_val ly hy h0
  have h2 := nbits_pos h0
  have h3 : nbits y1 ≤ 32 := (nbits_le_iff y1 32).2 (ly.get hy)
  have hv : val ys ≠ 0 := val_pos_of_last (by rw [List.getLast?_eq_getElem?]; exact hy) h0
  have h4 : nbits (val ys * 2 ^ (32 - nbits y1)) = 32 * ys.length := by
    have := nbits_mul_add (m := 32 - nbits y1) (x := val ys) (low := 0) hv (Nat.two_pow_pos _)
    rw [Nat.zero_add, Nat.mul_comm] at this
    omega
  have h5 : val ys * 2 ^ (32 - nbits y1) < 4294967296 ^ ys.length := by
    rw [pow_limb]
    exact (nbits_le_iff _ _).1 (by omega)
  have h6 : 4294967296 ^ (ys.length - 1) * 2147483648 ≤ val ys * 2 ^ (32 - nbits y1) := by
    have hne : val ys * 2 ^ (32 - nbits y1) ≠ 0 := Nat.mul_ne_zero hv (Nat.ne_of_gt (Nat.two_pow_pos _))
    have := (nbits_spec hne).1
    rw [h4] at this
    rw [pow_limb, show (2147483648 : Nat) = 2 ^ 31 from by decide, ← Nat.pow_add]
    rw [show 32 * (ys.length - 1) + 31 = 32 * ys.length - 1 from by omega]
    exact this
  refine ⟨by omega, h5, ?_, h6⟩
  have h7 := limbs_length_le h5
  rcases Nat.lt_or_ge (limbs (val ys * 2 ^ (32 - nbits y1))).length ys.length with h8 | h8
  · have h9 := lt_of_limbs_length (n := val ys * 2 ^ (32 - nbits y1)) (k := ys.length - 1) (by omega)
    have h10 : 4294967296 ^ (ys.length - 1) * 1 ≤ 4294967296 ^ (ys.length - 1) * 2147483648 := Nat.mul_le_mul_left _ (by omega)
    omega
  · omega
/-- Ahead of the first digit. -/
theorem div_begin {xs ys : List Nat} {us : List Nat} {k V : Nat} (lx : Lim 4294967296 xs) (hu : val us = val xs * 2 ^ k) (hk : k ≤ 31) (hle : ys.length ≤ xs.length) (hy : 0 < ys.length) (hul : us.length = xs.length + 1) (hlu : Lim 4294967296 us)
    (hV : 4294967296 ^ (ys.length - 1) * 2147483648 ≤ V) : val (us.drop (xs.length - ys.length + 1)) < V := by
  have h1 := val_split us (xs.length - ys.length + 1) (by omega)
  have h2 := val_lt lx
  have h3 : (2 : Nat) ^ k ≤ 2147483648 := by
    have : (2 : Nat) ^ k ≤ 2 ^ 31 := Nat.pow_le_pow_right (by omega) hk
    simpa using this
  have h4 : val us < 4294967296 ^ xs.length * 2147483648 := by
    rw [hu]
    exact Nat.lt_of_lt_of_le (Nat.mul_lt_mul_of_pos_right h2 (Nat.two_pow_pos k)) (Nat.mul_le_mul_left _ h3)
  have h5 : (4294967296 : Nat) ^ xs.length = 4294967296 ^ (xs.length - ys.length + 1) * 4294967296 ^ (ys.length - 1) := by
    rw [← Nat.pow_add]
    congr 1
    omega
  rw [h5, Nat.mul_assoc] at h4
  have h6 : 4294967296 ^ (xs.length - ys.length + 1) * val (us.drop (xs.length - ys.length + 1)) < 4294967296 ^ (xs.length - ys.length + 1) * (4294967296 ^ (ys.length - 1) * 2147483648) := by omega
  exact Nat.lt_of_lt_of_le (Nat.lt_of_mul_lt_mul_left h6) hV
end Go.Proofs.Ytfclpieijbgodaa
