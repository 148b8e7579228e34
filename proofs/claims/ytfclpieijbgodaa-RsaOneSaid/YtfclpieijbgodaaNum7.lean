/-
  What the reference's sum limb by limb, its doubling and its quotient bit by bit come to as numbers. No program is walked here.
-/
import Derived.Test.YtfclpieijbgodaaNum3
import Derived.Test.YtfclpieijbgodaaNum2
namespace Go.Proofs.Ytfclpieijbgodaa
set_option linter.unusedVariables false
set_option linter.unusedSimpArgs false

/-- What the sum has come to behind i limbs, and the carry. -/
def sumTo (xs ys : List Nat) : Nat → List Nat × Nat
  | 0 => ([], 0)
  | i + 1 => ((sumTo xs ys i).1 ++ [(xs.getD i 0 + ys.getD i 0 + (sumTo xs ys i).2) % 4294967296], (xs.getD i 0 + ys.getD i 0 + (sumTo xs ys i).2) / 4294967296)
theorem sumTo_ok {xs ys : List Nat} (lx : Lim 4294967296 xs) (ly : Lim 4294967296 ys) (i : Nat) :
    (sumTo xs ys i).1.length = i ∧ Lim 4294967296 (sumTo xs ys i).1 ∧ (sumTo xs ys i).2 ≤ 1 ∧ val (sumTo xs ys i).1 + 4294967296 ^ i * (sumTo xs ys i).2 = val (xs.take i) + val (ys.take i) := by
  induction i with
  | zero => exact ⟨rfl, Lim.nil _, Nat.zero_le _, by simp [sumTo, val]⟩
  | succ i ih =>
    obtain ⟨o, c, hd⟩ : ∃ o c, sumTo xs ys i = (o, c) := ⟨_, _, rfl⟩
    rw [hd] at ih
    simp only at ih
    obtain ⟨h1, h2, h3, h4⟩ := ih
    have hx := getD_lim lx (by omega) i
    have hy := getD_lim ly (by omega) i
    rw [sumTo, hd, val_take_succ (xs := xs) rfl, val_take_succ (xs := ys) rfl]
    simp only
    generalize xs.getD i 0 = x at *
    generalize ys.getD i 0 = y at *
    refine ⟨by simp [h1], h2.append (fun z hz => by simp at hz; omega), by omega, ?_⟩
    rw [val_append, h1, Nat.pow_succ]
    have h5 : 4294967296 ^ i * ((x + y + c) % 4294967296) + 4294967296 ^ i * 4294967296 * ((x + y + c) / 4294967296) = 4294967296 ^ i * x + 4294967296 ^ i * y + 4294967296 ^ i * c := by
      rw [Nat.mul_assoc, ← Nat.mul_add, Nat.mod_add_div, Nat.mul_add, Nat.mul_add]
    simp only [val, Nat.mul_zero, Nat.add_zero]
    omega
theorem sumTo_succ {xs ys : List Nat} {i c : Nat} {o : List Nat} (h : sumTo xs ys i = (o, c)) :
    sumTo xs ys (i + 1) = (o ++ [(xs.getD i 0 + ys.getD i 0 + c) % 4294967296], (xs.getD i 0 + ys.getD i 0 + c) / 4294967296) := by rw [sumTo, h]
/-- Behind the longer one, and one limb more, nothing is carried. -/
theorem sumTo_done {xs ys : List Nat} (lx : Lim 4294967296 xs) (ly : Lim 4294967296 ys) {m : Nat} (hx : xs.length ≤ m) (hy : ys.length ≤ m) : (sumTo xs ys (m + 1)).2 = 0 := by
  obtain ⟨-, -, -, h⟩ := sumTo_ok lx ly (m + 1)
  rw [List.take_of_length_le (by omega), List.take_of_length_le (by omega)] at h
  have h1 : val xs < 4294967296 ^ m := Nat.lt_of_lt_of_le (val_lt lx) (Nat.pow_le_pow_right (by omega) hx)
  have h2 : val ys < 4294967296 ^ m := Nat.lt_of_lt_of_le (val_lt ly) (Nat.pow_le_pow_right (by omega) hy)
  rcases Nat.eq_zero_or_pos (sumTo xs ys (m + 1)).2 with h0 | h0
  · exact h0
  · have h3 : 4294967296 ^ (m + 1) * 1 ≤ 4294967296 ^ (m + 1) * (sumTo xs ys (m + 1)).2 := Nat.mul_le_mul_left _ h0
    rw [Nat.pow_succ] at h h3
    omega
theorem sumTo_val {xs ys : List Nat} (lx : Lim 4294967296 xs) (ly : Lim 4294967296 ys) {i : Nat} {o : List Nat} (hx : xs.length ≤ i) (hy : ys.length ≤ i) (h : sumTo xs ys i = (o, 0)) : val o = val xs + val ys := by
  obtain ⟨-, -, -, h4⟩ := sumTo_ok lx ly i
  rw [List.take_of_length_le hx, List.take_of_length_le hy, h] at h4
  simpa using h4

/-- A limb of a difference, taken from the row as it was. -/
theorem takeTo_take_succ {cs ys ds : List Nat} {k c x : Nat} (h : takeTo cs 0 ys k = (ds, c)) (hx : cs[k]? = some x) :
    (takeTo cs 0 ys (k + 1)).1.take (k + 1) = ds.take k ++ [diff32 x (ys.getD k 0) c] ∧ (takeTo cs 0 ys (k + 1)).2 = borrow32 x (ys.getD k 0) c := by
  have h0 : ds[k]? = some x := by
    have := takeTo_get (cs := cs) (off := 0) (ys := ys) (k := k) (i := k) (.inr (by omega))
    rw [h] at this
    rw [← hx]
    exact this
  have h1 := takeTo_succ (off := 0) rfl h (by rw [Nat.zero_add]; exact h0)
  rw [h1, Nat.zero_add]
  have hk : k < ds.length := (List.getElem?_eq_some_iff.1 h0).1
  refine ⟨?_, rfl⟩
  rw [List.take_add_one, List.take_set_of_le (Nat.le_refl _), List.getElem?_set_self hk]
  rfl
theorem diff_mod {x y b : Nat} (hx : x < 4294967296) (hy : y < 4294967296) (hb : b ≤ 1) : (x + 4294967296 - y - b) % 4294967296 = diff32 x y b ∧ 1 - (x + 4294967296 - y - b) / 4294967296 = borrow32 x y b := by
  unfold diff32 borrow32
  split <;> omega

/-- What doubling has come to behind k limbs, and the bit that is carried. -/
def dblTo (cs : List Nat) (bit : Nat) : Nat → List Nat × Nat
  | 0 => (cs, bit)
  | k + 1 => ((dblTo cs bit k).1.set k (2 * (dblTo cs bit k).1.getD k 0 % 4294967296 + (dblTo cs bit k).2), (dblTo cs bit k).1.getD k 0 / 2147483648)
theorem dblTo_succ {cs ds : List Nat} {bit k z c : Nat} (h : dblTo cs bit k = (ds, c)) (hz : ds[k]? = some z) : dblTo cs bit (k + 1) = (ds.set k (2 * z % 4294967296 + c), z / 2147483648) := by
  rw [dblTo, h, List.getD_eq_getElem?_getD, hz]
  rfl
theorem dblTo_ok {cs : List Nat} {bit : Nat} (lc : Lim 4294967296 cs) (hb : bit ≤ 1) (k : Nat) (hk : k ≤ cs.length) :
    (dblTo cs bit k).1.length = cs.length ∧ Lim 4294967296 (dblTo cs bit k).1 ∧ (dblTo cs bit k).2 ≤ 1 ∧ (∀ j, k ≤ j → (dblTo cs bit k).1[j]? = cs[j]?) ∧
    val (dblTo cs bit k).1 + 4294967296 ^ k * (dblTo cs bit k).2 = val cs + val (cs.take k) + bit := by
  induction k with
  | zero => exact ⟨rfl, lc, hb, fun _ _ => rfl, by simp [dblTo, val]⟩
  | succ k ih =>
    obtain ⟨ds, c, hd⟩ : ∃ ds c, dblTo cs bit k = (ds, c) := ⟨_, _, rfl⟩
    have ih := ih (by omega)
    rw [hd] at ih
    simp only at ih
    obtain ⟨h1, h2, h3, h4, h5⟩ := ih
    obtain ⟨z, hz⟩ := get_of_lt (xs := ds) (i := k) (by omega)
    have hzb := h2.get hz
    have hcz : cs.getD k 0 = z := by rw [List.getD_eq_getElem?_getD, ← h4 k (Nat.le_refl _), hz]; rfl
    rw [dblTo_succ hd hz, val_take_succ hcz]
    simp only
    refine ⟨by simp [h1], h2.set (by omega), by omega, fun j hj => by rw [List.getElem?_set_ne (by omega)]; exact h4 j (by omega), ?_⟩
    have h6 := val_set hz (2 * z % 4294967296 + c)
    rw [Nat.pow_succ]
    have h7 : 4294967296 ^ k * (2 * z % 4294967296 + c) + 4294967296 ^ k * 4294967296 * (z / 2147483648) = 4294967296 ^ k * c + 4294967296 ^ k * z + 4294967296 ^ k * z := by
      rw [Nat.mul_assoc, ← Nat.mul_add, ← Nat.mul_add, ← Nat.mul_add]
      congr 1
      omega
    omega
theorem dblTo_val {cs ds : List Nat} {bit c : Nat} (lc : Lim 4294967296 cs) (hb : bit ≤ 1) (h : dblTo cs bit cs.length = (ds, c)) (hlt : 2 * val cs + bit < 4294967296 ^ cs.length) : val ds = 2 * val cs + bit := by
  obtain ⟨-, -, -, -, h5⟩ := dblTo_ok lc hb cs.length (Nat.le_refl _)
  rw [h, List.take_of_length_le (Nat.le_refl _)] at h5
  simp only at h5
  rcases Nat.eq_zero_or_pos c with rfl | h0
  · omega
  · have h3 : 4294967296 ^ cs.length * 1 ≤ 4294967296 ^ cs.length * c := Nat.mul_le_mul_left _ h0
    omega

/-- A bit of a number, by its limb. -/
theorem bit_at {xs : List Nat} {i x : Nat} (hl : Lim 4294967296 xs) (hx : xs[i / 32]? = some x) : x / 2 ^ (i % 32) % 2 = val xs / 2 ^ i % 2 := by
  have h1 := limb_at hl hx
  have h2 : 2 ^ i = 4294967296 ^ (i / 32) * 2 ^ (i % 32) := by
    rw [pow_limb, ← Nat.pow_add]
    congr 1
    omega
  rw [h2, ← Nat.div_div_eq_div_mul, ← h1]
  generalize val xs / 4294967296 ^ (i / 32) = q
  have h3 : 4294967296 = 2 ^ (i % 32) * 2 ^ (32 - i % 32) := by rw [← Nat.pow_add, show i % 32 + (32 - i % 32) = 32 by omega]
  rw [h3, Nat.mod_mul_right_div_self]
  obtain ⟨m, hm⟩ : ∃ m, 32 - i % 32 = m + 1 := ⟨31 - i % 32, by omega⟩
  rw [hm, Nat.pow_succ, Nat.mul_comm (2 ^ m) 2, Nat.mod_mul_right_mod]
/-- A bit more of the quotient. -/
theorem set_bit {qs : List Nat} {i z Q : Nat} (hl : Lim 4294967296 qs) (hz : qs[i / 32]? = some z) (hv : val qs = Q * 2 ^ (i + 1)) :
    z + 2 ^ (i % 32) < 4294967296 ∧ (z ||| 2 ^ (i % 32)) = z + 2 ^ (i % 32) ∧ val (qs.set (i / 32) (z + 2 ^ (i % 32))) = val qs + 2 ^ i := by
  have h1 := limb_at hl hz
  have h2 : 2 ^ i = 4294967296 ^ (i / 32) * 2 ^ (i % 32) := by
    rw [pow_limb, ← Nat.pow_add]
    congr 1
    omega
  have h3 : val qs / 4294967296 ^ (i / 32) = Q * 2 ^ (i % 32 + 1) := by
    rw [hv, Nat.pow_succ, h2, Nat.pow_succ, Nat.mul_assoc, show Q * (4294967296 ^ (i / 32) * (2 ^ (i % 32) * 2)) = 4294967296 ^ (i / 32) * (Q * (2 ^ (i % 32) * 2)) by rw [← Nat.mul_assoc, Nat.mul_comm Q, Nat.mul_assoc]]
    exact Nat.mul_div_cancel_left _ (Nat.pow_pos (by omega))
  rw [h3] at h1
  have h4 : 4294967296 = 2 ^ (i % 32 + 1) * 2 ^ (31 - i % 32) := by rw [← Nat.pow_add, show i % 32 + 1 + (31 - i % 32) = 32 by omega]
  have h5 : z = Q % 2 ^ (31 - i % 32) * 2 ^ (i % 32 + 1) := by
    rw [← h1, h4, Nat.mul_comm Q, Nat.mul_mod_mul_left, Nat.mul_comm]
  have h6 : Q % 2 ^ (31 - i % 32) < 2 ^ (31 - i % 32) := Nat.mod_lt _ (Nat.pow_pos (by omega))
  have h7 : (Q % 2 ^ (31 - i % 32) + 1) * 2 ^ (i % 32 + 1) ≤ 4294967296 := by
    rw [h4, Nat.mul_comm (2 ^ (i % 32 + 1))]
    exact Nat.mul_le_mul_right _ h6
  have h8 : 2 ^ (i % 32) < 2 ^ (i % 32 + 1) := Nat.pow_lt_pow_right (by omega) (by omega)
  rw [Nat.add_mul, Nat.one_mul, ← h5] at h7
  have h9 : (2 ^ (i % 32) ||| Q % 2 ^ (31 - i % 32) * 2 ^ (i % 32 + 1)) = 2 ^ (i % 32) + Q % 2 ^ (31 - i % 32) * 2 ^ (i % 32 + 1) := or_shift h8
  rw [← h5] at h9
  refine ⟨by omega, by rw [Nat.or_comm, h9, Nat.add_comm], ?_⟩
  have h10 := val_set hz (z + 2 ^ (i % 32))
  rw [Nat.mul_add, ← h2] at h10
  omega
theorem bit_step (X i : Nat) : X / 2 ^ i = 2 * (X / 2 ^ (i + 1)) + X / 2 ^ i % 2 := by
  rw [Nat.pow_succ, ← Nat.div_div_eq_div_mul]
  omega
theorem div_bit {X Y i R b : Nat} (hY : 0 < Y) (hR : R = X / 2 ^ (i + 1) % Y) (hb : b = X / 2 ^ i % 2) :
    (Y ≤ 2 * R + b → 2 * R + b - Y = X / 2 ^ i % Y ∧ X / 2 ^ i / Y * 2 ^ i = X / 2 ^ (i + 1) / Y * 2 ^ (i + 1) + 2 ^ i) ∧
    (2 * R + b < Y → 2 * R + b = X / 2 ^ i % Y ∧ X / 2 ^ i / Y * 2 ^ i = X / 2 ^ (i + 1) / Y * 2 ^ (i + 1)) := by
  have h0 := bit_step X i
  rw [← hb] at h0
  have h1 := Nat.div_add_mod (X / 2 ^ (i + 1)) Y
  have h2 : R < Y := by rw [hR]; exact Nat.mod_lt _ hY
  rw [← hR] at h1
  generalize X / 2 ^ (i + 1) / Y = q at *
  generalize X / 2 ^ (i + 1) = u at *
  rw [h0]
  have hb1 : b ≤ 1 := by omega
  have h3 : Y * (2 * q) = Y * q + Y * q := by rw [Nat.mul_left_comm]; omega
  constructor
  · intro h
    have e : 2 * u + b = (2 * R + b - Y) + Y * (2 * q + 1) := by rw [Nat.mul_add, h3]; omega
    rw [e, Nat.add_mul_mod_self_left, Nat.add_mul_div_left _ _ hY, Nat.mod_eq_of_lt (by omega), Nat.div_eq_of_lt (by omega), Nat.pow_succ]
    refine ⟨rfl, ?_⟩
    rw [Nat.zero_add, Nat.add_mul, Nat.one_mul, Nat.mul_comm (2 ^ i) 2, ← Nat.mul_assoc, Nat.mul_comm 2 q]
  · intro h
    have e : 2 * u + b = (2 * R + b) + Y * (2 * q) := by rw [h3]; omega
    rw [e, Nat.add_mul_mod_self_left, Nat.add_mul_div_left _ _ hY, Nat.mod_eq_of_lt h, Nat.div_eq_of_lt h, Nat.pow_succ]
    refine ⟨rfl, ?_⟩
    rw [Nat.zero_add, Nat.mul_comm (2 ^ i) 2, ← Nat.mul_assoc, Nat.mul_comm 2 q]
end Go.Proofs.Ytfclpieijbgodaa
