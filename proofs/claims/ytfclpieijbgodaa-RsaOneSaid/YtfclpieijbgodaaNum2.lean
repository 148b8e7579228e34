/-
  Plain numbers and bytes: what bytes tell, the bytes of a number, how many bits it has; and that the loops of Of and Octets come to that. No program in sight.
-/
import Derived.Test.YtfclpieijbgodaaNumT
import Derived.Lib.BitFns
namespace Go.Proofs.Ytfclpieijbgodaa
set_option linter.unusedVariables false
set_option linter.unusedSimpArgs false

/-- The number that bytes tell, the highest first. -/
def valB : List Nat → Nat
  | [] => 0
  | b :: bs => b * 256 ^ bs.length + valB bs
/-- The bytes, so many, that tell a number. -/
def octs (n v : Nat) : List Nat := (List.range n).map fun j => v / 256 ^ (n - 1 - j) % 256
/-- How many bits a number has. -/
def nbits (n : Nat) : Nat := if n = 0 then 0 else Nat.log2 n + 1

theorem pow_256 (k : Nat) : (256 : Nat) ^ k = 2 ^ (8 * k) := by rw [Nat.pow_mul]
theorem pow_limb (k : Nat) : (4294967296 : Nat) ^ k = 2 ^ (32 * k) := by rw [Nat.pow_mul]
theorem pow_limb_256 (k : Nat) : (4294967296 : Nat) ^ k = 256 ^ (4 * k) := by rw [pow_limb, pow_256]; congr 1; omega

theorem nbits_zero : nbits 0 = 0 := rfl
theorem nbits_eq {n k : Nat} (h1 : 2 ^ k ≤ n) (h2 : n < 2 ^ (k + 1)) : nbits n = k + 1 := by
  have h0 : n ≠ 0 := by have := Nat.two_pow_pos k; omega
  unfold nbits
  rw [if_neg h0, (Nat.log2_eq_iff h0).2 ⟨h1, h2⟩]
theorem nbits_spec {n : Nat} (h : n ≠ 0) : 2 ^ (nbits n - 1) ≤ n ∧ n < 2 ^ nbits n := by
  unfold nbits
  rw [if_neg h]
  exact ⟨Nat.log2_self_le h, Nat.lt_log2_self⟩
theorem nbits_pos {n : Nat} (h : n ≠ 0) : 0 < nbits n := by unfold nbits; rw [if_neg h]; omega
theorem lt_nbits (n : Nat) : n < 2 ^ nbits n := by
  by_cases h : n = 0
  · subst h; simp [nbits]
  · exact (nbits_spec h).2
theorem nbits_le_iff (n k : Nat) : nbits n ≤ k ↔ n < 2 ^ k := by
  constructor
  · intro h
    exact Nat.lt_of_lt_of_le (lt_nbits n) (Nat.pow_le_pow_right (by omega) h)
  · intro h
    by_cases h0 : n = 0
    · subst h0; simp [nbits]
    · have := (nbits_spec h0).1
      rcases Nat.lt_or_ge k (nbits n) with h1 | h1
      · have h2 : 2 ^ k ≤ 2 ^ (nbits n - 1) := Nat.pow_le_pow_right (by omega) (by omega)
        omega
      · exact h1
theorem nbits_mono {a b : Nat} (h : a ≤ b) : nbits a ≤ nbits b := (nbits_le_iff _ _).2 (Nat.lt_of_le_of_lt h (lt_nbits b))
theorem nbits_half {n : Nat} (h : n ≠ 0) : nbits n = nbits (n / 2) + 1 := by
  have h1 := nbits_spec h
  have h2 := nbits_pos h
  obtain ⟨k, hk⟩ : ∃ k, nbits n = k + 1 := ⟨nbits n - 1, by omega⟩
  rw [hk] at h1 ⊢
  congr 1
  rcases Nat.eq_zero_or_pos k with rfl | hp
  · have : n = 1 := by simp at h1; omega
    subst this; rfl
  · obtain ⟨j, rfl⟩ : ∃ j, k = j + 1 := ⟨k - 1, by omega⟩
    refine (nbits_eq ?_ ?_).symm
    · have := h1.1
      simp only [Nat.add_sub_cancel, Nat.pow_succ] at this
      omega
    · have := h1.2
      rw [Nat.pow_succ] at this ⊢
      omega
theorem bitLen_nbits (n : Nat) (h : n < 2 ^ 64) : Lib.bitLen n = nbits n := by
  induction n using Nat.strongRecOn with
  | ind n ih =>
    by_cases h0 : n = 0
    · subst h0; rfl
    · rw [Lib.bitLen_half n h0 h, nbits_half h0, ih (n / 2) (by omega) (by omega)]
      omega
theorem nbits_mul_add {m x low : Nat} (hx : x ≠ 0) (hl : low < 2 ^ m) : nbits (low + 2 ^ m * x) = m + nbits x := by
  have h1 := nbits_spec hx
  have h2 := nbits_pos hx
  obtain ⟨k, hk⟩ : ∃ k, nbits x = k + 1 := ⟨nbits x - 1, by omega⟩
  rw [hk] at h1 ⊢
  simp only [Nat.add_sub_cancel] at h1
  rw [show m + (k + 1) = (m + k) + 1 from by omega]
  refine nbits_eq ?_ ?_
  · rw [Nat.pow_add]
    exact Nat.le_trans (Nat.mul_le_mul_left _ h1.1) (Nat.le_add_left _ _)
  · have h3 : 2 ^ m * (x + 1) ≤ 2 ^ m * 2 ^ (k + 1) := Nat.mul_le_mul_left _ h1.2
    rw [← Nat.pow_add, ← Nat.add_assoc, Nat.mul_succ] at h3
    omega
theorem nbits_val {xs : List Nat} {x : Nat} (hl : Lim 4294967296 xs) (hx : xs[xs.length - 1]? = some x) (h0 : x ≠ 0) : nbits (val xs) = 32 * (xs.length - 1) + nbits x := by
  have hlt : xs.length - 1 < xs.length := (List.getElem?_eq_some_iff.1 hx).1
  have h1 := val_split xs (xs.length - 1) (by omega)
  rw [val_drop_succ hx] at h1
  have h2 : xs.drop (xs.length - 1 + 1) = [] := List.drop_of_length_le (by omega)
  rw [h2, val] at h1
  simp only [Nat.mul_zero, Nat.add_zero] at h1
  have h3 := val_lt (hl.take (xs.length - 1))
  rw [List.length_take, Nat.min_eq_left (by omega), pow_limb] at h3
  rw [h1, pow_limb]
  exact nbits_mul_add h0 h3

/-- What Of has made behind k bytes, from the last one on. -/
def ofTo (bs : List Nat) (n : Nat) : Nat → List Nat
  | 0 => List.replicate n 0
  | k + 1 => (ofTo bs n k).set (k / 4) ((ofTo bs n k).getD (k / 4) 0 ||| (bs.getD (bs.length - 1 - k) 0 * 2 ^ (8 * (k % 4)) % 4294967296))
theorem ofTo_length (bs : List Nat) (n k : Nat) : (ofTo bs n k).length = n := by
  induction k with
  | zero => simp [ofTo]
  | succ k ih => simp [ofTo, ih]
theorem ofTo_succ {bs : List Nat} {n k x y : Nat} (hx : (ofTo bs n k)[k / 4]? = some x) (hy : bs[bs.length - 1 - k]? = some y) :
    ofTo bs n (k + 1) = (ofTo bs n k).set (k / 4) (x ||| (y * 2 ^ (8 * (k % 4)) % 4294967296)) := by
  rw [ofTo, List.getD_eq_getElem?_getD, List.getD_eq_getElem?_getD, hx, hy]
  rfl
theorem or_shift {x y s : Nat} (hx : x < 2 ^ s) : x ||| y * 2 ^ s = x + y * 2 ^ s := by
  have := Nat.shiftLeft_add_eq_or_of_lt hx y
  rw [Nat.shiftLeft_eq] at this
  rw [Nat.or_comm, ← this]
  omega
theorem shift_small {y k : Nat} (hy : y < 256) : y * 2 ^ (8 * (k % 4)) < 4294967296 := by
  have h1 : k % 4 < 4 := Nat.mod_lt _ (by omega)
  have h2 : 2 ^ (8 * (k % 4)) ≤ 2 ^ 24 := Nat.pow_le_pow_right (by omega) (by omega)
  have h3 : y * 2 ^ (8 * (k % 4)) ≤ 255 * 2 ^ 24 := Nat.mul_le_mul (by omega) h2
  omega
theorem ofTo_ok {bs : List Nat} {n k : Nat} (hb : Lim 256 bs) (hk : k ≤ bs.length) (hn : bs.length ≤ 4 * n) :
    val (ofTo bs n k) = valB (bs.drop (bs.length - k)) ∧ ∀ j x, (ofTo bs n k)[j]? = some x → x < 256 ^ (k - 4 * j) ∧ x < 4294967296 := by
  induction k with
  | zero =>
    refine ⟨by simp [ofTo, val_replicate, valB], fun j x hx => ?_⟩
    rw [ofTo, List.getElem?_replicate] at hx
    split at hx
    · injection hx with hx; subst hx; simp
    · cases hx
  | succ k ih =>
    obtain ⟨ih1, ih2⟩ := ih (by omega)
    obtain ⟨x, hx⟩ := get_of_lt (xs := ofTo bs n k) (i := k / 4) (by rw [ofTo_length]; omega)
    obtain ⟨y, hy⟩ := get_of_lt (xs := bs) (i := bs.length - 1 - k) (by omega)
    have hyb := hb.get hy
    have hxb := (ih2 _ _ hx).1
    rw [show k - 4 * (k / 4) = k % 4 from by omega, pow_256] at hxb
    have hs := shift_small (k := k) hyb
    have hset := ofTo_succ hx hy
    rw [Nat.mod_eq_of_lt hs, or_shift hxb] at hset
    have hpw : 4294967296 ^ (k / 4) * 2 ^ (8 * (k % 4)) = 256 ^ k := by
      rw [pow_limb_256, ← pow_256, ← Nat.pow_add]
      congr 1
      omega
    have hmul : 4294967296 ^ (k / 4) * (y * 2 ^ (8 * (k % 4))) = y * 256 ^ k := by rw [← hpw, Nat.mul_left_comm]
    refine ⟨?_, fun j z hz => ?_⟩
    · rw [hset]
      have h1 := val_set hx (x + y * 2 ^ (8 * (k % 4)))
      rw [Nat.mul_add, hmul, ih1] at h1
      rw [show bs.length - (k + 1) = bs.length - 1 - k from by omega]
      have h2 : bs.drop (bs.length - 1 - k) = y :: bs.drop (bs.length - k) := by
        rw [List.drop_eq_getElem_cons (by omega)]
        rw [List.getElem?_eq_getElem (by omega)] at hy
        injection hy with hy
        rw [hy]
        congr 2
        omega
      rw [h2, valB, List.length_drop, show bs.length - (bs.length - k) = k from by omega]
      omega
    · rw [hset] at hz
      by_cases e : k / 4 = j
      · subst e
        rw [List.getElem?_set_self (by rw [ofTo_length]; omega)] at hz
        injection hz with hz
        subst hz
        have h3 : x + y * 2 ^ (8 * (k % 4)) < 256 ^ (k + 1 - 4 * (k / 4)) := by
          rw [show k + 1 - 4 * (k / 4) = k % 4 + 1 from by omega, Nat.pow_succ, pow_256]
          have h4 : y * 2 ^ (8 * (k % 4)) ≤ 255 * 2 ^ (8 * (k % 4)) := Nat.mul_le_mul_right _ (by omega)
          omega
        refine ⟨h3, Nat.lt_of_lt_of_le h3 ?_⟩
        have : (256 : Nat) ^ (k + 1 - 4 * (k / 4)) ≤ 256 ^ 4 := Nat.pow_le_pow_right (by omega) (by omega)
        omega
      · rw [List.getElem?_set_ne e] at hz
        obtain ⟨h3, h4⟩ := ih2 _ _ hz
        exact ⟨Nat.lt_of_lt_of_le h3 (Nat.pow_le_pow_right (by omega) (by omega)), h4⟩
theorem ofTo_val {bs : List Nat} (hb : Lim 256 bs) : val (ofTo bs ((bs.length + 3) / 4) bs.length) = valB bs := by
  have := (ofTo_ok (n := (bs.length + 3) / 4) hb (Nat.le_refl _) (by omega)).1
  simpa using this
theorem ofTo_lim {bs : List Nat} {n k : Nat} (hb : Lim 256 bs) (hk : k ≤ bs.length) (hn : bs.length ≤ 4 * n) : Lim 4294967296 (ofTo bs n k) := by
  intro x hx
  obtain ⟨j, hj⟩ := List.mem_iff_getElem?.1 hx
  exact ((ofTo_ok hb hk hn).2 j x hj).2

theorem octs_length (n v : Nat) : (octs n v).length = n := by simp [octs]
theorem octs_lim (n v : Nat) : Lim 256 (octs n v) := by
  intro x hx
  simp only [octs, List.mem_map] at hx
  obtain ⟨j, _, rfl⟩ := hx
  exact Nat.mod_lt _ (by omega)
theorem octs_get {n v j : Nat} (h : j < n) : (octs n v)[j]? = some (v / 256 ^ (n - 1 - j) % 256) := by
  simp [octs, List.getElem?_range h]

/-- What Octets has made behind k bytes, from the last one on. -/
def octTo (xs : List Nat) (n : Nat) : Nat → List Nat
  | 0 => List.replicate n 0
  | k + 1 => (octTo xs n k).set (n - 1 - k) (xs.getD (k / 4) 0 / 2 ^ (8 * (k % 4)) % 256)
theorem octTo_length (xs : List Nat) (n k : Nat) : (octTo xs n k).length = n := by
  induction k with
  | zero => simp [octTo]
  | succ k ih => simp [octTo, ih]
theorem octTo_succ {xs : List Nat} {n k x : Nat} (hx : xs[k / 4]? = some x) : octTo xs n (k + 1) = (octTo xs n k).set (n - 1 - k) (x / 2 ^ (8 * (k % 4)) % 256) := by
  rw [octTo, List.getD_eq_getElem?_getD, hx]
  rfl
theorem limb_at {xs : List Nat} {i x : Nat} (hl : Lim 4294967296 xs) (hx : xs[i]? = some x) : val xs / 4294967296 ^ i % 4294967296 = x := by
  have hi : i < xs.length := (List.getElem?_eq_some_iff.1 hx).1
  have h1 := val_split xs i (by omega)
  rw [val_drop_succ hx] at h1
  have h3 := val_lt (hl.take i)
  rw [List.length_take, Nat.min_eq_left (by omega)] at h3
  have hxb := hl.get hx
  rw [h1, Nat.add_mul_div_left _ _ (Nat.pow_pos (by omega)), Nat.div_eq_of_lt h3]
  omega
theorem byte_at {xs : List Nat} {i x : Nat} (hl : Lim 4294967296 xs) (hx : xs[i / 4]? = some x) : x / 2 ^ (8 * (i % 4)) % 256 = val xs / 256 ^ i % 256 := by
  have h1 := limb_at hl hx
  have h2 : (256 : Nat) ^ i = 4294967296 ^ (i / 4) * 2 ^ (8 * (i % 4)) := by
    rw [pow_limb_256, ← pow_256, ← Nat.pow_add]
    congr 1
    omega
  rw [h2, ← Nat.div_div_eq_div_mul]
  generalize val xs / 4294967296 ^ (i / 4) = v at h1 ⊢
  have h3 : i % 4 = 0 ∨ i % 4 = 1 ∨ i % 4 = 2 ∨ i % 4 = 3 := by omega
  rcases h3 with h3 | h3 | h3 | h3 <;> rw [h3] <;> simp <;> omega
theorem octTo_get {xs : List Nat} {n k j : Nat} (hl : Lim 4294967296 xs) (hk : k ≤ 4 * xs.length) (hn : k ≤ n) (hj : j < n) :
    (octTo xs n k)[j]? = some (if n - 1 - j < k then val xs / 256 ^ (n - 1 - j) % 256 else 0) := by
  induction k with
  | zero => simp [octTo, hj]
  | succ k ih =>
    obtain ⟨x, hx⟩ := get_of_lt (xs := xs) (i := k / 4) (by omega)
    rw [octTo_succ hx, byte_at hl hx]
    by_cases e : n - 1 - k = j
    · subst e
      rw [List.getElem?_set_self (by rw [octTo_length]; omega), show n - 1 - (n - 1 - k) = k from by omega, if_pos (by omega)]
    · rw [List.getElem?_set_ne e, ih (by omega) (by omega)]
      by_cases h : n - 1 - j < k
      · rw [if_pos h, if_pos (by omega)]
      · rw [if_neg h, if_neg (by omega)]
theorem octTo_octs {xs : List Nat} {n k : Nat} (hl : Lim 4294967296 xs) (hk : k = min n (4 * xs.length)) : octTo xs n k = octs n (val xs) := by
  apply List.ext_getElem?
  intro j
  rcases Nat.lt_or_ge j n with hj | hj
  · rw [octTo_get hl (by omega) (by omega) hj, octs_get hj]
    split
    · rfl
    · rename_i h
      have h1 := val_lt hl
      rw [pow_limb_256] at h1
      have h2 : (256 : Nat) ^ (4 * xs.length) ≤ 256 ^ (n - 1 - j) := Nat.pow_le_pow_right (by omega) (by omega)
      rw [Nat.div_eq_of_lt (by omega)]
  · rw [List.getElem?_eq_none (by rw [octTo_length]; exact hj), List.getElem?_eq_none (by rw [octs_length]; exact hj)]

theorem valB_lt {bs : List Nat} (hb : Lim 256 bs) : valB bs < 256 ^ bs.length := by
  induction bs with
  | nil => simp [valB]
  | cons b bs ih =>
    have h1 : b < 256 := hb b (by simp)
    have h2 := ih (fun y hy => hb y (by simp [hy]))
    rw [valB, List.length_cons, Nat.pow_succ]
    have h3 : b * 256 ^ bs.length ≤ 255 * 256 ^ bs.length := Nat.mul_le_mul_right _ (by omega)
    omega
theorem valB_append (as bs : List Nat) : valB (as ++ bs) = valB as * 256 ^ bs.length + valB bs := by
  induction as with
  | nil => simp [valB]
  | cons a as ih =>
    simp only [List.cons_append, valB, ih, List.length_append, Nat.pow_add, Nat.add_mul, Nat.mul_assoc]
    omega
theorem octs_succ (n v : Nat) : octs (n + 1) v = octs n (v / 256) ++ [v % 256] := by
  apply List.ext_getElem?
  intro j
  rcases Nat.lt_trichotomy j n with h | h | h
  · rw [octs_get (by omega), List.getElem?_append_left (by rw [octs_length]; exact h), octs_get h, Nat.div_div_eq_div_mul, ← Nat.pow_add_one']
    congr 4
    omega
  · subst h
    rw [octs_get (by omega), List.getElem?_append_right (by rw [octs_length]; exact Nat.le_refl _), octs_length]
    simp
  · rw [List.getElem?_eq_none (by rw [octs_length]; omega), List.getElem?_eq_none (by rw [List.length_append, octs_length]; simp; omega)]
theorem valB_octs (n v : Nat) : valB (octs n v) = v % 256 ^ n := by
  induction n generalizing v with
  | zero => simp [octs, valB, Nat.mod_one]
  | succ n ih =>
    rw [octs_succ, valB_append, ih]
    have h1 : (256 : Nat) ^ (n + 1) = 256 * 256 ^ n := by rw [Nat.pow_succ, Nat.mul_comm]
    rw [h1, Nat.mod_mul]
    simp [valB]
    omega
/-- The bytes of what bytes tell: as many noughts ahead as there are more. -/
theorem octs_valB {bs : List Nat} (hb : Lim 256 bs) (far : Nat) : octs (bs.length + far) (valB bs) = List.replicate far 0 ++ bs := by
  apply List.ext_getElem?
  intro j
  rcases Nat.lt_or_ge j (bs.length + far) with hj | hj
  · rw [octs_get hj]
    rcases Nat.lt_or_ge j far with h | h
    · rw [List.getElem?_append_left (by simpa using h), List.getElem?_replicate, if_pos h]
      have h1 := valB_lt hb
      have h2 : (256 : Nat) ^ bs.length ≤ 256 ^ (bs.length + far - 1 - j) := Nat.pow_le_pow_right (by omega) (by omega)
      rw [Nat.div_eq_of_lt (by omega)]
    · rw [List.getElem?_append_right (by simpa using h), List.length_replicate]
      obtain ⟨y, hy⟩ := get_of_lt (xs := bs) (i := j - far) (by omega)
      rw [hy]
      congr 1
      have hyb := hb.get hy
      have hs : bs = bs.take (j - far) ++ (y :: bs.drop (j - far + 1)) := by
        rw [List.getElem?_eq_getElem (by omega)] at hy
        injection hy with hy
        rw [← hy, ← List.drop_eq_getElem_cons (by omega), List.take_append_drop]
      have hd : Lim 256 (bs.drop (j - far + 1)) := hb.drop _
      have hdl := valB_lt hd
      rw [List.length_drop] at hdl
      have e1 : valB bs = (valB (bs.take (j - far)) * 256 + y) * 256 ^ (bs.length - (j - far + 1)) + valB (bs.drop (j - far + 1)) := by
        conv => lhs; rw [hs]
        rw [valB_append, valB, List.length_cons, List.length_drop, Nat.pow_succ, Nat.add_mul, Nat.mul_assoc, Nat.mul_comm 256]
        omega
      rw [e1, show bs.length + far - 1 - j = bs.length - (j - far + 1) from by omega]
      generalize 256 ^ (bs.length - (j - far + 1)) = p at *
      rw [Nat.mul_comm _ p, Nat.mul_add_div (by omega), Nat.div_eq_of_lt hdl]
      omega
  · rw [List.getElem?_eq_none (by rw [octs_length]; exact hj), List.getElem?_eq_none (by simp; omega)]
theorem nbits_bytes (v n : Nat) : nbits v ≤ 8 * n ↔ v < 256 ^ n := by rw [nbits_le_iff, pow_256]

end Go.Proofs.Ytfclpieijbgodaa
