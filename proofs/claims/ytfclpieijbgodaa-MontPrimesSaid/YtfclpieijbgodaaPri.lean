/-
  Plain law: the Mersenne numbers 2^31 - 1, 2^61 - 1, 2^127 - 1, 2^521 - 1 are prime (by the test of Lucas and Lehmer), and Fermat's theorem.
-/
import Derived.Lib.Hide
namespace Go.Proofs.Ytfclpieijbgodaa.Pri
set_option linter.unusedVariables false

def Pr (p : Nat) : Prop := 2 ≤ p ∧ ∀ d, d ∣ p → d = 1 ∨ d = p

/-! ### The powers of 2 + √3 -/
def uv : Nat → Int × Int
  | 0 => (1, 0)
  | n + 1 => (2 * (uv n).1 + 3 * (uv n).2, (uv n).1 + 2 * (uv n).2)
theorem uv_succ (n : Nat) : uv (n + 1) = (2 * (uv n).1 + 3 * (uv n).2, (uv n).1 + 2 * (uv n).2) := rfl
theorem uv_norm (n : Nat) : (uv n).1 * (uv n).1 - 3 * ((uv n).2 * (uv n).2) = 1 := by
  induction n with
  | zero => rfl
  | succ n ih => rw [uv_succ]; grind
theorem uv_add (m n : Nat) : (uv (m + n)).1 = (uv m).1 * (uv n).1 + 3 * ((uv m).2 * (uv n).2) ∧ (uv (m + n)).2 = (uv m).1 * (uv n).2 + (uv m).2 * (uv n).1 := by
  induction n with
  | zero => simp [uv]
  | succ n ih =>
    rw [← Nat.add_assoc, uv_succ, uv_succ, ih.1, ih.2]
    grind
theorem uv_dbl (n : Nat) : (uv (2 * n)).1 = 2 * ((uv n).1 * (uv n).1) - 1 ∧ (uv (2 * n)).2 = 2 * ((uv n).1 * (uv n).2) := by
  have h := uv_add n n
  have k := uv_norm n
  rw [show n + n = 2 * n by omega] at h
  grind
/-- The power is 1 modulo q. -/
def One (q : Int) (n : Nat) : Prop := q ∣ (uv n).1 - 1 ∧ q ∣ (uv n).2
/-- The power is -1 modulo q. -/
def Neg (q : Int) (n : Nat) : Prop := q ∣ (uv n).1 + 1 ∧ q ∣ (uv n).2
theorem one_zero (q : Int) : One q 0 := by simp [One, uv]
theorem one_add {q : Int} {m n : Nat} (h : One q m) (k : One q n) : One q (m + n) := by
  obtain ⟨⟨a, ha⟩, ⟨b, hb⟩⟩ := h
  obtain ⟨⟨c, hc⟩, ⟨d, hd⟩⟩ := k
  obtain ⟨h1, h2⟩ := uv_add m n
  refine ⟨⟨a * (uv n).1 + c + 3 * (b * (uv n).2), ?_⟩, ⟨(uv m).1 * d + b * (uv n).1, ?_⟩⟩
  · rw [h1]; grind
  · rw [h2]; grind
theorem one_mul {q : Int} {m : Nat} (h : One q m) (k : Nat) : One q (m * k) := by
  induction k with
  | zero => exact one_zero q
  | succ k ih => exact one_add ih h
theorem neg_add {q : Int} {m n : Nat} (h : Neg q m) (k : One q n) : Neg q (m + n) := by
  obtain ⟨⟨a, ha⟩, ⟨b, hb⟩⟩ := h
  obtain ⟨⟨c, hc⟩, ⟨d, hd⟩⟩ := k
  obtain ⟨h1, h2⟩ := uv_add m n
  refine ⟨⟨a * (uv n).1 - c + 3 * (b * (uv n).2), ?_⟩, ⟨(uv m).1 * d + b * (uv n).1, ?_⟩⟩
  · rw [h1]; grind
  · rw [h2]; grind
theorem neg_dbl {q : Int} {m : Nat} (h : Neg q m) : One q (2 * m) := by
  obtain ⟨⟨a, ha⟩, ⟨b, hb⟩⟩ := h
  obtain ⟨h1, h2⟩ := uv_dbl m
  refine ⟨⟨2 * (a * ((uv m).1 - 1)), ?_⟩, ⟨2 * ((uv m).1 * b), ?_⟩⟩
  · rw [h1]; grind
  · rw [h2]; grind
theorem one_sub {q : Int} {i d : Nat} (h1 : q ∣ (uv (i + d)).1 - (uv i).1) (h2 : q ∣ (uv (i + d)).2 - (uv i).2) : One q d := by
  obtain ⟨a, ha⟩ := h1
  obtain ⟨b, hb⟩ := h2
  obtain ⟨k1, k2⟩ := uv_add i d
  have hn := uv_norm i
  refine ⟨⟨a * (uv i).1 - 3 * (b * (uv i).2), ?_⟩, ⟨b * (uv i).1 - a * (uv i).2, ?_⟩⟩
  · grind
  · grind
theorem not_both {q : Nat} {n : Nat} (hq : 3 ≤ q) (h : One q n) (k : Neg q n) : False := by
  have h1 : (q : Int) ∣ 2 := by
    have := Int.dvd_sub k.1 h.1
    rwa [show (uv n).1 + 1 - ((uv n).1 - 1) = 2 by omega] at this
  have := Int.le_of_dvd (by omega) h1
  omega
theorem two_part : ∀ d : Nat, 0 < d → ∃ a o, d = 2 ^ a * (2 * o + 1) := by
  intro d
  induction d using Nat.strongRecOn with
  | ind d ih =>
    intro hd
    rcases Nat.mod_two_eq_zero_or_one d with h | h
    · obtain ⟨a, o, ho⟩ := ih (d / 2) (by omega) (by omega)
      exact ⟨a + 1, o, by rw [Nat.pow_succ, Nat.mul_comm (2 ^ a) 2, Nat.mul_assoc, ← ho]; omega⟩
    · exact ⟨0, d / 2, by simp; omega⟩
/-- Distinct exponents below 2^p tell distinct powers. -/
theorem no_one {q p : Nat} (hq : 3 ≤ q) (hp : 1 ≤ p) (h : Neg q (2 ^ (p - 1))) {d : Nat} (hd : 0 < d) (hlt : d < 2 ^ p) (k : One q d) : False := by
  obtain ⟨a, o, rfl⟩ := two_part d hd
  have ha : a < p := by
    rcases Nat.lt_or_ge a p with h | h
    · exact h
    · have h1 := Nat.pow_le_pow_right (n := 2) (by omega) h
      have h2 : 2 ^ a * 1 ≤ 2 ^ a * (2 * o + 1) := Nat.mul_le_mul_left _ (by omega)
      omega
  have h1 := one_mul k (2 ^ (p - 1 - a))
  have h2 : 2 ^ a * (2 * o + 1) * 2 ^ (p - 1 - a) = 2 ^ (p - 1) + 2 * 2 ^ (p - 1) * o := by
    rw [show 2 ^ (p - 1) = 2 ^ a * 2 ^ (p - 1 - a) by rw [← Nat.pow_add]; congr 1; omega]
    grind
  rw [h2] at h1
  exact not_both hq h1 (neg_add h (one_mul (neg_dbl h) o))

/-! ### Pigeons -/
theorem pigeon : ∀ (m n : Nat) (f : Nat → Nat), (∀ i, i < n → f i < m) → (∀ i j, i < j → j < n → f i ≠ f j) → n ≤ m := by
  intro m
  induction m with
  | zero =>
    intro n f h _
    rcases Nat.eq_zero_or_pos n with h0 | h0
    · omega
    · exact absurd (h 0 h0) (by omega)
  | succ m ih =>
    intro n f h1 h2
    rcases Nat.eq_zero_or_pos n with h0 | h0
    · omega
    · have := ih (n - 1) (fun i => if f i = m then f (n - 1) else f i) ?_ ?_
      · omega
      · intro i hi
        have a1 := h1 i (by omega)
        have a2 := h1 (n - 1) (by omega)
        have a3 := h2 i (n - 1) (by omega) (by omega)
        split <;> omega
      · intro i j hij hj
        have a1 := h2 i j hij (by omega)
        have a2 := h2 i (n - 1) (by omega) (by omega)
        have a3 := h2 j (n - 1) (by omega) (by omega)
        split <;> split <;> omega
/-- A divisor whose square is below 2^p does not have such a power. -/
theorem big_div {q p : Nat} (hq : 3 ≤ q) (hp : 1 ≤ p) (h : Neg q (2 ^ (p - 1))) : 2 ^ p ≤ q * q := by
  refine pigeon (q * q) (2 ^ p) (fun n => ((uv n).1 % q).toNat * q + ((uv n).2 % q).toNat) ?_ ?_
  · intro i hi
    have h1 := Int.emod_lt_of_pos (uv i).1 (show (0 : Int) < q by omega)
    have h2 := Int.emod_nonneg (uv i).1 (show (q : Int) ≠ 0 by omega)
    have h3 := Int.emod_lt_of_pos (uv i).2 (show (0 : Int) < q by omega)
    have h4 := Int.emod_nonneg (uv i).2 (show (q : Int) ≠ 0 by omega)
    have h5 : ((uv i).1 % q).toNat * q ≤ (q - 1) * q := Nat.mul_le_mul_right _ (by omega)
    have h6 : (q - 1) * q + q = q * q := by
      rw [Nat.sub_mul]
      have := Nat.mul_le_mul_right q (show 1 ≤ q by omega)
      omega
    omega
  · intro i j hij hj he
    have h1 := Int.emod_lt_of_pos (uv i).1 (show (0 : Int) < q by omega)
    have h2 := Int.emod_nonneg (uv i).1 (show (q : Int) ≠ 0 by omega)
    have h3 := Int.emod_lt_of_pos (uv i).2 (show (0 : Int) < q by omega)
    have h4 := Int.emod_nonneg (uv i).2 (show (q : Int) ≠ 0 by omega)
    have g1 := Int.emod_lt_of_pos (uv j).1 (show (0 : Int) < q by omega)
    have g2 := Int.emod_nonneg (uv j).1 (show (q : Int) ≠ 0 by omega)
    have g3 := Int.emod_lt_of_pos (uv j).2 (show (0 : Int) < q by omega)
    have g4 := Int.emod_nonneg (uv j).2 (show (q : Int) ≠ 0 by omega)
    have e1 := congrArg (· % q) he
    have e2 := congrArg (· / q) he
    simp only [Nat.mul_comm _ q, Nat.mul_add_mod, Nat.mul_add_div (show 0 < q by omega)] at e1 e2
    rw [Nat.mod_eq_of_lt (by omega), Nat.mod_eq_of_lt (by omega)] at e1
    rw [Nat.div_eq_of_lt (by omega), Nat.div_eq_of_lt (by omega)] at e2
    have f1 : (uv j).1 % q = (uv i).1 % q := by omega
    have f2 : (uv j).2 % q = (uv i).2 % q := by omega
    have k : One q (j - i) := by
      refine one_sub (i := i) ?_ ?_
      · rw [show i + (j - i) = j by omega]; exact Int.dvd_of_emod_eq_zero (Int.emod_eq_emod_iff_emod_sub_eq_zero.1 f1)
      · rw [show i + (j - i) = j by omega]; exact Int.dvd_of_emod_eq_zero (Int.emod_eq_emod_iff_emod_sub_eq_zero.1 f2)
    exact no_one hq hp h (by omega) (by omega) k
theorem neg_of {q n : Nat} (h : (q : Int) ∣ 2 * (uv n).1) : Neg q (2 * n) := by
  obtain ⟨a, ha⟩ := h
  obtain ⟨h1, h2⟩ := uv_dbl n
  refine ⟨⟨a * (uv n).1, ?_⟩, ⟨a * (uv n).2, ?_⟩⟩
  · rw [h1]; grind
  · rw [h2]; grind

/-! ### The test -/
def llA (M : Nat) : Nat → Nat → Nat
  | 0, s => s
  | k + 1, s => llA M k ((s * s + (M - 2)) % M)
theorem llA_ok {M : Nat} (hM : 2 ≤ M) (k : Nat) : ∀ (s n : Nat), (M : Int) ∣ s - 2 * (uv n).1 → (M : Int) ∣ (llA M k s : Nat) - 2 * (uv (2 ^ k * n)).1 := by
  induction k with
  | zero => intro s n h; simpa [llA] using h
  | succ k ih =>
    intro s n h
    have h1 : (M : Int) ∣ ((s * s + (M - 2)) % M : Nat) - 2 * (uv (2 * n)).1 := by
      obtain ⟨a, ha⟩ := h
      obtain ⟨h1, _⟩ := uv_dbl n
      have h2 : (((s * s + (M - 2)) % M : Nat) : Int) = (s : Int) * s + (M - 2) - M * (((s : Int) * s + (M - 2)) / M) := by
        rw [← Int.emod_def]
        simp [Int.natCast_emod, Int.ofNat_sub hM]
      rw [h2, h1]
      refine ⟨a * (s + 2 * (uv n).1) + 1 - ((s : Int) * s + (M - 2)) / M, ?_⟩
      grind
    have h2 := ih _ _ h1
    rw [show 2 ^ (k + 1) * n = 2 ^ k * (2 * n) by rw [Nat.pow_succ, Nat.mul_assoc]]
    exact h2
/-- The test of Lucas and Lehmer. -/
theorem prime_of {p : Nat} (hp : 3 ≤ p) (h : llA (2 ^ p - 1) (p - 2) 4 = 0) : Pr (2 ^ p - 1) := by
  have h8 : 2 ^ 3 ≤ 2 ^ p := Nat.pow_le_pow_right (by omega) hp
  have hodd : 2 ^ p % 2 = 0 := by
    rw [show p = (p - 1) + 1 by omega, Nat.pow_succ]
    omega
  have hd : ((2 ^ p - 1 : Nat) : Int) ∣ 2 * (uv (2 ^ (p - 2))).1 := by
    have h1 := llA_ok (M := 2 ^ p - 1) (by omega) (p - 2) 4 1 ⟨0, by simp [uv]⟩
    rw [h, Nat.mul_one] at h1
    have h2 := (Int.dvd_neg).2 h1
    simpa using h2
  have hbig : ∀ q, 2 ≤ q → q ∣ 2 ^ p - 1 → 2 ^ p ≤ q * q := fun q hq hqd => by
    have hq3 : 3 ≤ q := by
      rcases Nat.lt_or_ge q 3 with h | h
      · obtain rfl : q = 2 := by omega
        omega
      · exact h
    refine big_div hq3 (by omega) ?_
    have h1 := neg_of (q := q) (n := 2 ^ (p - 2)) (Int.dvd_trans (Int.natCast_dvd_natCast.2 hqd) hd)
    rwa [show 2 * 2 ^ (p - 2) = 2 ^ (p - 1) by rw [show p - 1 = (p - 2) + 1 by omega, Nat.pow_succ, Nat.mul_comm]] at h1
  refine ⟨by omega, fun d hdv => ?_⟩
  obtain ⟨r, hr⟩ := hdv
  rcases Nat.lt_or_ge d 2 with h1 | h1
  · rcases Nat.eq_zero_or_pos d with h0 | h0
    · subst h0
      simp at hr
      omega
    · exact .inl (by omega)
  · rcases Nat.lt_or_ge r 2 with h2 | h2
    · rcases Nat.eq_zero_or_pos r with h0 | h0
      · subst h0
        simp at hr
        omega
      · obtain rfl : r = 1 := by omega
        exact .inr (by omega)
    · exfalso
      have a1 := hbig d h1 ⟨r, hr⟩
      have a2 := hbig r h2 ⟨d, by rw [hr, Nat.mul_comm]⟩
      rcases Nat.le_total d r with h3 | h3
      · have := Nat.mul_le_mul_left d h3
        omega
      · have := Nat.mul_le_mul_right r h3
        omega
theorem prime31 : Pr (2 ^ 31 - 1) := prime_of (by omega) (by decide +kernel)
theorem prime61 : Pr (2 ^ 61 - 1) := prime_of (by omega) (by decide +kernel)
theorem prime127 : Pr (2 ^ 127 - 1) := prime_of (by omega) (by decide +kernel)
theorem pow_split {e a b c : Nat} (h : e = a + (b + c)) : 2 ^ e = 2 ^ a * (2 ^ b * 2 ^ c) := by
  subst h
  rw [Nat.pow_add, Nat.pow_add]
theorem pow521 : 2 ^ 521 = 2 ^ 200 * (2 ^ 200 * 2 ^ 121) := @pow_split 521 200 200 121 (by omega)
def m521 : Nat := 6864797660130609714981900799081393217269435300143305409394463459185543183397656052122559640661454554977296311391480858037121987999716643812574028291115057151
theorem m521_eq : 2 ^ 521 - 1 = m521 := by rw [pow521]; decide +kernel
theorem prime521 : Pr m521 := m521_eq ▸ prime_of (p := 521) (by omega) (by rw [m521_eq]; decide +kernel)

/-! ### Fermat -/
def ch : Nat → Nat → Nat
  | _, 0 => 1
  | 0, _ + 1 => 0
  | n + 1, k + 1 => ch n k + ch n (k + 1)
theorem ch_zero (n : Nat) : ch n 0 = 1 := by cases n <;> rfl
theorem ch_succ (n k : Nat) : ch (n + 1) (k + 1) = ch n k + ch n (k + 1) := rfl
theorem ch_gt : ∀ (n k : Nat), n < k → ch n k = 0 := by
  intro n
  induction n with
  | zero => intro k h; cases k with
    | zero => omega
    | succ k => rfl
  | succ n ih => intro k h; cases k with
    | zero => omega
    | succ k => rw [ch_succ, ih k (by omega), ih (k + 1) (by omega)]
theorem ch_self (n : Nat) : ch n n = 1 := by
  induction n with
  | zero => rfl
  | succ n ih => rw [ch_succ, ih, ch_gt n (n + 1) (by omega)]
theorem ch_mul : ∀ (n k : Nat), (k + 1) * ch (n + 1) (k + 1) = (n + 1) * ch n k := by
  intro n
  induction n with
  | zero => intro k; cases k with
    | zero => rfl
    | succ k => simp [ch]
  | succ n ih => intro k; cases k with
    | zero =>
      have h := ih 0
      rw [ch_succ, ch_zero]
      rw [ch_zero] at h
      omega
    | succ k =>
      have h1 := ih k
      have h2 := ih (k + 1)
      rw [ch_succ (n + 1) (k + 1), ch_succ n k] at *
      have h3 := ch_succ n (k + 1)
      grind
/-- The binomial sum up to the k-th power. -/
def bs (n x : Nat) : Nat → Nat
  | 0 => 1
  | k + 1 => bs n x k + ch n (k + 1) * x ^ (k + 1)
theorem bs_step (n x k : Nat) : bs (n + 1) x (k + 1) = bs n x (k + 1) + x * bs n x k := by
  induction k with
  | zero =>
    simp only [bs, ch_succ, ch_zero]
    grind
  | succ k ih =>
    rw [bs, ih, ch_succ]
    show _ = bs n x (k + 1) + ch n (k + 1 + 1) * x ^ (k + 1 + 1) + x * (bs n x k + ch n (k + 1) * x ^ (k + 1))
    grind
theorem bs_all (n x : Nat) : (x + 1) ^ n = bs n x n := by
  induction n with
  | zero => rfl
  | succ n ih =>
    rw [bs_step, Nat.pow_succ, ih, bs, ch_gt n (n + 1) (by omega)]
    grind
theorem coprime_of {p k : Nat} (hp : Pr p) (hk : ¬ p ∣ k) : p.Coprime k := by
  rcases hp.2 _ (Nat.gcd_dvd_left p k) with h | h
  · exact h
  · exact absurd (h ▸ Nat.gcd_dvd_right p k) hk
theorem ch_dvd {p k : Nat} (hp : Pr p) (h0 : 0 < k) (hk : k < p) : p ∣ ch p k := by
  have h := ch_mul (p - 1) (k - 1)
  rw [show p - 1 + 1 = p by omega, show k - 1 + 1 = k by omega] at h
  refine (coprime_of hp (fun hd => ?_)).dvd_of_dvd_mul_left ⟨_, h⟩
  have := Nat.le_of_dvd h0 hd
  omega
theorem bs_mod {p : Nat} (hp : Pr p) (x : Nat) : ∀ k, k < p → bs p x k % p = 1 := by
  intro k
  induction k with
  | zero => intro h; exact Nat.mod_eq_of_lt (show 1 < p by have := hp.1; omega)
  | succ k ih =>
    intro h
    obtain ⟨c, hc⟩ := ch_dvd hp (Nat.succ_pos k) h
    rw [bs, hc, Nat.mul_assoc, Nat.add_mul_mod_self_left]
    exact ih (by omega)
theorem fermat_succ {p : Nat} (hp : Pr p) (x : Nat) : (x + 1) ^ p % p = (x ^ p + 1) % p := by
  have h2 := hp.1
  rw [bs_all]
  obtain ⟨k, rfl⟩ : ∃ k, p = k + 1 := ⟨p - 1, by omega⟩
  rw [bs, ch_self, Nat.one_mul, Nat.add_mod, bs_mod hp x k (by omega), Nat.add_mod_mod, Nat.add_comm]
theorem fermat {p : Nat} (hp : Pr p) (x : Nat) : x ^ p % p = x % p := by
  have h2 := hp.1
  induction x with
  | zero => rw [Nat.zero_pow (by omega)]
  | succ x ih => rw [fermat_succ hp, Nat.add_mod, ih, ← Nat.add_mod]
theorem fermat_less {p : Nat} (hp : Pr p) {x : Nat} (h0 : 0 < x) (hx : x < p) : x ^ (p - 1) % p = 1 := by
  have h2 := hp.1
  have h := fermat hp x
  have h1 : 1 ≤ x ^ (p - 1) := Nat.pow_pos h0
  have h3 : p ∣ x * (x ^ (p - 1) - 1) := by
    have : x ^ p = x * x ^ (p - 1) := by rw [Nat.mul_comm, ← Nat.pow_succ, Nat.succ_eq_add_one, show p - 1 + 1 = p by omega]
    rw [Nat.mul_sub, Nat.mul_one, ← this]
    have h5 : x ≤ x ^ p := by rw [this]; exact Nat.le_mul_of_pos_right _ h1
    have h6 := Nat.sub_mod_eq_zero_of_mod_eq h
    exact Nat.dvd_of_mod_eq_zero h6
  have h4 := (coprime_of hp (fun hd => by have := Nat.le_of_dvd h0 hd; omega)).dvd_of_dvd_mul_left h3
  obtain ⟨c, hc⟩ := h4
  rw [show x ^ (p - 1) = 1 + p * c by omega, Nat.add_mul_mod_self_left, Nat.mod_eq_of_lt (by omega)]
end Go.Proofs.Ytfclpieijbgodaa.Pri
