/-
  Plain numbers: what is the same modulo a number; the negative inverse modulo 2^32; Montgomery's product. No program is walked here.
-/
import Derived.Test.YtfclpieijbgodaaNum7
namespace Go.Proofs.Ytfclpieijbgodaa
set_option linter.unusedVariables false
set_option linter.unusedSimpArgs false

/-- The same modulo M. -/
def Cg (M a b : Nat) : Prop := a % M = b % M
section
variable {M a b c d : Nat}
theorem Cg.refl (M a : Nat) : Cg M a a := rfl
theorem Cg.symm (h : Cg M a b) : Cg M b a := Eq.symm h
theorem Cg.trans (h : Cg M a b) (k : Cg M b c) : Cg M a c := Eq.trans h k
theorem Cg.mul (h : Cg M a b) (k : Cg M c d) : Cg M (a * c) (b * d) := by
  unfold Cg at *
  rw [Nat.mul_mod, h, k, ← Nat.mul_mod]
theorem Cg.add (h : Cg M a b) (k : Cg M c d) : Cg M (a + c) (b + d) := by
  unfold Cg at *
  rw [Nat.add_mod, h, k, ← Nat.add_mod]
theorem Cg.pow (h : Cg M a b) (n : Nat) : Cg M (a ^ n) (b ^ n) := by
  unfold Cg at *
  rw [Nat.pow_mod, h, ← Nat.pow_mod]
theorem Cg.mod (M a : Nat) : Cg M (a % M) a := Nat.mod_mod _ _
theorem Cg.eq (h : Cg M a b) (ha : a < M) (hb : b < M) : a = b := by
  unfold Cg at h
  rwa [Nat.mod_eq_of_lt ha, Nat.mod_eq_of_lt hb] at h
theorem Cg.of_add (q : Nat) : Cg M (a + q * M) a := by
  unfold Cg
  rw [Nat.add_mul_mod_self_right]
theorem Cg.cancel {R : Nat} (hc : R.Coprime M) (h : Cg M (a * R) (b * R)) : Cg M a b := by
  have key : ∀ {a b : Nat}, a ≤ b → Cg M (a * R) (b * R) → Cg M a b := by
    intro a b hab h
    have h1 : (b * R - a * R) % M = 0 := Nat.sub_mod_eq_zero_of_mod_eq h.symm
    rw [← Nat.sub_mul] at h1
    obtain ⟨q, hq⟩ := hc.symm.dvd_of_dvd_mul_right (Nat.dvd_of_mod_eq_zero h1)
    have h2 : b = a + q * M := by rw [Nat.mul_comm q M, ← hq]; omega
    rw [h2]
    exact (Cg.of_add q).symm
  rcases Nat.le_total a b with hab | hab
  · exact key hab h
  · exact (key hab h.symm).symm
end

/-! ### The inverse -/
def invStep (m0 v : Nat) : Nat := v * ((2 + (4294967296 - m0 * v % 4294967296)) % 4294967296) % 4294967296
def invTo (m0 : Nat) : Nat → Nat
  | 0 => 1
  | n + 1 => invStep m0 (invTo m0 n)
theorem invTo_lt (m0 n : Nat) : invTo m0 n < 4294967296 := by
  cases n with
  | zero => simp [invTo]
  | succ n => exact Nat.mod_lt _ (by omega)
theorem int_mod_form (x : Nat) : ∃ q : Int, ((x % 4294967296 : Nat) : Int) = (x : Int) - 4294967296 * q := ⟨(x : Int) / 4294967296, by omega⟩
theorem invStep_ok {m0 v k : Nat} (hk : 2 * k ≤ 32) (h : ((2 ^ k : Nat) : Int) ∣ (m0 : Int) * v - 1) : ((2 ^ (2 * k) : Nat) : Int) ∣ (m0 : Int) * (invStep m0 v : Nat) - 1 := by
  obtain ⟨e, he⟩ := h
  obtain ⟨q1, h1⟩ := int_mod_form (m0 * v)
  have hlt : m0 * v % 4294967296 < 4294967296 := Nat.mod_lt _ (by omega)
  obtain ⟨q2, h2⟩ := int_mod_form (2 + (4294967296 - m0 * v % 4294967296))
  obtain ⟨q3, h3⟩ := int_mod_form (v * ((2 + (4294967296 - m0 * v % 4294967296)) % 4294967296))
  have h4 : ((2 + (4294967296 - m0 * v % 4294967296) : Nat) : Int) = 2 + (4294967296 - ((m0 * v % 4294967296 : Nat) : Int)) := by omega
  rw [h4, h1] at h2
  have h5 : ((v * ((2 + (4294967296 - m0 * v % 4294967296)) % 4294967296) : Nat) : Int) = (v : Int) * ((2 + (4294967296 - m0 * v % 4294967296)) % 4294967296 : Nat) := Int.natCast_mul _ _
  rw [h5, h2] at h3
  have h6 : ((m0 * v : Nat) : Int) = (m0 : Int) * v := Int.natCast_mul _ _
  rw [h6] at h3
  have h7 : (m0 : Int) * v = 1 + ((2 ^ k : Nat) : Int) * e := by omega
  have hB : ∃ c : Int, (4294967296 : Int) = ((2 ^ (2 * k) : Nat) : Int) * c := by
    refine ⟨((2 ^ (32 - 2 * k) : Nat) : Int), ?_⟩
    rw [← Int.natCast_mul, ← Nat.pow_add, show 2 * k + (32 - 2 * k) = 32 by omega]
    rfl
  obtain ⟨c, hc⟩ := hB
  have hpp : ((2 ^ (2 * k) : Nat) : Int) = ((2 ^ k : Nat) : Int) * ((2 ^ k : Nat) : Int) := by rw [← Int.natCast_mul, ← Nat.pow_add, show 2 * k = k + k by omega]
  unfold invStep
  rw [h3]
  generalize ((2 ^ k : Nat) : Int) = p at *
  generalize ((2 ^ (2 * k) : Nat) : Int) = P at *
  generalize (m0 : Int) = m at *
  generalize (v : Int) = u at *
  refine ⟨c * (m * u * (1 + q1 - q2) - m * q3) - e * e, ?_⟩
  have e1 : m * (u * (2 + (4294967296 - (m * u - 4294967296 * q1)) - 4294967296 * q2) - 4294967296 * q3) - 1 = m * u * (2 - m * u) - 1 + 4294967296 * (m * u * (1 + q1 - q2) - m * q3) := by grind
  rw [e1, h7, hc]
  grind
theorem invTo_ok {m0 : Nat} (ho : m0 % 2 = 1) : 4294967296 ∣ m0 * ((4294967296 - invTo m0 5) % 4294967296) + 1 := by
  have h0 : ((2 ^ 1 : Nat) : Int) ∣ (m0 : Int) * (invTo m0 0 : Nat) - 1 := ⟨(m0 : Int) / 2, by simp [invTo]; omega⟩
  have h1 : ((2 ^ 2 : Nat) : Int) ∣ (m0 : Int) * (invTo m0 1 : Nat) - 1 := invStep_ok (k := 1) (by omega) h0
  have h2 : ((2 ^ 4 : Nat) : Int) ∣ (m0 : Int) * (invTo m0 2 : Nat) - 1 := invStep_ok (k := 2) (by omega) h1
  have h3 : ((2 ^ 8 : Nat) : Int) ∣ (m0 : Int) * (invTo m0 3 : Nat) - 1 := invStep_ok (k := 4) (by omega) h2
  have h4 : ((2 ^ 16 : Nat) : Int) ∣ (m0 : Int) * (invTo m0 4 : Nat) - 1 := invStep_ok (k := 8) (by omega) h3
  have h5 : ((2 ^ 32 : Nat) : Int) ∣ (m0 : Int) * (invTo m0 5 : Nat) - 1 := invStep_ok (k := 16) (by omega) h4
  have hlt := invTo_lt m0 5
  generalize invTo m0 5 = v at *
  obtain ⟨e, he⟩ := h5
  obtain ⟨q, hq⟩ := int_mod_form (4294967296 - v)
  have hv : ((4294967296 - v : Nat) : Int) = 4294967296 - (v : Int) := by omega
  rw [hv] at hq
  have hfin : (4294967296 : Int) ∣ ((m0 * ((4294967296 - v) % 4294967296) + 1 : Nat) : Int) := by
    rw [Int.natCast_add, Int.natCast_mul, hq]
    refine ⟨m0 * (1 - q) - e, ?_⟩
    have hp : ((2 ^ 32 : Nat) : Int) = 4294967296 := rfl
    rw [hp] at he
    grind
  exact Int.natCast_dvd_natCast.1 hfin

/-! ### Montgomery's product -/
def redU (ninv S : Nat) : Nat := S % 4294967296 * ninv % 4294967296
def redStep (M ninv Y T a : Nat) : Nat := (T + a * Y + redU ninv (T + a * Y) * M) / 4294967296
theorem redU_lt (ninv S : Nat) : redU ninv S < 4294967296 := Nat.mod_lt _ (by omega)
theorem redU_ok {M ninv : Nat} (S : Nat) (h : 4294967296 ∣ M * ninv + 1) : (S + redU ninv S * M) % 4294967296 = 0 := by
  obtain ⟨q, hq⟩ := h
  have e1 : Cg 4294967296 (redU ninv S * M) (S * ninv * M) := ((Cg.mod _ _).trans ((Cg.mod _ S).mul (Cg.refl _ ninv))).mul (Cg.refl _ M)
  have e2 : Cg 4294967296 (S + redU ninv S * M) (S + S * ninv * M) := (Cg.refl _ S).add e1
  have e3 : S + S * ninv * M = 4294967296 * (S * q) := by
    have : S + S * ninv * M = S * (M * ninv + 1) := by rw [Nat.mul_add, Nat.mul_one, Nat.mul_assoc, Nat.mul_comm ninv M]; omega
    rw [this, hq, ← Nat.mul_assoc, Nat.mul_comm S, Nat.mul_assoc]
  rw [e3] at e2
  have e4 : (S + redU ninv S * M) % 4294967296 = 4294967296 * (S * q) % 4294967296 := e2
  rw [e4]
  exact Nat.mul_mod_right _ _
theorem redStep_mul {M ninv : Nat} (Y T a : Nat) (h : 4294967296 ∣ M * ninv + 1) : redStep M ninv Y T a * 4294967296 = T + a * Y + redU ninv (T + a * Y) * M :=
  Nat.div_mul_cancel (Nat.dvd_of_mod_eq_zero (redU_ok _ h))
theorem redStep_lt {M ninv Y T a : Nat} (h : 4294967296 ∣ M * ninv + 1) (hT : T < 2 * M) (hY : Y < M) (ha : a < 4294967296) : redStep M ninv Y T a < 2 * M := by
  have h1 := redStep_mul (M := M) Y T a h
  have h2 : a * Y ≤ 4294967295 * (M - 1) := Nat.mul_le_mul (by omega) (by omega)
  have h3 : redU ninv (T + a * Y) * M ≤ 4294967295 * M := Nat.mul_le_mul_right _ (by have := redU_lt ninv (T + a * Y); omega)
  omega
/-- What has come behind i limbs. -/
def redTo (M ninv Y : Nat) (xs : List Nat) : Nat → Nat
  | 0 => 0
  | i + 1 => redStep M ninv Y (redTo M ninv Y xs i) (xs.getD i 0)
theorem redTo_lt {M ninv Y : Nat} {xs : List Nat} (h : 4294967296 ∣ M * ninv + 1) (hY : Y < M) (lx : Lim 4294967296 xs) (i : Nat) : redTo M ninv Y xs i < 2 * M := by
  induction i with
  | zero => simp [redTo]; omega
  | succ i ih => exact redStep_lt h ih hY (getD_lim lx (by omega) i)
theorem redTo_mul {M ninv Y : Nat} {xs : List Nat} (h : 4294967296 ∣ M * ninv + 1) (i : Nat) : Cg M (redTo M ninv Y xs i * 4294967296 ^ i) (val (xs.take i) * Y) := by
  induction i with
  | zero => simp [redTo, val]; exact Cg.refl _ _
  | succ i ih =>
    rw [redTo, Nat.pow_succ, Nat.mul_comm (4294967296 ^ i), ← Nat.mul_assoc, redStep_mul _ _ _ h, val_take_succ rfl, Nat.add_mul, Nat.add_mul, Nat.add_mul]
    have e1 : Cg M (redU ninv (redTo M ninv Y xs i + xs.getD i 0 * Y) * M * 4294967296 ^ i) 0 := by
      show _ % M = 0 % M
      rw [Nat.mul_right_comm, Nat.mul_mod_left, Nat.zero_mod]
    have e2 := (ih.add (Cg.refl M (xs.getD i 0 * Y * 4294967296 ^ i))).add e1
    refine e2.trans ?_
    rw [Nat.add_zero, Nat.mul_right_comm, Nat.mul_comm (xs.getD i 0)]
    exact Cg.refl _ _
/-- The whole of it: below M. -/
def mred (M ninv Y : Nat) (xs : List Nat) : Nat := if M ≤ redTo M ninv Y xs xs.length then redTo M ninv Y xs xs.length - M else redTo M ninv Y xs xs.length
theorem mred_lt {M ninv Y : Nat} {xs : List Nat} (h : 4294967296 ∣ M * ninv + 1) (hY : Y < M) (lx : Lim 4294967296 xs) : mred M ninv Y xs < M := by
  have := redTo_lt h hY lx xs.length
  unfold mred
  split <;> omega
theorem mred_mul {M ninv Y : Nat} {xs : List Nat} (h : 4294967296 ∣ M * ninv + 1) : Cg M (mred M ninv Y xs * 4294967296 ^ xs.length) (val xs * Y) := by
  have h1 := redTo_mul (Y := Y) (xs := xs) h xs.length
  rw [List.take_of_length_le (Nat.le_refl _)] at h1
  unfold mred
  split
  · rename_i hle
    refine Cg.trans ?_ h1
    have e : redTo M ninv Y xs xs.length * 4294967296 ^ xs.length = (redTo M ninv Y xs xs.length - M) * 4294967296 ^ xs.length + 4294967296 ^ xs.length * M := by
      rw [Nat.mul_comm _ M, ← Nat.add_mul]
      congr 1
      omega
    rw [e]
    exact (Cg.of_add _).symm
  · exact h1
theorem odd_coprime {M : Nat} (h : M % 2 = 1) (n : Nat) : (4294967296 ^ n).Coprime M := by
  have h2 : (2 : Nat).Coprime M := by
    unfold Nat.Coprime
    rw [Nat.gcd_rec, h]
    rfl
  rw [pow_limb]
  exact h2.pow_left _
/-- r stands for z: it is z times R modulo M. -/
def Rep (M R r z : Nat) : Prop := r < M ∧ Cg M r (z * R)
theorem Rep.mul {M R a b z y v : Nat} (hc : R.Coprime M) (ha : Rep M R a z) (hb : Rep M R b y) (hv : v < M) (h : Cg M (v * R) (a * b)) : Rep M R v (z * y) := by
  refine ⟨hv, Cg.cancel hc ?_⟩
  refine (h.trans (ha.2.mul hb.2)).trans ?_
  have : z * R * (y * R) = z * y * R * R := by grind
  rw [this]
  exact Cg.refl _ _
theorem Rep.out {M R a z v : Nat} (hc : R.Coprime M) (ha : Rep M R a z) (hv : v < M) (h : Cg M (v * R) (a * 1)) : v = z % M := by
  have h1 : Cg M v z := Cg.cancel hc (by rw [Nat.mul_one] at h; exact h.trans ha.2)
  have h2 : 0 < M := by omega
  exact (h1.trans (Cg.mod M z).symm).eq hv (Nat.mod_lt _ h2)
theorem Rep.into {M R S a z v : Nat} (hc : R.Coprime M) (hS : Cg M S (R * R)) (ha : Cg M a z) (hv : v < M) (h : Cg M (v * R) (a * S)) : Rep M R v z := by
  refine ⟨hv, Cg.cancel hc ?_⟩
  refine (h.trans (ha.mul hS)).trans ?_
  rw [← Nat.mul_assoc]
  exact Cg.refl _ _
end Go.Proofs.Ytfclpieijbgodaa
