/-
  The key that is made for a digest, as numbers: it may be, and its signature is right for this digest and for no other.
-/
import Derived.Test.YtfclpieijbgodaaRsaH
namespace Go.Proofs.Ytfclpieijbgodaa
set_option linter.unusedVariables false
set_option linter.unusedSimpArgs false
open Go.RowKit

/-- 3 times 2 to the 681, and b more, as 22 limbs. -/
def sRow (b : Nat) : List Nat := b :: (List.replicate 20 0 ++ [1536])
def forB (ds : List Nat) : Nat := if ds[31]?.getD 0 % 2 = 0 then 1 else 0
def forS (ds : List Nat) : Nat := val (sRow (forB ds))
def forE (ds : List Nat) : Nat := valB (encN ds 256)
def forN (ds : List Nat) : Nat := forS ds * forS ds * forS ds - forE ds
def forKey (ds : List Nat) : List Nat := octs 256 (forN ds)
def forSig (ds : List Nat) : List Nat := octs 256 (forS ds)
theorem forB_or (ds : List Nat) : forB ds = 0 ∨ forB ds = 1 := by unfold forB; split <;> simp
theorem sRow_lim {b : Nat} (h : b = 0 ∨ b = 1) : Lim 4294967296 (sRow b) := by
  rcases h with rfl | rfl <;> exact lim_small (by decide)
theorem sRow_right {b : Nat} (h : b = 0 ∨ b = 1) : isRight (sRow b) = true := by
  rcases h with rfl | rfl <;> decide
theorem forS_limbs (ds : List Nat) : limbs (forS ds) = sRow (forB ds) := limbs_val (isRight_canon (sRow_lim (forB_or ds)) (sRow_right (forB_or ds)))
def p254 : Nat := 256 ^ 254
theorem p254_pos : 0 < p254 := by decide +kernel
theorem pow255 : 256 ^ 255 = 256 * p254 := by decide +kernel
theorem pow256' : 256 ^ 256 = 65536 * p254 := by decide +kernel
theorem forS_lo (ds : List Nat) : 32770 * p254 ≤ forS ds * forS ds * forS ds := by
  unfold forS
  rcases forB_or ds with h | h <;> rw [h] <;> decide +kernel
theorem forS_hi (ds : List Nat) : forS ds * forS ds * forS ds + forS ds < 65536 * p254 := by
  unfold forS
  rcases forB_or ds with h | h <;> rw [h] <;> decide +kernel
theorem forS_lt (ds : List Nat) : forS ds < p254 := by
  unfold forS
  rcases forB_or ds with h | h <;> rw [h] <;> decide +kernel
theorem forS_len (ds : List Nat) : (limbs (forS ds * forS ds)).length ≤ 64 ∧ (limbs (forS ds * forS ds * forS ds)).length ≤ 64 := by
  have h := forS_hi ds
  rw [← pow256'] at h
  have h3 : forS ds * forS ds * forS ds < 256 ^ 256 := by omega
  have h2 : forS ds * forS ds ≤ forS ds * forS ds * forS ds := by
    rcases Nat.eq_zero_or_pos (forS ds) with h0 | h0
    · rw [h0]; simp
    · exact Nat.le_mul_of_pos_right _ h0
  exact ⟨limbs_bytes_len (Nat.lt_of_le_of_lt h2 h3) (by omega), limbs_bytes_len h3 (by omega)⟩
theorem forS_odd (ds : List Nat) : forS ds % 2 = forB ds := by
  unfold forS
  rcases forB_or ds with h | h <;> rw [h] <;> decide +kernel
theorem enc_tail_len {ds : List Nat} (k : Nat) (hd : ds.length = 32) : (List.replicate k 255 ++ ([0] ++ (head19 ++ ds))).length = k + 52 := by
  simp [head19, hd]
theorem enc_last {ds : List Nat} (k : Nat) : ([0, 1] ++ (List.replicate k 255 ++ ([0] ++ (head19 ++ ds))))[k + 53]? = ds[31]? := by
  rw [List.getElem?_append_right (by simp), List.getElem?_append_right (by simp), List.getElem?_append_right (by simp), List.getElem?_append_right (by simp [head19])]
  congr 1
  simp [head19]
theorem forE_lt {ds : List Nat} (hd : ds.length = 32) (ld : Lim 256 ds) : forE ds < 2 * p254 := by
  unfold forE encN
  rw [valB_append]
  have hl : (List.replicate (256 - 54) 255 ++ ([0] ++ (head19 ++ ds))).length = 254 := enc_tail_len (256 - 54) hd
  have hlim : Lim 256 (List.replicate (256 - 54) 255 ++ ([0] ++ (head19 ++ ds))) := fun x hx => encN_lim ds 256 ld x (by unfold encN; simp only [List.mem_append] at hx ⊢; exact .inr hx)
  have h := valB_lt hlim
  rw [hl] at h ⊢
  have e : valB [0, 1] = 1 := by decide
  rw [e]
  unfold p254
  omega
theorem forE_odd {ds : List Nat} {y : Nat} (hd : ds.length = 32) (hy : ds[31]? = some y) : forE ds % 2 = y % 2 := by
  refine valB_odd ?_
  rw [encN_length ds 256 hd (by omega)]
  exact (enc_last (ds := ds) (256 - 54)).trans hy
theorem forN_bounds {ds : List Nat} (hd : ds.length = 32) (ld : Lim 256 ds) : 32768 * p254 ≤ forN ds ∧ forN ds < 65536 * p254 ∧ forS ds + forN ds < 65536 * p254 ∧ forS ds < forN ds ∧ forE ds < forN ds ∧ forS ds * forS ds * forS ds = forE ds + forN ds := by
  have h1 := forS_lo ds
  have h2 := forS_hi ds
  have h3 := forS_lt ds
  have h4 := forE_lt hd ld
  have h5 := p254_pos
  unfold forN
  generalize forS ds * forS ds * forS ds = C at *
  generalize forS ds = S at *
  generalize forE ds = E at *
  generalize p254 = P at *
  omega
theorem forN_odd {ds : List Nat} (hd : ds.length = 32) (ld : Lim 256 ds) : forN ds % 2 = 1 := by
  obtain ⟨y, hy⟩ := get_of_lt (xs := ds) (i := 31) (by omega)
  have h1 := forS_odd ds
  have h2 := forE_odd hd hy
  obtain ⟨_, _, _, _, _, h3⟩ := forN_bounds hd ld
  have hB : forB ds = if y % 2 = 0 then 1 else 0 := by unfold forB; rw [hy]; rfl
  rw [hB] at h1
  have h4 : (forS ds * forS ds * forS ds) % 2 = forS ds % 2 := by
    rw [Nat.mul_mod, Nat.mul_mod (forS ds) (forS ds), h1]
    split <;> rfl
  rw [h1] at h4
  generalize forS ds * forS ds * forS ds = C at *
  split at h4 <;> omega
theorem forN_lt {ds : List Nat} (hd : ds.length = 32) (ld : Lim 256 ds) : forN ds < 256 ^ 256 := by
  rw [pow256']
  exact (forN_bounds hd ld).2.1
theorem forN_len {ds : List Nat} (hd : ds.length = 32) (ld : Lim 256 ds) : (limbs (forN ds)).length ≤ 64 := limbs_bytes_len (forN_lt hd ld) (by omega)
theorem forE_len {ds : List Nat} (hd : ds.length = 32) (ld : Lim 256 ds) : (limbs (forE ds)).length ≤ 64 := limbs_bytes_len (Nat.lt_trans (forN_bounds hd ld).2.2.2.2.1 (forN_lt hd ld)) (by omega)
theorem forS_lt256 (ds : List Nat) : forS ds < 256 ^ 256 := by
  rw [pow256']
  have := forS_hi ds
  omega
theorem forKey_val {ds : List Nat} (hd : ds.length = 32) (ld : Lim 256 ds) : valB (forKey ds) = forN ds := by
  unfold forKey
  rw [valB_octs, pow256']
  exact Nat.mod_eq_of_lt (forN_bounds hd ld).2.1
theorem forSig_val {ds : List Nat} (hd : ds.length = 32) (ld : Lim 256 ds) : valB (forSig ds) = forS ds := by
  unfold forSig
  rw [valB_octs, pow256']
  have := forN_bounds hd ld
  exact Nat.mod_eq_of_lt (by omega)
theorem forKey_len (ds : List Nat) : (forKey ds).length = 256 := octs_length _ _
theorem forSig_len (ds : List Nat) : (forSig ds).length = 256 := octs_length _ _
theorem forKey_lim (ds : List Nat) : Lim 256 (forKey ds) := octs_lim _ _
theorem forSig_lim (ds : List Nat) : Lim 256 (forSig ds) := octs_lim _ _
theorem forKey_first {ds : List Nat} (hd : ds.length = 32) (ld : Lim 256 ds) : ∃ x, (forKey ds)[0]? = some x ∧ 128 ≤ x ∧ x < 256 := by
  refine ⟨_, octs_get (by omega), ?_, Nat.mod_lt _ (by omega)⟩
  rw [show 256 - 1 - 0 = 255 from rfl, pow255]
  obtain ⟨h1, h2, _⟩ := forN_bounds hd ld
  have h5 := p254_pos
  have h6 : forN ds / (256 * p254) < 256 := by
    rw [Nat.div_lt_iff_lt_mul (by omega)]
    omega
  rw [Nat.mod_eq_of_lt h6, Nat.le_div_iff_mul_le (by omega)]
  omega
theorem forKey_last {ds : List Nat} (hd : ds.length = 32) (ld : Lim 256 ds) : ∃ x, (forKey ds)[255]? = some x ∧ x % 2 = 1 ∧ x < 256 := by
  refine ⟨_, octs_get (by omega), ?_, Nat.mod_lt _ (by omega)⟩
  rw [show 256 - 1 - 255 = 0 from rfl, Nat.pow_zero, Nat.div_one]
  have := forN_odd hd ld
  omega
theorem for_sounds {ds : List Nat} (hd : ds.length = 32) (ld : Lim 256 ds) : Sounds (forKey ds) 3 := by
  obtain ⟨x, hx, h1, _⟩ := forKey_first hd ld
  obtain ⟨y, hy, h2, _⟩ := forKey_last hd ld
  exact ⟨.inl (forKey_len ds), by rw [hx]; exact h1, by rw [forKey_len, hy]; exact h2, by omega, by omega, by omega⟩
theorem encN_inj {ds ds' : List Nat} {n : Nat} (h : encN ds n = encN ds' n) : ds = ds' := by
  unfold encN at h
  simpa using h
/-- The signature is right for the digest that the key was made for, and for no other. -/
theorem ver_for {ds ds' : List Nat} (hd : ds.length = 32) (ld : Lim 256 ds) : verB (forKey ds) 3 ds' (forSig ds) = decide (ds = ds') := by
  obtain ⟨h1, h2, h3, h4, h5, h6⟩ := forN_bounds hd ld
  rw [verB_sound (for_sounds hd ld) (by rw [forKey_len, forSig_len]) (by rw [forKey_val hd ld, forSig_val hd ld]; exact h4), forKey_val hd ld, forSig_val hd ld, forKey_len]
  have e : forS ds ^ 3 % forN ds = forE ds := by
    rw [show forS ds ^ 3 = forS ds * forS ds * forS ds by rw [Nat.pow_succ, Nat.pow_succ, Nat.pow_succ, Nat.pow_zero, Nat.one_mul], h6, Nat.add_mod_right]
    exact Nat.mod_eq_of_lt h5
  have o := octs_valB (encN_lim ds 256 ld) 0
  rw [Nat.add_zero, encN_length ds 256 hd (by omega), List.replicate_zero, List.nil_append] at o
  rw [e, show forE ds = valB (encN ds 256) from rfl, o]
  rw [Bool.eq_iff_iff, decide_eq_true_eq, decide_eq_true_eq]
  exact ⟨encN_inj, fun h => by rw [h]⟩
theorem ver_big {ds ds' t : List Nat} (hd : ds.length = 32) (ld : Lim 256 ds) (h : forN ds ≤ valB t) : verB (forKey ds) 3 ds' t = false :=
  verB_big (by rw [forKey_val hd ld]; omega)
theorem ver_other {ds ds' t : List Nat} (h : t.length ≠ 256) : verB (forKey ds) 3 ds' t = false := verB_len (by rw [forKey_len]; exact h)
end Go.Proofs.Ytfclpieijbgodaa
