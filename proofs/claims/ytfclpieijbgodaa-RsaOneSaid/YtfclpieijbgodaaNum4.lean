/-
  Plain laws for one digit of a quotient: the guess is not too small; what is left behind the subtraction. No program in sight.
-/
import Derived.Test.YtfclpieijbgodaaNum3
namespace Go.Proofs.Ytfclpieijbgodaa
set_option linter.unusedVariables false
set_option linter.unusedSimpArgs false

theorem val_zero_all {xs : List Nat} (h : val xs = 0) : ∀ (i x : Nat), xs[i]? = some x → x = 0 := by
  induction xs with
  | nil => intro i x hx; simp at hx
  | cons y ys ih =>
    rw [val] at h
    intro i x hx
    cases i with
    | zero => simp at hx; omega
    | succ i => exact ih (by omega) i x (by simpa using hx)
theorem val_of_zero {xs : List Nat} (h : ∀ (i x : Nat), xs[i]? = some x → x = 0) : val xs = 0 := by
  induction xs with
  | nil => rfl
  | cons y ys ih =>
    have h1 := h 0 y rfl
    have h2 := ih fun i x hx => h (i + 1) x (by simpa using hx)
    rw [val, h1, h2]
theorem drop_high {xs : List Nat} {m : Nat} (h : val xs < 4294967296 ^ m) : val (xs.take m) = val xs ∧ ∀ (j z : Nat), m ≤ j → xs[j]? = some z → z = 0 := by
  rcases Nat.lt_or_ge m xs.length with hm | hm
  · have h1 := val_split xs m (by omega)
    have h2 : val (xs.drop m) = 0 := by
      rcases Nat.eq_zero_or_pos (val (xs.drop m)) with h3 | h3
      · exact h3
      · have h4 : 4294967296 ^ m * 1 ≤ 4294967296 ^ m * val (xs.drop m) := Nat.mul_le_mul_left _ h3
        omega
    rw [h2] at h1
    refine ⟨by omega, fun j z hj hz => ?_⟩
    exact val_zero_all h2 (j - m) z (by rw [List.getElem?_drop, show m + (j - m) = j from by omega]; exact hz)
  · refine ⟨by rw [List.take_of_length_le hm], fun j z hj hz => ?_⟩
    have := (List.getElem?_eq_some_iff.1 hz).1
    omega

theorem digit_sub {cs T : List Nat} {off m : Nat} (h : off + m ≤ cs.length) (lc : Lim 4294967296 cs) (lT : Lim 4294967296 T) (hT : T.length ≤ m) (hP : val (cs.drop off) < 4294967296 ^ m) (hle : val T ≤ val (cs.drop off)) :
    (takeTo cs off T m).1.take off = cs.take off ∧ val ((takeTo cs off T m).1.drop off) = val (cs.drop off) - val T := by
  have hlen := takeTo_length cs off T m
  have hlim := takeTo_lim cs off T m lc
  have h0 : (takeTo cs off T m).1.take off = cs.take off := take_ext fun i hi => takeTo_get (.inl hi)
  have h1 := takeTo_val (cs := cs) (off := off) (ys := T) (k := m) h lc lT
  rw [List.take_of_length_le hT] at h1
  have h2 := val_split cs off (by omega)
  have h3 := val_split (takeTo cs off T m).1 off (by omega)
  rw [h0] at h3
  have hb := takeTo_borrow cs off T m
  have hz := (drop_high hP).2
  -- the part that was taken from has no more than m limbs that are not 0
  have h4 : val ((takeTo cs off T m).1.drop off) < 4294967296 ^ m := by
    have h5 : val (((takeTo cs off T m).1.drop off).take m) = val ((takeTo cs off T m).1.drop off) := by
      refine val_take fun i x hi hx => ?_
      rw [List.getElem?_drop, takeTo_get (.inr (by omega))] at hx
      exact hz i x hi (by rw [List.getElem?_drop]; exact hx)
    rw [← h5]
    have h6 := val_lt ((hlim.drop off).take m)
    rw [List.length_take, List.length_drop, hlen, Nat.min_eq_left (by omega)] at h6
    exact h6
  refine ⟨h0, ?_⟩
  have hp : 0 < 4294967296 ^ off := Nat.pow_pos (by omega)
  rw [h2, h3, Nat.pow_add] at h1
  generalize val ((takeTo cs off T m).1.drop off) = a at *
  generalize val (cs.drop off) = b at *
  generalize val T = t at *
  generalize (takeTo cs off T m).2 = c at *
  generalize 4294967296 ^ m = pm at *
  generalize 4294967296 ^ off = p at *
  have h7 : p * (a + t) = p * (b + pm * c) := by
    rw [Nat.mul_add, Nat.mul_add, ← Nat.mul_assoc]
    omega
  have h8 := Nat.eq_of_mul_eq_mul_left hp h7
  rcases (show c = 0 ∨ c = 1 by omega) with rfl | rfl
  · omega
  · rw [Nat.mul_one] at h8
    omega

/-- The guess out of the two highest limbs is not too small. -/
theorem guess_ge {P V u1 u0 v1 m : Nat} (hv : 0 < v1) (hP : P < (u1 * 4294967296 + u0 + 1) * 4294967296 ^ m) (hV : v1 * 4294967296 ^ m ≤ V) (hV0 : 0 < V) :
    P / V ≤ (u1 * 4294967296 + u0) / v1 := by
  rw [Nat.le_div_iff_mul_le hv]
  have h1 : P / V * V ≤ P := Nat.div_mul_le_self P V
  have h2 : P / V * (v1 * 4294967296 ^ m) ≤ P / V * V := Nat.mul_le_mul_left _ hV
  have h3 : P / V * v1 * 4294967296 ^ m < (u1 * 4294967296 + u0 + 1) * 4294967296 ^ m := by rw [Nat.mul_assoc]; omega
  have h4 := Nat.lt_of_mul_lt_mul_right h3
  omega
/-- The two highest limbs of what a digit is taken from. -/
theorem top_two {ps : List Nat} {n u1 u0 : Nat} (hl : Lim 4294967296 ps) (hn : 0 < n) (h1 : ps[n]? = some u1) (h0 : ps[n - 1]? = some u0) (hP : val ps < 4294967296 ^ (n + 1)) :
    val ps < (u1 * 4294967296 + u0 + 1) * 4294967296 ^ (n - 1) := by
  have hlen : n < ps.length := (List.getElem?_eq_some_iff.1 h1).1
  have h2 := val_split ps (n - 1) (by omega)
  rw [val_drop_succ h0, show n - 1 + 1 = n from by omega, val_drop_succ h1] at h2
  have h3 : val (ps.drop (n + 1)) = 0 := val_of_zero fun i x hx => by
    rw [List.getElem?_drop] at hx
    exact (drop_high hP).2 _ x (by omega) hx
  have h4 := val_lt (hl.take (n - 1))
  rw [List.length_take, Nat.min_eq_left (by omega)] at h4
  rw [h3, Nat.mul_zero, Nat.add_zero] at h2
  generalize 4294967296 ^ (n - 1) = p at *
  have h5 : (u1 * 4294967296 + u0 + 1) * p = p * (u0 + 4294967296 * u1) + p := by
    rw [Nat.add_mul _ 1, Nat.one_mul, Nat.mul_comm _ p]
    congr 2
    omega
  omega
theorem top_one {vs : List Nat} {n v1 : Nat} (h : vs[n - 1]? = some v1) : v1 * 4294967296 ^ (n - 1) ≤ val vs := by
  have hlen : n - 1 < vs.length := (List.getElem?_eq_some_iff.1 h).1
  have h2 := val_split vs (n - 1) (by omega)
  rw [val_drop_succ h, Nat.mul_add] at h2
  rw [Nat.mul_comm]
  omega

/-- A guess times the divisor, as digit begins. -/
theorem digit_start {vs : List Nat} {G : Nat} (hG : G < 4294967296) (lv : Lim 4294967296 vs) :
    val ((foldTo (List.replicate (vs.length + 1) 0) 0 vs G vs.length).1.set vs.length (foldTo (List.replicate (vs.length + 1) 0) 0 vs G vs.length).2) = G * val vs ∧
    Lim 4294967296 ((foldTo (List.replicate (vs.length + 1) 0) 0 vs G vs.length).1.set vs.length (foldTo (List.replicate (vs.length + 1) 0) 0 vs G vs.length).2) := by
  have h0 : Lim 4294967296 (List.replicate (vs.length + 1) 0) := Lim.replicate (by omega)
  have h1 := foldTo_val (cs := List.replicate (vs.length + 1) 0) (off := 0) (ys := vs) (a := G) (k := vs.length) (by simp)
  rw [val_replicate, List.take_length] at h1
  have h2 := foldTo_length (List.replicate (vs.length + 1) 0) 0 vs G vs.length
  obtain ⟨z, hz⟩ := get_of_lt (xs := (foldTo (List.replicate (vs.length + 1) 0) 0 vs G vs.length).1) (i := vs.length) (by rw [h2]; simp)
  have hz0 : z = 0 := by
    rw [foldTo_get (.inr (by omega)), List.getElem?_replicate, if_pos (by omega)] at hz
    injection hz with hz
    exact hz.symm
  subst hz0
  have h3 := val_set hz (foldTo (List.replicate (vs.length + 1) 0) 0 vs G vs.length).2
  refine ⟨?_, (foldTo_lim _ _ _ _ _ h0).set (foldTo_carry _ _ _ _ _ hG h0 lv)⟩
  simp only [Nat.zero_add, Nat.pow_zero, Nat.one_mul, Nat.mul_zero, Nat.add_zero] at h1 h3
  omega
end Go.Proofs.Ytfclpieijbgodaa
