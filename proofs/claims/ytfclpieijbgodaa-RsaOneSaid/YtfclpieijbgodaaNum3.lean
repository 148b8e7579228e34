/-
  What the loops on limbs come to as numbers: adding a multiple, taking away, shifting; products and quotients by hand. No program is walked here.
-/
import Derived.Test.YtfclpieijbgodaaNatFold
import Derived.Test.YtfclpieijbgodaaNatF
namespace Go.Proofs.Ytfclpieijbgodaa
set_option linter.unusedVariables false
set_option linter.unusedSimpArgs false

theorem diff_borrow (x y b : Nat) (hx : x < 4294967296) (hy : y < 4294967296) (hb : b ≤ 1) : diff32 x y b + y + b = x + 4294967296 * borrow32 x y b := by
  unfold diff32 borrow32
  split <;> omega
theorem takeTo_val {cs ys : List Nat} {off k : Nat} (h : off + k ≤ cs.length) (lc : Lim 4294967296 cs) (ly : Lim 4294967296 ys) :
    val (takeTo cs off ys k).1 + 4294967296 ^ off * val (ys.take k) = val cs + 4294967296 ^ (off + k) * (takeTo cs off ys k).2 := by
  induction k with
  | zero => simp [takeTo, val]
  | succ k ih =>
    have ih := ih (by omega)
    obtain ⟨ds, c, hd⟩ : ∃ ds c, takeTo cs off ys k = (ds, c) := ⟨_, _, rfl⟩
    have hlen := takeTo_length cs off ys k
    have hc := takeTo_borrow cs off ys k
    have hlim := takeTo_lim cs off ys k lc
    rw [hd] at ih hlen hc hlim
    simp only at ih hlen hc hlim
    obtain ⟨x, hx⟩ := get_of_lt (xs := ds) (i := off + k) (by omega)
    rw [takeTo_succ rfl hd hx, val_take_succ rfl]
    simp only
    have hy := getD_lim ly (by omega) k
    generalize ys.getD k 0 = y at *
    have h0 := diff_borrow x y c (hlim.get hx) hy hc
    have h1 := val_set hx (diff32 x y c)
    have h2 : 4294967296 ^ (off + (k + 1)) * borrow32 x y c = 4294967296 ^ (off + k) * (4294967296 * borrow32 x y c) := by
      rw [← Nat.add_assoc, Nat.pow_succ, Nat.mul_assoc]
    have h3 : 4294967296 ^ (off + k) * diff32 x y c + 4294967296 ^ (off + k) * y + 4294967296 ^ (off + k) * c = 4294967296 ^ (off + k) * x + 4294967296 ^ (off + k) * (4294967296 * borrow32 x y c) := by
      rw [← Nat.mul_add, ← Nat.mul_add, ← Nat.mul_add, h0]
    have h4 : 4294967296 ^ off * (val (ys.take k) + 4294967296 ^ k * y) = 4294967296 ^ off * val (ys.take k) + 4294967296 ^ (off + k) * y := by
      rw [Nat.mul_add, Nat.pow_add, Nat.mul_assoc]
    rw [h2, h4]
    omega
theorem takeTo_get {cs ys : List Nat} {off k i : Nat} (h : i < off ∨ off + k ≤ i) : (takeTo cs off ys k).1[i]? = cs[i]? := by
  induction k with
  | zero => rfl
  | succ k ih =>
    simp only [takeTo]
    rw [List.getElem?_set_ne (by omega)]
    exact ih (by omega)
theorem take_ext {xs ys : List Nat} {n : Nat} (h : ∀ i, i < n → xs[i]? = ys[i]?) : xs.take n = ys.take n := by
  apply List.ext_getElem?
  intro i
  rw [List.getElem?_take, List.getElem?_take]
  split
  · exact h i (by assumption)
  · rfl
/-- A difference that is taken whole: nothing is borrowed at the end. -/
theorem takeTo_sub {cs ys : List Nat} {off n : Nat} (h : off + n = cs.length) (lc : Lim 4294967296 cs) (ly : Lim 4294967296 ys) (hn : ys.length ≤ n) (hle : 4294967296 ^ off * val ys ≤ val cs) :
    (takeTo cs off ys n).2 = 0 ∧ val (takeTo cs off ys n).1 = val cs - 4294967296 ^ off * val ys := by
  have h1 := takeTo_val (cs := cs) (off := off) (k := n) (ys := ys) (by omega) lc ly
  rw [List.take_of_length_le hn] at h1
  have h2 := val_lt (takeTo_lim cs off ys n lc)
  rw [takeTo_length, ← h] at h2
  have h3 := takeTo_borrow cs off ys n
  have h4 : (takeTo cs off ys n).2 = 0 := by
    rcases (show (takeTo cs off ys n).2 = 0 ∨ (takeTo cs off ys n).2 = 1 by omega) with e | e
    · exact e
    · rw [e, Nat.mul_one] at h1
      generalize 4294967296 ^ (off + n) = p at *
      generalize 4294967296 ^ off * val ys = q at *
      omega
  rw [h4] at h1
  exact ⟨h4, by omega⟩

/-- What shift has done behind i limbs. -/
def shiftTo (xs : List Nat) (k : Nat) : Nat → List Nat
  | 0 => List.replicate (xs.length + 1) 0
  | i + 1 => ((shiftTo xs k i).set i ((shiftTo xs k i).getD i 0 ||| (xs.getD i 0 * 2 ^ k % 4294967296))).set (i + 1) (xs.getD i 0 * 2 ^ k / 4294967296)
theorem shiftTo_length (xs : List Nat) (k i : Nat) : (shiftTo xs k i).length = xs.length + 1 := by
  induction i with
  | zero => simp [shiftTo]
  | succ i ih => simp [shiftTo, ih]
theorem mod_shift (a k : Nat) (hk : k ≤ 32) : ∃ q, a * 2 ^ k % 4294967296 = q * 2 ^ k := by
  have h : (4294967296 : Nat) = 2 ^ (32 - k) * 2 ^ k := by rw [← Nat.pow_add, show 32 - k + k = 32 from by omega]
  rw [h, Nat.mul_mod_mul_right]
  exact ⟨_, rfl⟩
theorem shiftTo_ok {xs : List Nat} {k : Nat} (lx : Lim 4294967296 xs) (hk : k ≤ 32) {i : Nat} (hi : i ≤ xs.length) :
    val (shiftTo xs k i) = val (xs.take i) * 2 ^ k ∧ Lim 4294967296 (shiftTo xs k i) ∧ (∀ z, (shiftTo xs k i)[i]? = some z → z < 2 ^ k) ∧ ∀ j z, i < j → (shiftTo xs k i)[j]? = some z → z = 0 := by
  induction i with
  | zero =>
    refine ⟨by simp [shiftTo, val_replicate, val], Lim.replicate (by omega), fun z hz => ?_, fun j z _ hz => ?_⟩
    · rw [shiftTo, List.getElem?_replicate] at hz
      split at hz
      · injection hz with hz; subst hz; exact Nat.two_pow_pos k
      · cases hz
    · rw [shiftTo, List.getElem?_replicate] at hz
      split at hz
      · injection hz with hz; exact hz.symm
      · cases hz
  | succ i ih =>
    obtain ⟨h1, h2, h3, h4⟩ := ih (by omega)
    have hlen := shiftTo_length xs k i
    have ha := getD_lim lx (by omega) i
    obtain ⟨z, hz⟩ := get_of_lt (xs := shiftTo xs k i) (i := i) (by omega)
    obtain ⟨z1, hz1⟩ := get_of_lt (xs := shiftTo xs k i) (i := i + 1) (by omega)
    have e1 := h4 _ z1 (by omega) hz1
    subst e1
    have hzb := h3 z hz
    obtain ⟨q, hq⟩ := mod_shift (xs.getD i 0) k hk
    have hor : z ||| (xs.getD i 0 * 2 ^ k % 4294967296) = z + xs.getD i 0 * 2 ^ k % 4294967296 := by rw [hq]; exact or_shift hzb
    have hs : shiftTo xs k (i + 1) = ((shiftTo xs k i).set i (z + xs.getD i 0 * 2 ^ k % 4294967296)).set (i + 1) (xs.getD i 0 * 2 ^ k / 4294967296) := by
      rw [shiftTo, List.getD_eq_getElem?_getD (l := shiftTo xs k i), hz, Option.getD_some, hor]
    have hdiv : xs.getD i 0 * 2 ^ k / 4294967296 < 2 ^ k := by
      rw [Nat.div_lt_iff_lt_mul (by omega), Nat.mul_comm]
      exact Nat.mul_lt_mul_of_pos_left ha (Nat.two_pow_pos k)
    have hpk : (2 : Nat) ^ k ≤ 2 ^ 32 := Nat.pow_le_pow_right (by omega) hk
    have hsum : z + xs.getD i 0 * 2 ^ k % 4294967296 < 4294967296 := by
      have h6 : (4294967296 : Nat) = 2 ^ (32 - k) * 2 ^ k := by rw [← Nat.pow_add, show 32 - k + k = 32 from by omega]
      have h7 : q * 2 ^ k < 2 ^ (32 - k) * 2 ^ k := by rw [← h6, ← hq]; exact Nat.mod_lt _ (by omega)
      have h8 : q < 2 ^ (32 - k) := Nat.lt_of_mul_lt_mul_right h7
      have h9 : (q + 1) * 2 ^ k ≤ 2 ^ (32 - k) * 2 ^ k := Nat.mul_le_mul_right _ h8
      rw [← h6, Nat.add_mul, Nat.one_mul] at h9
      rw [hq]
      omega
    rw [hs]
    refine ⟨?_, (h2.set hsum).set (by omega), fun y hy => ?_, fun j y hj hy => ?_⟩
    · have h5 := val_set hz (z + xs.getD i 0 * 2 ^ k % 4294967296)
      have hz1' : ((shiftTo xs k i).set i (z + xs.getD i 0 * 2 ^ k % 4294967296))[i + 1]? = some 0 := by rw [List.getElem?_set_ne (by omega)]; exact hz1
      have h6 := val_set hz1' (xs.getD i 0 * 2 ^ k / 4294967296)
      rw [val_take_succ (xs := xs) (k := i) rfl, Nat.add_mul, ← h1]
      have h7 : 4294967296 ^ (i + 1) * (xs.getD i 0 * 2 ^ k / 4294967296) + 4294967296 ^ i * (xs.getD i 0 * 2 ^ k % 4294967296) = 4294967296 ^ i * xs.getD i 0 * 2 ^ k := by
        rw [Nat.pow_succ, Nat.mul_assoc, ← Nat.mul_add, Nat.mul_assoc]
        congr 1
        omega
      rw [Nat.mul_add] at h5
      omega
    · rw [List.getElem?_set_self (by rw [List.length_set]; omega)] at hy
      injection hy with hy
      omega
    · rw [List.getElem?_set_ne (by omega), List.getElem?_set_ne (by omega)] at hy
      exact h4 j y (by omega) hy

end Go.Proofs.Ytfclpieijbgodaa
