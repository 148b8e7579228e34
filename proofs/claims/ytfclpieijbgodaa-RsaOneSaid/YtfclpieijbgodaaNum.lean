/-
  Plain numbers: the number that a list of limbs of 32 bits tells, the limbs of a number, and when a list is the limbs of its number. No program in sight; no conditions.
-/
import Derived.Test.YtfclpieijbgodaaBase
namespace Go.Proofs.Ytfclpieijbgodaa
set_option linter.unusedVariables false
set_option linter.unusedSimpArgs false

/-- The number that limbs tell, the lowest first. -/
def val : List Nat → Nat
  | [] => 0
  | x :: xs => x + 4294967296 * val xs

def limbsF : Nat → Nat → List Nat
  | 0, _ => []
  | f + 1, n => if n = 0 then [] else n % 4294967296 :: limbsF f (n / 4294967296)
/-- The limbs of a number. -/
def limbs (n : Nat) : List Nat := limbsF n n

theorem limbsF_fuel (f g n : Nat) (hf : n ≤ f) (hg : n ≤ g) : limbsF f n = limbsF g n := by
  induction f generalizing g n with
  | zero =>
    obtain rfl : n = 0 := by omega
    cases g <;> simp [limbsF]
  | succ f ih =>
    cases g with
    | zero =>
      obtain rfl : n = 0 := by omega
      simp [limbsF]
    | succ g =>
      simp only [limbsF]
      split
      · rfl
      · rw [ih g (n / 4294967296) (by omega) (by omega)]
theorem limbs_zero : limbs 0 = [] := rfl
theorem limbs_pos {n : Nat} (h : n ≠ 0) : limbs n = n % 4294967296 :: limbs (n / 4294967296) := by
  unfold limbs
  obtain ⟨m, rfl⟩ : ∃ m, n = m + 1 := ⟨n - 1, by omega⟩
  rw [limbsF, if_neg h, limbsF_fuel m _ _ (by omega) (Nat.le_refl _)]
theorem val_limbs (n : Nat) : val (limbs n) = n := by
  induction n using Nat.strongRecOn with
  | ind n ih =>
    rcases Nat.eq_zero_or_pos n with rfl | h
    · rfl
    · rw [limbs_pos (by omega), val, ih _ (by omega)]
      omega
theorem limbs_lim (n : Nat) : Lim 4294967296 (limbs n) := by
  induction n using Nat.strongRecOn with
  | ind n ih =>
    rcases Nat.eq_zero_or_pos n with rfl | h
    · exact Lim.nil _
    · rw [limbs_pos (by omega)]
      intro x hx
      rcases List.mem_cons.1 hx with rfl | hx
      · exact Nat.mod_lt _ (by omega)
      · exact ih _ (by omega) x hx
theorem limbs_nil_iff (n : Nat) : limbs n = [] ↔ n = 0 := by
  constructor
  · intro h
    have := val_limbs n
    rw [h] at this
    exact this.symm
  · rintro rfl; rfl
theorem limbs_inj {m n : Nat} (h : limbs m = limbs n) : m = n := by rw [← val_limbs m, h, val_limbs]

/-- A list whose limbs are limbs, and whose last one is not 0. -/
def Canon (xs : List Nat) : Prop := Lim 4294967296 xs ∧ xs.getLast? ≠ some 0

theorem val_pos_of_last {xs : List Nat} {x : Nat} (h : xs.getLast? = some x) (hx : x ≠ 0) : val xs ≠ 0 := by
  induction xs with
  | nil => simp at h
  | cons y ys ih =>
    cases ys with
    | nil => simp at h; subst h; simp [val]; exact hx
    | cons z zs =>
      have := ih (by simpa using h)
      rw [val]
      omega
theorem canon_limbs (n : Nat) : Canon (limbs n) := by
  refine ⟨limbs_lim n, ?_⟩
  induction n using Nat.strongRecOn with
  | ind n ih =>
    rcases Nat.eq_zero_or_pos n with rfl | h
    · simp [limbs_zero]
    · rw [limbs_pos (by omega)]
      rcases Nat.eq_zero_or_pos (n / 4294967296) with h0 | h0
      · rw [h0, limbs_zero]
        simp
        omega
      · have h1 := ih (n / 4294967296) (by omega)
        rw [limbs_pos (n := n / 4294967296) (by omega)] at h1 ⊢
        simpa using h1
theorem limbs_val {xs : List Nat} (h : Canon xs) : limbs (val xs) = xs := by
  obtain ⟨hl, hz⟩ := h
  induction xs with
  | nil => rfl
  | cons x xs ih =>
    have hx : x < 4294967296 := hl x (by simp)
    have hne : val (x :: xs) ≠ 0 := by
      cases hq : (x :: xs).getLast? with
      | none => simp at hq
      | some y => exact val_pos_of_last hq (by rintro rfl; exact hz hq)
    rw [limbs_pos hne]
    have e1 : val (x :: xs) % 4294967296 = x := by rw [val]; omega
    have e2 : val (x :: xs) / 4294967296 = val xs := by rw [val]; omega
    rw [e1, e2, ih (fun y hy => hl y (by simp [hy]))]
    intro h
    cases xs with
    | nil => simp at h
    | cons z zs => exact hz (by simpa using h)

theorem val_append (xs ys : List Nat) : val (xs ++ ys) = val xs + 4294967296 ^ xs.length * val ys := by
  induction xs with
  | nil => simp [val]
  | cons x xs ih =>
    simp only [List.cons_append, val, ih, List.length_cons, Nat.pow_succ]
    rw [Nat.mul_add, ← Nat.mul_assoc, Nat.mul_comm 4294967296 (4294967296 ^ xs.length)]
    omega
theorem val_lt {xs : List Nat} (h : Lim 4294967296 xs) : val xs < 4294967296 ^ xs.length := by
  induction xs with
  | nil => simp [val]
  | cons x xs ih =>
    have hx : x < 4294967296 := h x (by simp)
    have := ih (fun y hy => h y (by simp [hy]))
    rw [val, List.length_cons, Nat.pow_succ]
    omega
theorem val_replicate (n : Nat) : val (List.replicate n 0) = 0 := by
  induction n with
  | zero => rfl
  | succ n ih => simp [List.replicate_succ, val, ih]
/-- Cut at a place behind which all is 0, the number is the same. -/
theorem val_take {xs : List Nat} {n : Nat} (h : ∀ i x, n ≤ i → xs[i]? = some x → x = 0) : val (xs.take n) = val xs := by
  have hd : xs.drop n = List.replicate (xs.drop n).length 0 := by
    refine List.eq_replicate_iff.2 ⟨rfl, fun x hx => ?_⟩
    obtain ⟨i, hi⟩ := List.mem_iff_getElem?.1 hx
    rw [List.getElem?_drop] at hi
    exact h _ _ (by omega) hi
  have := val_append (xs.take n) (xs.drop n)
  rw [List.take_append_drop, hd, val_replicate, Nat.mul_zero, Nat.add_zero] at this
  exact this.symm
/-- What trimming comes to. -/
theorem take_limbs {xs : List Nat} {n : Nat} (hl : Lim 4294967296 xs) (hn : n ≤ xs.length) (h0 : ∀ i x, n ≤ i → xs[i]? = some x → x = 0) (h1 : n = 0 ∨ xs[n - 1]? ≠ some 0) :
    xs.take n = limbs (val xs) := by
  rw [← val_take h0]
  refine (limbs_val ⟨hl.take n, ?_⟩).symm
  rcases h1 with rfl | h1
  · simp
  · rcases Nat.eq_zero_or_pos n with rfl | hp
    · simp
    · rw [List.getLast?_eq_getElem?, List.length_take, Nat.min_eq_left hn, List.getElem?_take, if_pos (by omega)]
      exact h1
theorem limbs_length_le {n k : Nat} (h : n < 4294967296 ^ k) : (limbs n).length ≤ k := by
  induction k generalizing n with
  | zero => obtain rfl : n = 0 := by simpa using h
            simp [limbs_zero]
  | succ k ih =>
    rcases Nat.eq_zero_or_pos n with rfl | hp
    · simp [limbs_zero]
    · rw [limbs_pos (by omega), List.length_cons]
      have := ih (n := n / 4294967296) (by rw [Nat.pow_succ] at h; exact Nat.div_lt_of_lt_mul (by rw [Nat.mul_comm]; exact h))
      omega
theorem lt_of_limbs_length {n k : Nat} (h : (limbs n).length ≤ k) : n < 4294967296 ^ k := by
  have h1 := val_lt (limbs_lim n)
  rw [val_limbs] at h1
  exact Nat.lt_of_lt_of_le h1 (Nat.pow_le_pow_right (by omega) h)
theorem limbs_length_le_iff (n k : Nat) : (limbs n).length ≤ k ↔ n < 4294967296 ^ k := ⟨lt_of_limbs_length, limbs_length_le⟩

/-- Is a list a number, of the chapter's? -/
def isRight (xs : List Nat) : Bool := decide (xs.length ≤ 256) && (xs.getLast? != some 0)
theorem isRight_canon {xs : List Nat} (hl : Lim 4294967296 xs) (h : isRight xs = true) : Canon xs := by
  simp [isRight] at h
  exact ⟨hl, h.2⟩
theorem isRight_len {xs : List Nat} (h : isRight xs = true) : xs.length ≤ 256 := by
  simp [isRight] at h
  exact h.1
theorem isRight_of {xs : List Nat} (h : Canon xs) (hl : xs.length ≤ 256) : isRight xs = true := by
  simp [isRight, hl, h.2]
theorem isRight_limbs {n : Nat} (h : (limbs n).length ≤ 256) : isRight (limbs n) = true := isRight_of (canon_limbs n) h

/-- Which of two numbers is above. -/
def cmpN (a b : Nat) : Int := if a < b then -1 else if b < a then 1 else 0

theorem val_drop_succ {xs : List Nat} {i x : Nat} (h : xs[i]? = some x) : val (xs.drop i) = x + 4294967296 * val (xs.drop (i + 1)) := by
  have hi : i < xs.length := (List.getElem?_eq_some_iff.1 h).1
  rw [List.drop_eq_getElem_cons hi, val]
  rw [List.getElem?_eq_getElem hi] at h
  injection h with h
  rw [h]
theorem val_split (xs : List Nat) (n : Nat) (h : n ≤ xs.length) : val xs = val (xs.take n) + 4294967296 ^ n * val (xs.drop n) := by
  have := val_append (xs.take n) (xs.drop n)
  rw [List.take_append_drop, List.length_take, Nat.min_eq_left h] at this
  exact this
/-- Above a place all is the same, at the place one is above: so is the whole. -/
theorem val_lt_of {xs ys : List Nat} {i x y : Nat} (hx : Lim 4294967296 xs) (hgx : xs[i]? = some x) (hgy : ys[i]? = some y) (he : xs.drop (i + 1) = ys.drop (i + 1)) (hlt : x < y) : val xs < val ys := by
  have hix : i < xs.length := (List.getElem?_eq_some_iff.1 hgx).1
  have hiy : i < ys.length := (List.getElem?_eq_some_iff.1 hgy).1
  have h1 := val_split xs i (by omega)
  have h2 := val_split ys i (by omega)
  rw [val_drop_succ hgx] at h1
  rw [val_drop_succ hgy, ← he] at h2
  have h3 : val (xs.take i) < 4294967296 ^ i := by
    have := val_lt (hx.take i)
    rwa [List.length_take, Nat.min_eq_left (by omega)] at this
  generalize val (xs.drop (i + 1)) = d at *
  generalize 4294967296 ^ i = p at *
  have h4 : p * (x + 1 + 4294967296 * d) ≤ p * (y + 4294967296 * d) := Nat.mul_le_mul_left _ (by omega)
  have h5 : p * (x + 1 + 4294967296 * d) = p * (x + 4294967296 * d) + p := by rw [show x + 1 + 4294967296 * d = x + 4294967296 * d + 1 from by omega, Nat.mul_succ]
  omega
theorem val_lt_of_len {xs ys : List Nat} (hx : Lim 4294967296 xs) (hy : Canon ys) (h : xs.length < ys.length) : val xs < val ys := by
  have h1 := val_lt hx
  rcases Nat.lt_or_ge (val xs) (val ys) with h2 | h2
  · exact h2
  · have h3 : (limbs (val ys)).length ≤ xs.length := limbs_length_le (Nat.lt_of_le_of_lt h2 h1)
    rw [limbs_val hy] at h3
    omega
theorem cmpN_lt {a b : Nat} (h : a < b) : cmpN a b = -1 := by simp [cmpN, h]
theorem cmpN_gt {a b : Nat} (h : b < a) : cmpN a b = 1 := by simp [cmpN, h, show ¬ a < b from by omega]
theorem cmpN_self (a : Nat) : cmpN a a = 0 := by simp [cmpN]
theorem cmpN_eq_zero {a b : Nat} : cmpN a b = 0 ↔ a = b := by
  unfold cmpN
  constructor
  · intro h
    split at h
    · omega
    · split at h <;> omega
  · rintro rfl
    simp
theorem cmpN_pos {a b : Nat} : 0 < cmpN a b ↔ b < a := by
  unfold cmpN
  split
  · omega
  · split <;> omega
theorem cmpN_neg {a b : Nat} : cmpN a b < 0 ↔ a < b := by
  unfold cmpN
  split
  · omega
  · split <;> omega
theorem cmpN_swap (a b : Nat) : cmpN a b = -cmpN b a := by
  unfold cmpN
  by_cases h1 : a < b
  · have h2 : ¬ b < a := by omega
    simp [h1, h2]
  · by_cases h2 : b < a <;> simp [h1, h2]
theorem cmpN_bd (a b : Nat) : -1 ≤ cmpN a b ∧ cmpN a b ≤ 1 := by
  unfold cmpN
  split
  · omega
  · split <;> omega

end Go.Proofs.Ytfclpieijbgodaa
