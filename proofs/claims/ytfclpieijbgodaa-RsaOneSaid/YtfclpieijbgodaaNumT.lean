/-
  What adding a multiple of limbs, and a product by hand, come to as lists and as numbers. No program is walked here.
-/
import Derived.Test.YtfclpieijbgodaaBase
import Derived.Test.YtfclpieijbgodaaNum
namespace Go.Proofs.Ytfclpieijbgodaa
set_option linter.unusedVariables false
set_option linter.unusedSimpArgs false

/-- What fold has done to the block behind k limbs: its contents, and the carry. -/
def foldTo (cs : List Nat) (off : Nat) (ys : List Nat) (a : Nat) : Nat → List Nat × Nat
  | 0 => (cs, 0)
  | k + 1 =>
    let p := foldTo cs off ys a k
    let t := a * ys.getD k 0 + p.1.getD (off + k) 0 + p.2
    (p.1.set (off + k) (t % 4294967296), t / 4294967296)

theorem foldTo_length (cs : List Nat) (off : Nat) (ys : List Nat) (a k : Nat) : (foldTo cs off ys a k).1.length = cs.length := by
  induction k with
  | zero => rfl
  | succ k ih => simp [foldTo, ih]
theorem foldTo_lim (cs : List Nat) (off : Nat) (ys : List Nat) (a k : Nat) (lc : Lim 4294967296 cs) : Lim 4294967296 (foldTo cs off ys a k).1 := by
  induction k with
  | zero => exact lc
  | succ k ih => exact ih.set (Nat.mod_lt _ (by omega))
theorem mul_lim {a b : Nat} (ha : a < 4294967296) (hb : b < 4294967296) : a * b ≤ 18446744065119617025 := Nat.mul_le_mul (show a ≤ 4294967295 by omega) (show b ≤ 4294967295 by omega)
theorem getD_lim {b : Nat} {xs : List Nat} (h : Lim b xs) (hb : 0 < b) (i : Nat) : xs.getD i 0 < b := by
  rw [List.getD_eq_getElem?_getD]
  cases hx : xs[i]? with
  | none => simpa using hb
  | some x => simpa using h.get hx
theorem foldTo_carry (cs : List Nat) (off : Nat) (ys : List Nat) (a k : Nat) (ha : a < 4294967296) (lc : Lim 4294967296 cs) (ly : Lim 4294967296 ys) : (foldTo cs off ys a k).2 < 4294967296 := by
  induction k with
  | zero => show 0 < 4294967296; omega
  | succ k ih =>
    have h1 := mul_lim ha (getD_lim ly (by omega) k)
    have h2 := getD_lim (foldTo_lim cs off ys a k lc) (by omega) (off + k)
    show (a * ys.getD k 0 + (foldTo cs off ys a k).1.getD (off + k) 0 + (foldTo cs off ys a k).2) / 4294967296 < 4294967296
    omega
theorem foldTo_succ {cs : List Nat} {off : Nat} {ys : List Nat} {a k y x c : Nat} {ds : List Nat} (hy : ys[k]? = some y) (hd : foldTo cs off ys a k = (ds, c)) (hx : ds[off + k]? = some x) :
    foldTo cs off ys a (k + 1) = (ds.set (off + k) ((a * y + x + c) % 4294967296), (a * y + x + c) / 4294967296) := by
  simp [foldTo, hd, List.getD_eq_getElem?_getD, hy, hx]

theorem val_take_succ {xs : List Nat} {k x : Nat} (h : xs.getD k 0 = x) : val (xs.take (k + 1)) = val (xs.take k) + 4294967296 ^ k * x := by
  rw [List.getD_eq_getElem?_getD] at h
  rcases Nat.lt_or_ge k xs.length with hk | hk
  · rw [List.getElem?_eq_getElem hk] at h
    simp at h
    rw [List.take_succ_eq_append_getElem hk, val_append, List.length_take, Nat.min_eq_left (by omega), h]
    simp [val]
  · rw [List.getElem?_eq_none hk] at h
    simp at h
    subst h
    rw [List.take_of_length_le (by omega), List.take_of_length_le (by omega)]
    simp

theorem val_set {xs : List Nat} {i x : Nat} (h : xs[i]? = some x) (y : Nat) : val (xs.set i y) + 4294967296 ^ i * x = val xs + 4294967296 ^ i * y := by
  induction xs generalizing i with
  | nil => simp at h
  | cons z zs ih =>
    cases i with
    | zero => simp at h; subst h; simp [val]; omega
    | succ i =>
      have := ih (i := i) (by simpa using h)
      simp only [List.set_cons_succ, val, Nat.pow_succ]
      rw [Nat.mul_comm (4294967296 ^ i) 4294967296, Nat.mul_assoc, Nat.mul_assoc]
      omega

theorem foldTo_val {cs ys : List Nat} {off a k : Nat} (h : off + k ≤ cs.length) :
    val (foldTo cs off ys a k).1 + 4294967296 ^ (off + k) * (foldTo cs off ys a k).2 = val cs + 4294967296 ^ off * (a * val (ys.take k)) := by
  induction k with
  | zero => simp [foldTo, val]
  | succ k ih =>
    have ih := ih (by omega)
    obtain ⟨ds, c, hd⟩ : ∃ ds c, foldTo cs off ys a k = (ds, c) := ⟨_, _, rfl⟩
    have hlen := foldTo_length cs off ys a k
    rw [hd] at ih hlen
    simp only at ih hlen
    obtain ⟨x, hx⟩ := get_of_lt (xs := ds) (i := off + k) (by omega)
    have hs : foldTo cs off ys a (k + 1) = (ds.set (off + k) ((a * ys.getD k 0 + x + c) % 4294967296), (a * ys.getD k 0 + x + c) / 4294967296) := by
      simp [foldTo, hd, List.getD_eq_getElem?_getD, hx]
    rw [hs, val_take_succ rfl]
    simp only
    generalize ys.getD k 0 = y
    have h1 := val_set hx ((a * y + x + c) % 4294967296)
    have h2 : 4294967296 ^ (off + (k + 1)) * ((a * y + x + c) / 4294967296) = 4294967296 ^ (off + k) * (4294967296 * ((a * y + x + c) / 4294967296)) := by
      rw [← Nat.add_assoc, Nat.pow_succ, Nat.mul_assoc]
    have h3 : 4294967296 ^ (off + k) * ((a * y + x + c) % 4294967296) + 4294967296 ^ (off + k) * (4294967296 * ((a * y + x + c) / 4294967296)) = 4294967296 ^ (off + k) * (a * y) + 4294967296 ^ (off + k) * x + 4294967296 ^ (off + k) * c := by
      rw [← Nat.mul_add, Nat.mod_add_div, Nat.mul_add, Nat.mul_add]
    have h4 : 4294967296 ^ off * (a * (val (ys.take k) + 4294967296 ^ k * y)) = 4294967296 ^ off * (a * val (ys.take k)) + 4294967296 ^ (off + k) * (a * y) := by
      rw [Nat.mul_add, Nat.mul_add, Nat.pow_add]
      congr 1
      rw [Nat.mul_assoc]
      congr 1
      rw [Nat.mul_left_comm]
    rw [h2, h4]
    omega

/-- What Mul has done behind i rows. -/
def mulTo (xs ys : List Nat) : Nat → List Nat
  | 0 => List.replicate (xs.length + ys.length) 0
  | i + 1 =>
    let p := foldTo (mulTo xs ys i) i ys (xs.getD i 0) ys.length
    p.1.set (i + ys.length) p.2
theorem mulTo_length (xs ys : List Nat) (i : Nat) : (mulTo xs ys i).length = xs.length + ys.length := by
  induction i with
  | zero => simp [mulTo]
  | succ i ih => simp [mulTo, foldTo_length, ih]
theorem foldTo_get {cs ys : List Nat} {off a k i : Nat} (h : i < off ∨ off + k ≤ i) : (foldTo cs off ys a k).1[i]? = cs[i]? := by
  induction k with
  | zero => rfl
  | succ k ih =>
    simp only [foldTo]
    rw [List.getElem?_set_ne (by omega)]
    exact ih (by omega)
theorem mulTo_ok {xs ys : List Nat} (lx : Lim 4294967296 xs) (ly : Lim 4294967296 ys) {i : Nat} (hi : i ≤ xs.length) :
    val (mulTo xs ys i) = val (xs.take i) * val ys ∧ Lim 4294967296 (mulTo xs ys i) ∧ ∀ j z, i + ys.length ≤ j → (mulTo xs ys i)[j]? = some z → z = 0 := by
  induction i with
  | zero =>
    refine ⟨by simp [mulTo, val_replicate, val], Lim.replicate (by omega), fun j z _ hz => ?_⟩
    rw [mulTo, List.getElem?_replicate] at hz
    split at hz
    · injection hz with hz; exact hz.symm
    · cases hz
  | succ i ih =>
    obtain ⟨h1, h2, h3⟩ := ih (by omega)
    have hlen := mulTo_length xs ys i
    have ha := getD_lim lx (by omega) i
    have hfl := foldTo_length (mulTo xs ys i) i ys (xs.getD i 0) ys.length
    have hfv := foldTo_val (cs := mulTo xs ys i) (off := i) (ys := ys) (a := xs.getD i 0) (k := ys.length) (by omega)
    have hfm := foldTo_lim (mulTo xs ys i) i ys (xs.getD i 0) ys.length h2
    have hfc := foldTo_carry (mulTo xs ys i) i ys (xs.getD i 0) ys.length ha h2 ly
    rw [List.take_length] at hfv
    obtain ⟨z, hz⟩ := get_of_lt (xs := (foldTo (mulTo xs ys i) i ys (xs.getD i 0) ys.length).1) (i := i + ys.length) (by omega)
    have hz0 : z = 0 := by
      rw [foldTo_get (.inr (Nat.le_refl _))] at hz
      exact h3 _ z (Nat.le_refl _) hz
    subst hz0
    refine ⟨?_, ?_, fun j z hj hzj => ?_⟩
    · have h5 := val_set hz (foldTo (mulTo xs ys i) i ys (xs.getD i 0) ys.length).2
      show val ((foldTo (mulTo xs ys i) i ys (xs.getD i 0) ys.length).1.set (i + ys.length) (foldTo (mulTo xs ys i) i ys (xs.getD i 0) ys.length).2) = _
      rw [val_take_succ (xs := xs) (k := i) rfl, Nat.add_mul, ← h1]
      rw [Nat.mul_zero, Nat.add_zero] at h5
      rw [h5, hfv]
      congr 1
      rw [← Nat.mul_assoc]
    · exact hfm.set hfc
    · simp only [mulTo] at hzj
      rw [List.getElem?_set_ne (by omega), foldTo_get (.inr (by omega))] at hzj
      exact h3 j z (by omega) hzj

theorem mulTo_succ {xs ys : List Nat} {i a : Nat} (h : xs[i]? = some a) : mulTo xs ys (i + 1) = (foldTo (mulTo xs ys i) i ys a ys.length).1.set (i + ys.length) (foldTo (mulTo xs ys i) i ys a ys.length).2 := by
  have e : xs.getD i 0 = a := by rw [List.getD_eq_getElem?_getD, h]; rfl
  simp only [mulTo, e]
end Go.Proofs.Ytfclpieijbgodaa
