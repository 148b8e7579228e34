/-
  Plain lists: one round of Montgomery's product on a row of limbs. No program is walked here.
-/
import Derived.Test.YtfclpieijbgodaaMonP
namespace Go.Proofs.Ytfclpieijbgodaa
set_option linter.unusedVariables false
set_option linter.unusedSimpArgs false

/-- The two limbs behind n have taken a limb more. -/
def add2 (ds : List Nat) (n c : Nat) : List Nat := (ds.set n ((ds.getD n 0 + c) % 4294967296)).set (n + 1) ((ds.getD (n + 1) 0 + (ds.getD n 0 + c) / 4294967296) % 4294967296)
theorem add2_eq {ds : List Nat} {n c a0 a1 : Nat} (h0 : ds[n]? = some a0) (h1 : ds[n + 1]? = some a1) : add2 ds n c = (ds.set n ((a0 + c) % 4294967296)).set (n + 1) ((a1 + (a0 + c) / 4294967296) % 4294967296) := by
  unfold add2
  rw [List.getD_eq_getElem?_getD, List.getD_eq_getElem?_getD, h0, h1]
  rfl
theorem add2_ok {ds : List Nat} {n c : Nat} (hl : ds.length = n + 2) (ld : Lim 4294967296 ds) (hc : c < 4294967296) (hlt : val ds + 4294967296 ^ n * c < 4294967296 ^ (n + 2)) :
    (add2 ds n c).length = n + 2 ∧ Lim 4294967296 (add2 ds n c) ∧ val (add2 ds n c) = val ds + 4294967296 ^ n * c := by
  obtain ⟨a0, h0⟩ := get_of_lt (xs := ds) (i := n) (by omega)
  obtain ⟨a1, h1⟩ := get_of_lt (xs := ds) (i := n + 1) (by omega)
  have b0 := ld.get h0
  have b1 := ld.get h1
  rw [add2_eq h0 h1]
  have k1 := val_set h0 ((a0 + c) % 4294967296)
  have k2 := val_set (xs := ds.set n ((a0 + c) % 4294967296)) (i := n + 1) (x := a1) (by rw [List.getElem?_set_ne (by omega)]; exact h1) ((a1 + (a0 + c) / 4294967296) % 4294967296)
  have k3 := val_split ds n (by omega)
  rw [val_drop_succ h0, val_drop_succ h1, List.drop_of_length_le (by omega)] at k3
  have hq : a1 + (a0 + c) / 4294967296 < 4294967296 := by
    rcases Nat.lt_or_ge (a1 + (a0 + c) / 4294967296) 4294967296 with h | h
    · exact h
    · exfalso
      have e1 : a1 = 4294967295 := by omega
      have e2 : 4294967296 ≤ a0 + c := by omega
      have e3 : 4294967296 ^ n * 4294967296 ≤ 4294967296 ^ n * (a0 + c) := Nat.mul_le_mul_left _ e2
      rw [Nat.mul_add] at e3
      subst e1
      rw [Nat.pow_succ, Nat.pow_succ] at hlt
      simp only [val, Nat.mul_zero, Nat.add_zero] at k3
      rw [Nat.mul_add, ← Nat.mul_assoc] at k3
      generalize 4294967296 ^ n * a0 = u at *
      generalize 4294967296 ^ n * c = v at *
      generalize 4294967296 ^ n = p at *
      omega
  rw [Nat.mod_eq_of_lt hq] at k2 ⊢
  refine ⟨by simp [hl], (ld.set (Nat.mod_lt _ (by omega))).set hq, ?_⟩
  have e4 : 4294967296 ^ n * ((a0 + c) % 4294967296) + 4294967296 ^ (n + 1) * ((a0 + c) / 4294967296) = 4294967296 ^ n * a0 + 4294967296 ^ n * c := by
    rw [Nat.pow_succ, Nat.mul_assoc, ← Nat.mul_add, Nat.mod_add_div, Nat.mul_add]
  rw [Nat.mul_add] at k2
  omega
/-- A row times one limb is added. -/
def mulAdd (ts ys : List Nat) (n a : Nat) : List Nat := add2 (foldTo ts 0 ys a n).1 n (foldTo ts 0 ys a n).2
theorem mulAdd_ok {ts ys : List Nat} {n a : Nat} (hl : ts.length = n + 2) (hy : ys.length = n) (lt : Lim 4294967296 ts) (ly : Lim 4294967296 ys) (ha : a < 4294967296) (hlt : val ts + a * val ys < 4294967296 ^ (n + 2)) :
    (mulAdd ts ys n a).length = n + 2 ∧ Lim 4294967296 (mulAdd ts ys n a) ∧ val (mulAdd ts ys n a) = val ts + a * val ys := by
  have h1 := foldTo_val (cs := ts) (ys := ys) (off := 0) (a := a) (k := n) (by omega)
  have h2 := foldTo_length ts 0 ys a n
  have h3 := foldTo_lim ts 0 ys a n lt
  have h4 := foldTo_carry ts 0 ys a n ha lt ly
  rw [List.take_of_length_le (by omega)] at h1
  simp only [Nat.zero_add, Nat.pow_zero, Nat.one_mul] at h1
  obtain ⟨g1, g2, g3⟩ := add2_ok (ds := (foldTo ts 0 ys a n).1) (n := n) (c := (foldTo ts 0 ys a n).2) (by rw [h2, hl]) h3 h4 (by omega)
  exact ⟨g1, g2, by unfold mulAdd; rw [g3]; omega⟩
theorem val_head {cs : List Nat} {x : Nat} (lc : Lim 4294967296 cs) (h : cs[0]? = some x) : x = val cs % 4294967296 := by
  have h1 := val_drop_succ h
  rw [List.drop_zero] at h1
  have := lc.get h
  omega
/-- A limb is cut off at the bottom. -/
theorem shift_ok {cs : List Nat} {n : Nat} (hl : cs.length = n + 2) (lc : Lim 4294967296 cs) :
    (cs.drop 1 ++ [0]).length = n + 2 ∧ Lim 4294967296 (cs.drop 1 ++ [0]) ∧ val (cs.drop 1 ++ [0]) = val cs / 4294967296 := by
  obtain ⟨x, hx⟩ := get_of_lt (xs := cs) (i := 0) (by omega)
  have h1 := val_drop_succ hx
  rw [List.drop_zero] at h1
  have := lc.get hx
  refine ⟨by simp [hl], (lc.drop 1).append (fun z hz => by simp at hz; omega), ?_⟩
  rw [val_append]
  simp only [val, Nat.mul_zero, Nat.add_zero, Nat.zero_add] at h1 ⊢
  omega
theorem shift_cells {cs : List Nat} {n : Nat} (hl : cs.length = n + 2) : (cs.take 0 ++ cs.drop 1 ++ cs.drop (0 + (n + 1))).set (n + 1) 0 = cs.drop 1 ++ [0] := by
  have h1 : (cs.drop 1).length = n + 1 := by simp [hl]
  rw [List.take_zero, List.nil_append, List.set_append_right _ _ (by omega), h1, Nat.sub_self, Nat.zero_add]
  congr 1
  obtain ⟨x, hx⟩ : ∃ x, cs.drop (n + 1) = [x] := List.length_eq_one_iff.1 (by simp [hl])
  rw [hx]
  rfl
/-- One round. -/
theorem round_ok {ts ys ms : List Nat} {n a ninv : Nat} (hl : ts.length = n + 2) (hy : ys.length = n) (hm : ms.length = n) (lt : Lim 4294967296 ts) (ly : Lim 4294967296 ys) (lm : Lim 4294967296 ms) (ha : a < 4294967296)
    (h : 4294967296 ∣ val ms * ninv + 1) (hT : val ts < 2 * val ms) (hY : val ys < val ms) :
    (mulAdd ts ys n a).length = n + 2 ∧ Lim 4294967296 (mulAdd ts ys n a) ∧ val (mulAdd ts ys n a) = val ts + a * val ys ∧
    (mulAdd (mulAdd ts ys n a) ms n (redU ninv (val ts + a * val ys))).length = n + 2 ∧ Lim 4294967296 (mulAdd (mulAdd ts ys n a) ms n (redU ninv (val ts + a * val ys))) ∧
    val ((mulAdd (mulAdd ts ys n a) ms n (redU ninv (val ts + a * val ys))).drop 1 ++ [0]) = redStep (val ms) ninv (val ys) (val ts) a := by
  have hMb := val_lt lm
  rw [hm] at hMb
  have h1 : a * val ys ≤ 4294967295 * (val ms - 1) := Nat.mul_le_mul (by omega) (by omega)
  have h2 : redU ninv (val ts + a * val ys) * val ms ≤ 4294967295 * val ms := Nat.mul_le_mul_right _ (by have := redU_lt ninv (val ts + a * val ys); omega)
  have hbig : 4294967296 ^ (n + 2) = 4294967296 ^ n * 18446744073709551616 := by rw [Nat.pow_succ, Nat.pow_succ, Nat.mul_assoc]
  obtain ⟨g1, g2, g3⟩ := mulAdd_ok hl hy lt ly ha (by rw [hbig]; omega)
  obtain ⟨k1, k2, k3⟩ := mulAdd_ok (ts := mulAdd ts ys n a) (ys := ms) (a := redU ninv (val ts + a * val ys)) g1 hm g2 lm (redU_lt _ _) (by rw [g3, hbig]; omega)
  obtain ⟨-, -, s3⟩ := shift_ok k1 k2
  exact ⟨g1, g2, g3, k1, k2, by rw [s3, k3, g3]; rfl⟩
/-- The last step: the modulus is taken off. -/
theorem last_ok {ts ms : List Nat} {n : Nat} (hl : ts.length = n + 2) (hm : ms.length = n) (lt : Lim 4294967296 ts) (lm : Lim 4294967296 ms) (hT : val ts < 2 * val ms) (hle : val ms ≤ val ts) :
    val ((takeTo ts 0 ms n).1.take n) = val ts - val ms := by
  have h1 := takeTo_val (cs := ts) (ys := ms) (off := 0) (k := n) (by omega) lt lm
  rw [List.take_of_length_le (by omega)] at h1
  simp only [Nat.zero_add, Nat.pow_zero, Nat.one_mul] at h1
  have h2 := takeTo_lim ts 0 ms n lt
  have h3 := takeTo_length ts 0 ms n
  have h4 := val_split (takeTo ts 0 ms n).1 n (by omega)
  have h5 := val_split ts n (by omega)
  have h6 : (takeTo ts 0 ms n).1.drop n = ts.drop n := by
    apply List.ext_getElem?
    intro i
    rw [List.getElem?_drop, List.getElem?_drop, takeTo_get (.inr (by omega))]
  rw [h6] at h4
  have h7 := val_lt (h2.take n)
  rw [List.length_take, h3, Nat.min_eq_left (by omega)] at h7
  have h8 := val_lt lm
  rw [hm] at h8
  have h9 := takeTo_borrow ts 0 ms n
  generalize val ((takeTo ts 0 ms n).1.take n) = X at *
  generalize (takeTo ts 0 ms n).2 = b at *
  generalize hz : val (ts.drop n) = Z at *
  generalize 4294967296 ^ n = p at *
  have e1 : X + p * Z + val ms = val ts + p * b := by omega
  have hZ : Z ≤ 1 := by
    rcases Nat.lt_or_ge Z 2 with h | h
    · omega
    · have := Nat.mul_le_mul_left p h
      omega
  rcases (show b = 0 ∨ b = 1 by omega) with rfl | rfl
  · rcases (show Z = 0 ∨ Z = 1 by omega) with rfl | rfl
    · omega
    · omega
  · rcases (show Z = 0 ∨ Z = 1 by omega) with rfl | rfl
    · omega
    · omega
theorem top_ok {ts ms : List Nat} {n tn : Nat} (hl : ts.length = n + 2) (hm : ms.length = n) (lm : Lim 4294967296 ms) (hT : val ts < 2 * val ms) (h : ts[n]? = some tn) :
    (tn ≠ 0 → val ms ≤ val ts) ∧ (tn = 0 → val ts = val (ts.take n)) := by
  have h5 := val_split ts n (by omega)
  have h6 := val_drop_succ h
  have h8 := val_lt lm
  rw [hm] at h8
  rw [h6, Nat.mul_add] at h5
  generalize val (ts.drop (n + 1)) = Z at *
  generalize hp : 4294967296 ^ n = p at *
  constructor
  · intro h0
    have := Nat.mul_le_mul_left p (show 1 ≤ tn by omega)
    omega
  · rintro rfl
    rcases Nat.eq_zero_or_pos Z with rfl | hz
    · omega
    · have := Nat.mul_le_mul_left p (show 4294967296 ≤ 4294967296 * Z by omega)
      omega
end Go.Proofs.Ytfclpieijbgodaa
