/-
  MonP: Plain numbers: what is the same modulo a number; the negative inverse modulo 2^32; Montgomery's product. No program is walked here.
-/
import Derived.Test.YtchaahnhpeoomaaGreatQGNaB
import Derived.StillTailTactics
import Derived.RangeFuncNested
import Derived.RangeFuncBound
import Derived.RangeFuncCalls
import Derived.RangeFuncLeaves
import Derived.RangeFuncFrom
import Derived.Shelf.Abstract
import Derived.Shelf.RegionOpen
import Derived.WalkKit
import Derived.OwnWalkIn
import Derived.TacticsInMore
import Derived.LoopNIn
import Derived.LoopIn
import Derived.Deep.RegionHeld3
import Derived.Deep.DeepCutAuto
import Derived.Deep.CutRange
namespace Go.Proofs.YtchaahnhpeoomaaGreat
set_option linter.unusedVariables false
set_option linter.unusedSimpArgs false
set_option maxRecDepth 20000
def Cg (M a b : Nat) : Prop := a % M = b % M
section
variable {M a b c d : Nat}
theorem Cg.refl (M a : Nat) : Cg M a a := rfl
theorem Cg.symm (h : Cg M a b) : Cg M b a := Eq.symm h
theorem Cg.trans (h : Cg M a b) (k : Cg M b c) : Cg M a c := Eq.trans h k
theorem Cg.mul (h : Cg M a b) (k : Cg M c d) : Cg M (a * c) (b * d) := by
  unfold Cg at *
  rw [Nat.mul_mod, h, k, ← Nat.mul_mod]
theorem Cg.add (h : Cg M a b) (k : Cg M c d) : Cg M (a + c) (b + d) := by
  unfold Cg at *
  rw [Nat.add_mod, h, k, ← Nat.add_mod]
theorem Cg.mod (M a : Nat) : Cg M (a % M) a := Nat.mod_mod _ _
theorem Cg.eq (h : Cg M a b) (ha : a < M) (hb : b < M) : a = b := by
  unfold Cg at h
  rwa [Nat.mod_eq_of_lt ha, Nat.mod_eq_of_lt hb] at h
theorem Cg.of_add (q : Nat) : Cg M (a + q * M) a := by
  unfold Cg
  rw [Nat.add_mul_mod_self_right]
theorem Cg.cancel {R : Nat} (hc : R.Coprime M) (h : Cg M (a * R) (b * R)) : Cg M a b := by
  have key : ∀ {a b : Nat}, a ≤ b → Cg M (a * R) (b * R) → Cg M a b := by
    intro a b hab h
    have h1 : (b * R - a * R) % M = 0 := Nat.sub_mod_eq_zero_of_mod_eq h.symm
    rw [← Nat.sub_mul] at h1
    obtain ⟨q, hq⟩ := hc.symm.dvd_of_dvd_mul_right (Nat.dvd_of_mod_eq_zero h1)
    have h2 : b = a + q * M := by rw [Nat.mul_comm q M, ← hq]; omega
    rw [h2]
    exact (Cg.of_add q).symm
  rcases Nat.le_total a b with hab | hab
  · exact key hab h
  · exact (key hab h.symm).symm
end
def invStep (m0 v : Nat) : Nat := v * ((2 + (4294967296 - m0 * v % 4294967296)) % 4294967296) % 4294967296
def invTo (m0 : Nat) : Nat → Nat
  | 0 => 1
  | n + 1 => invStep m0 (invTo m0 n)
theorem invTo_lt (m0 n : Nat) : invTo m0 n < 4294967296 := by
  cases n with
  | zero => simp [invTo]
  | succ n => exact Nat.mod_lt _ (by omega)
theorem int_mod_form (x : Nat) : ∃ q : Int, ((x % 4294967296 : Nat) : Int) = (x : Int) - 4294967296 * q := ⟨(x : Int) / 4294967296, by omega⟩
theorem invStep_ok {m0 v k : Nat} (hk : 2 * k ≤ 32) (h : ((2 ^ k : Nat) : Int) ∣ (m0 : Int) * v - 1) : ((2 ^ (2 * k) : Nat) : Int) ∣ (m0 : Int) * (invStep m0 v : Nat) - 1 := by
  obtain ⟨e, he⟩ := h
  obtain ⟨q1, h1⟩ := int_mod_form (m0 * v)
  have hlt : m0 * v % 4294967296 < 4294967296 := Nat.mod_lt _ (by omega)
  obtain ⟨q2, h2⟩ := int_mod_form (2 + (4294967296 - m0 * v % 4294967296))
  obtain ⟨q3, h3⟩ := int_mod_form (v * ((2 + (4294967296 - m0 * v % 4294967296)) % 4294967296))
  have h4 : ((2 + (4294967296 - m0 * v % 4294967296) : Nat) : Int) = 2 + (4294967296 - ((m0 * v % 4294967296 : Nat) : Int)) := by omega
  rw [h4, h1] at h2
  have h5 : ((v * ((2 + (4294967296 - m0 * v % 4294967296)) % 4294967296) : Nat) : Int) = (v : Int) * ((2 + (4294967296 - m0 * v % 4294967296)) % 4294967296 : Nat) := Int.natCast_mul _ _
  rw [h5, h2] at h3
  have h6 : ((m0 * v : Nat) : Int) = (m0 : Int) * v := Int.natCast_mul _ _
  rw [h6] at h3
  have h7 : (m0 : Int) * v = 1 + ((2 ^ k : Nat) : Int) * e := by omega
  have hB : ∃ c : Int, (4294967296 : Int) = ((2 ^ (2 * k) : Nat) : Int) * c := by
    refine ⟨((2 ^ (32 - 2 * k) : Nat) : Int), ?_⟩
    rw [← Int.natCast_mul, ← Nat.pow_add, show 2 * k + (32 - 2 * k) = 32 by omega]
    rfl
  obtain ⟨c, hc⟩ := hB
  have hpp : ((2 ^ (2 * k) : Nat) : Int) = ((2 ^ k : Nat) : Int) * ((2 ^ k : Nat) : Int) := by rw [← Int.natCast_mul, ← Nat.pow_add, show 2 * k = k + k by omega]
  unfold invStep
  rw [h3]
  generalize ((2 ^ k : Nat) : Int) = p at *
  generalize ((2 ^ (2 * k) : Nat) : Int) = P at *
  generalize (m0 : Int) = m at *
  generalize (v : Int) = u at *
  refine ⟨c * (m * u * (1 + q1 - q2) - m * q3) - e * e, ?_⟩
  have e1 : m * (u * (2 + (4294967296 - (m * u - 4294967296 * q1)) - 4294967296 * q2) - 4294967296 * q3) - 1 = m * u * (2 - m * u) - 1 + 4294967296 * (m * u * (1 + q1 - q2) - m * q3) := by grind
  rw [e1, h7, hc]
  grind
theorem invTo_ok {m0 : Nat} (ho : m0 % 2 = 1) : 4294967296 ∣ m0 * ((4294967296 - invTo m0 5) % 4294967296) + 1 := by
  have h0 : ((2 ^ 1 : Nat) : Int) ∣ (m0 : Int) * (invTo m0 0 : Nat) - 1 := ⟨(m0 : Int) / 2, by simp [invTo]; omega⟩
  have h1 : ((2 ^ 2 : Nat) : Int) ∣ (m0 : Int) * (invTo m0 1 : Nat) - 1 := invStep_ok (k := 1) (by omega) h0
  have h2 : ((2 ^ 4 : Nat) : Int) ∣ (m0 : Int) * (invTo m0 2 : Nat) - 1 := invStep_ok (k := 2) (by omega) h1
  have h3 : ((2 ^ 8 : Nat) : Int) ∣ (m0 : Int) * (invTo m0 3 : Nat) - 1 := invStep_ok (k := 4) (by omega) h2
  have h4 : ((2 ^ 16 : Nat) : Int) ∣ (m0 : Int) * (invTo m0 4 : Nat) - 1 := invStep_ok (k := 8) (by omega) h3
  have h5 : ((2 ^ 32 : Nat) : Int) ∣ (m0 : Int) * (invTo m0 5 : Nat) - 1 := invStep_ok (k := 16) (by omega) h4
  have hlt := invTo_lt m0 5
  generalize invTo m0 5 = v at *
  obtain ⟨e, he⟩ := h5
  obtain ⟨q, hq⟩ := int_mod_form (4294967296 - v)
  have hv : ((4294967296 - v : Nat) : Int) = 4294967296 - (v : Int) := by omega
  rw [hv] at hq
  have hfin : (4294967296 : Int) ∣ ((m0 * ((4294967296 - v) % 4294967296) + 1 : Nat) : Int) := by
    rw [Int.natCast_add, Int.natCast_mul, hq]
    refine ⟨m0 * (1 - q) - e, ?_⟩
    have hp : ((2 ^ 32 : Nat) : Int) = 4294967296 := rfl
    rw [hp] at he
    grind
  exact Int.natCast_dvd_natCast.1 hfin
def redU (ninv S : Nat) : Nat := S % 4294967296 * ninv % 4294967296
def redStep (M ninv Y T a : Nat) : Nat := (T + a * Y + redU ninv (T + a * Y) * M) / 4294967296
theorem redU_lt (ninv S : Nat) : redU ninv S < 4294967296 := Nat.mod_lt _ (by omega)
theorem redU_ok {M ninv : Nat} (S : Nat) (h : 4294967296 ∣ M * ninv + 1) : (S + redU ninv S * M) % 4294967296 = 0 := by
  obtain ⟨q, hq⟩ := h
  have e1 : Cg 4294967296 (redU ninv S * M) (S * ninv * M) := ((Cg.mod _ _).trans ((Cg.mod _ S).mul (Cg.refl _ ninv))).mul (Cg.refl _ M)
  have e2 : Cg 4294967296 (S + redU ninv S * M) (S + S * ninv * M) := (Cg.refl _ S).add e1
  have e3 : S + S * ninv * M = 4294967296 * (S * q) := by
    have : S + S * ninv * M = S * (M * ninv + 1) := by rw [Nat.mul_add, Nat.mul_one, Nat.mul_assoc, Nat.mul_comm ninv M]; omega
    rw [this, hq, ← Nat.mul_assoc, Nat.mul_comm S, Nat.mul_assoc]
  rw [e3] at e2
  have e4 : (S + redU ninv S * M) % 4294967296 = 4294967296 * (S * q) % 4294967296 := e2
  rw [e4]
  exact Nat.mul_mod_right _ _
theorem redStep_mul {M ninv : Nat} (Y T a : Nat) (h : 4294967296 ∣ M * ninv + 1) : redStep M ninv Y T a * 4294967296 = T + a * Y + redU ninv (T + a * Y) * M :=
  Nat.div_mul_cancel (Nat.dvd_of_mod_eq_zero (redU_ok _ h))
theorem redStep_lt {M ninv Y T a : Nat} (h : 4294967296 ∣ M * ninv + 1) (hT : T < 2 * M) (hY : Y < M) (ha : a < 4294967296) : redStep M ninv Y T a < 2 * M := by
  have h1 := redStep_mul (M := M) Y T a h
  have h2 : a * Y ≤ 4294967295 * (M - 1) := Nat.mul_le_mul (by omega) (by omega)
  have h3 : redU ninv (T + a * Y) * M ≤ 4294967295 * M := Nat.mul_le_mul_right _ (by have := redU_lt ninv (T + a * Y); omega)
  omega
def redTo (M ninv Y : Nat) (xs : List Nat) : Nat → Nat
  | 0 => 0
  | i + 1 => redStep M ninv Y (redTo M ninv Y xs i) (xs.getD i 0)
theorem redTo_lt {M ninv Y : Nat} {xs : List Nat} (h : 4294967296 ∣ M * ninv + 1) (hY : Y < M) (lx : Lim 4294967296 xs) (i : Nat) : redTo M ninv Y xs i < 2 * M := by
  induction i with
  | zero => simp [redTo]; omega
  | succ i ih => exact redStep_lt h ih hY (getD_lim lx (by omega) i)
theorem redTo_mul {M ninv Y : Nat} {xs : List Nat} (h : 4294967296 ∣ M * ninv + 1) (i : Nat) : Cg M (redTo M ninv Y xs i * 4294967296 ^ i) (val (xs.take i) * Y) := by
  induction i with
  | zero => simp [redTo, val]; exact Cg.refl _ _
  | succ i ih =>
    rw [redTo, Nat.pow_succ, Nat.mul_comm (4294967296 ^ i), ← Nat.mul_assoc, redStep_mul _ _ _ h, val_take_succ rfl, Nat.add_mul, Nat.add_mul, Nat.add_mul]
    have e1 : Cg M (redU ninv (redTo M ninv Y xs i + xs.getD i 0 * Y) * M * 4294967296 ^ i) 0 := by
      show _ % M = 0 % M
      rw [Nat.mul_right_comm, Nat.mul_mod_left, Nat.zero_mod]
    have e2 := (ih.add (Cg.refl M (xs.getD i 0 * Y * 4294967296 ^ i))).add e1
    refine e2.trans ?_
    rw [Nat.add_zero, Nat.mul_right_comm, Nat.mul_comm (xs.getD i 0)]
    exact Cg.refl _ _
def mred (M ninv Y : Nat) (xs : List Nat) : Nat := if M ≤ redTo M ninv Y xs xs.length then redTo M ninv Y xs xs.length - M else redTo M ninv Y xs xs.length
theorem mred_lt {M ninv Y : Nat} {xs : List Nat} (h : 4294967296 ∣ M * ninv + 1) (hY : Y < M) (lx : Lim 4294967296 xs) : mred M ninv Y xs < M := by
  have := redTo_lt h hY lx xs.length
  unfold mred
  split <;> omega
theorem mred_mul {M ninv Y : Nat} {xs : List Nat} (h : 4294967296 ∣ M * ninv + 1) : Cg M (mred M ninv Y xs * 4294967296 ^ xs.length) (val xs * Y) := by
  have h1 := redTo_mul (Y := Y) (xs := xs) h xs.length
  rw [List.take_of_length_le (Nat.le_refl _)] at h1
  unfold mred
  split
  · rename_i hle
    refine Cg.trans ?_ h1
    have e : redTo M ninv Y xs xs.length * 4294967296 ^ xs.length = (redTo M ninv Y xs xs.length - M) * 4294967296 ^ xs.length + 4294967296 ^ xs.length * M := by
      rw [Nat.mul_comm _ M, ← Nat.add_mul]
      congr 1
      omega
    rw [e]
    exact (Cg.of_add _).symm
  · exact h1
theorem odd_coprime {M : Nat} (h : M % 2 = 1) (n : Nat) : (4294967296 ^ n).Coprime M := by
  have h2 : (2 : Nat).Coprime M := by
    unfold Nat.Coprime
    rw [Nat.gcd_rec, h]
    rfl
  rw [pow_limb]
  exact h2.pow_left _
def Rep (M R r z : Nat) : Prop := r < M ∧ Cg M r (z * R)
theorem Rep.mul {M R a b z y v : Nat} (hc : R.Coprime M) (ha : Rep M R a z) (hb : Rep M R b y) (hv : v < M) (h : Cg M (v * R) (a * b)) : Rep M R v (z * y) := by
  refine ⟨hv, Cg.cancel hc ?_⟩
  refine (h.trans (ha.2.mul hb.2)).trans ?_
  have : z * R * (y * R) = z * y * R * R := by grind
  rw [this]
  exact Cg.refl _ _
theorem Rep.out {M R a z v : Nat} (hc : R.Coprime M) (ha : Rep M R a z) (hv : v < M) (h : Cg M (v * R) (a * 1)) : v = z % M := by
  have h1 : Cg M v z := Cg.cancel hc (by rw [Nat.mul_one] at h; exact h.trans ha.2)
  have h2 : 0 < M := by omega
  exact (h1.trans (Cg.mod M z).symm).eq hv (Nat.mod_lt _ h2)
theorem Rep.into {M R S a z v : Nat} (hc : R.Coprime M) (hS : Cg M S (R * R)) (ha : Cg M a z) (hv : v < M) (h : Cg M (v * R) (a * S)) : Rep M R v z := by
  refine ⟨hv, Cg.cancel hc ?_⟩
  refine (h.trans (ha.mul hS)).trans ?_
  rw [← Nat.mul_assoc]
  exact Cg.refl _ _
end Go.Proofs.YtchaahnhpeoomaaGreat
namespace Go.Proofs.YtchaahnhpeoomaaGreat
set_option linter.unusedVariables false
set_option linter.unusedSimpArgs false
set_option maxRecDepth 20000
def add2 (ds : List Nat) (n c : Nat) : List Nat := (ds.set n ((ds.getD n 0 + c) % 4294967296)).set (n + 1) ((ds.getD (n + 1) 0 + (ds.getD n 0 + c) / 4294967296) % 4294967296)
theorem add2_eq {ds : List Nat} {n c a0 a1 : Nat} (h0 : ds[n]? = some a0) (h1 : ds[n + 1]? = some a1) : add2 ds n c = (ds.set n ((a0 + c) % 4294967296)).set (n + 1) ((a1 + (a0 + c) / 4294967296) % 4294967296) := by
  unfold add2
  rw [List.getD_eq_getElem?_getD, List.getD_eq_getElem?_getD, h0, h1]
  rfl
theorem add2_ok {ds : List Nat} {n c : Nat} (hl : ds.length = n + 2) (ld : Lim 4294967296 ds) (hc : c < 4294967296) (hlt : val ds + 4294967296 ^ n * c < 4294967296 ^ (n + 2)) :
    (add2 ds n c).length = n + 2 ∧ Lim 4294967296 (add2 ds n c) ∧ val (add2 ds n c) = val ds + 4294967296 ^ n * c := by
  obtain ⟨a0, h0⟩ := get_of_lt (xs := ds) (i := n) (by omega)
  obtain ⟨a1, h1⟩ := get_of_lt (xs := ds) (i := n + 1) (by omega)
  have b0 := ld.get h0
  have b1 := ld.get h1
  rw [add2_eq h0 h1]
  have k1 := val_set h0 ((a0 + c) % 4294967296)
  have k2 := val_set (xs := ds.set n ((a0 + c) % 4294967296)) (i := n + 1) (x := a1) (by rw [List.getElem?_set_ne (by omega)]; exact h1) ((a1 + (a0 + c) / 4294967296) % 4294967296)
  have k3 := val_split ds n (by omega)
  rw [val_drop_succ h0, val_drop_succ h1, List.drop_of_length_le (by omega)] at k3
  have hq : a1 + (a0 + c) / 4294967296 < 4294967296 := by
    rcases Nat.lt_or_ge (a1 + (a0 + c) / 4294967296) 4294967296 with h | h
    · exact h
    · exfalso
      have e1 : a1 = 4294967295 := by omega
      have e2 : 4294967296 ≤ a0 + c := by omega
      have e3 : 4294967296 ^ n * 4294967296 ≤ 4294967296 ^ n * (a0 + c) := Nat.mul_le_mul_left _ e2
      rw [Nat.mul_add] at e3
      subst e1
      rw [Nat.pow_succ, Nat.pow_succ] at hlt
      simp only [val, Nat.mul_zero, Nat.add_zero] at k3
      rw [Nat.mul_add, ← Nat.mul_assoc] at k3
      generalize 4294967296 ^ n * a0 = u at *
      generalize 4294967296 ^ n * c = v at *
      generalize 4294967296 ^ n = p at *
      omega
  rw [Nat.mod_eq_of_lt hq] at k2 ⊢
  refine ⟨by simp [hl], (ld.set (Nat.mod_lt _ (by omega))).set hq, ?_⟩
  have e4 : 4294967296 ^ n * ((a0 + c) % 4294967296) + 4294967296 ^ (n + 1) * ((a0 + c) / 4294967296) = 4294967296 ^ n * a0 + 4294967296 ^ n * c := by
    rw [Nat.pow_succ, Nat.mul_assoc, ← Nat.mul_add, Nat.mod_add_div, Nat.mul_add]
  rw [Nat.mul_add] at k2
  omega
def mulAdd (ts ys : List Nat) (n a : Nat) : List Nat := add2 (foldTo ts 0 ys a n).1 n (foldTo ts 0 ys a n).2
theorem mulAdd_ok {ts ys : List Nat} {n a : Nat} (hl : ts.length = n + 2) (hy : ys.length = n) (lt : Lim 4294967296 ts) (ly : Lim 4294967296 ys) (ha : a < 4294967296) (hlt : val ts + a * val ys < 4294967296 ^ (n + 2)) :
    (mulAdd ts ys n a).length = n + 2 ∧ Lim 4294967296 (mulAdd ts ys n a) ∧ val (mulAdd ts ys n a) = val ts + a * val ys := by
  have h1 := foldTo_val (cs := ts) (ys := ys) (off := 0) (a := a) (k := n) (by omega)
  have h2 := foldTo_length ts 0 ys a n
  have h3 := foldTo_lim ts 0 ys a n lt
  have h4 := foldTo_carry ts 0 ys a n ha lt ly
  rw [List.take_of_length_le (by omega)] at h1
  simp only [Nat.zero_add, Nat.pow_zero, Nat.one_mul] at h1
  obtain ⟨g1, g2, g3⟩ := add2_ok (ds := (foldTo ts 0 ys a n).1) (n := n) (c := (foldTo ts 0 ys a n).2) (by rw [h2, hl]) h3 h4 (by omega)
  exact ⟨g1, g2, by unfold mulAdd; rw [g3]; omega⟩
theorem val_head {cs : List Nat} {x : Nat} (lc : Lim 4294967296 cs) (h : cs[0]? = some x) : x = val cs % 4294967296 := by
  have h1 := val_drop_succ h
  rw [List.drop_zero] at h1
  have := lc.get h
  omega
theorem shift_ok {cs : List Nat} {n : Nat} (hl : cs.length = n + 2) (lc : Lim 4294967296 cs) :
    (cs.drop 1 ++ [0]).length = n + 2 ∧ Lim 4294967296 (cs.drop 1 ++ [0]) ∧ val (cs.drop 1 ++ [0]) = val cs / 4294967296 := by
  obtain ⟨x, hx⟩ := get_of_lt (xs := cs) (i := 0) (by omega)
  have h1 := val_drop_succ hx
  rw [List.drop_zero] at h1
  have := lc.get hx
  refine ⟨by simp [hl], (lc.drop 1).append (fun z hz => by simp at hz; omega), ?_⟩
  rw [val_append]
  simp only [val, Nat.mul_zero, Nat.add_zero, Nat.zero_add] at h1 ⊢
  omega
theorem shift_cells {cs : List Nat} {n : Nat} (hl : cs.length = n + 2) : (cs.take 0 ++ cs.drop 1 ++ cs.drop (0 + (n + 1))).set (n + 1) 0 = cs.drop 1 ++ [0] := by
  have h1 : (cs.drop 1).length = n + 1 := by simp [hl]
  rw [List.take_zero, List.nil_append, List.set_append_right _ _ (by omega), h1, Nat.sub_self, Nat.zero_add]
  congr 1
  obtain ⟨x, hx⟩ : ∃ x, cs.drop (n + 1) = [x] := List.length_eq_one_iff.1 (by simp [hl])
  rw [hx]
  rfl
theorem round_ok {ts ys ms : List Nat} {n a ninv : Nat} (hl : ts.length = n + 2) (hy : ys.length = n) (hm : ms.length = n) (lt : Lim 4294967296 ts) (ly : Lim 4294967296 ys) (lm : Lim 4294967296 ms) (ha : a < 4294967296)
    (h : 4294967296 ∣ val ms * ninv + 1) (hT : val ts < 2 * val ms) (hY : val ys < val ms) :
    (mulAdd ts ys n a).length = n + 2 ∧ Lim 4294967296 (mulAdd ts ys n a) ∧ val (mulAdd ts ys n a) = val ts + a * val ys ∧
    (mulAdd (mulAdd ts ys n a) ms n (redU ninv (val ts + a * val ys))).length = n + 2 ∧ Lim 4294967296 (mulAdd (mulAdd ts ys n a) ms n (redU ninv (val ts + a * val ys))) ∧
    val ((mulAdd (mulAdd ts ys n a) ms n (redU ninv (val ts + a * val ys))).drop 1 ++ [0]) = redStep (val ms) ninv (val ys) (val ts) a := by
  have hMb := val_lt lm
  rw [hm] at hMb
  have h1 : a * val ys ≤ 4294967295 * (val ms - 1) := Nat.mul_le_mul (by omega) (by omega)
  have h2 : redU ninv (val ts + a * val ys) * val ms ≤ 4294967295 * val ms := Nat.mul_le_mul_right _ (by have := redU_lt ninv (val ts + a * val ys); omega)
  have hbig : 4294967296 ^ (n + 2) = 4294967296 ^ n * 18446744073709551616 := by rw [Nat.pow_succ, Nat.pow_succ, Nat.mul_assoc]
  obtain ⟨g1, g2, g3⟩ := mulAdd_ok hl hy lt ly ha (by rw [hbig]; omega)
  obtain ⟨k1, k2, k3⟩ := mulAdd_ok (ts := mulAdd ts ys n a) (ys := ms) (a := redU ninv (val ts + a * val ys)) g1 hm g2 lm (redU_lt _ _) (by rw [g3, hbig]; omega)
  obtain ⟨-, -, s3⟩ := shift_ok k1 k2
  exact ⟨g1, g2, g3, k1, k2, by rw [s3, k3, g3]; rfl⟩
theorem last_ok {ts ms : List Nat} {n : Nat} (hl : ts.length = n + 2) (hm : ms.length = n) (lt : Lim 4294967296 ts) (lm : Lim 4294967296 ms) (hT : val ts < 2 * val ms) (hle : val ms ≤ val ts) :
    val ((takeTo ts 0 ms n).1.take n) = val ts - val ms := by
  have h1 := takeTo_val (cs := ts) (ys := ms) (off := 0) (k := n) (by omega) lt lm
  rw [List.take_of_length_le (by omega)] at h1
  simp only [Nat.zero_add, Nat.pow_zero, Nat.one_mul] at h1
  have h2 := takeTo_lim ts 0 ms n lt
  have h3 := takeTo_length ts 0 ms n
  have h4 := val_split (takeTo ts 0 ms n).1 n (by omega)
  have h5 := val_split ts n (by omega)
  have h6 : (takeTo ts 0 ms n).1.drop n = ts.drop n := by
    apply List.ext_getElem?
    intro i
    rw [List.getElem?_drop, List.getElem?_drop, takeTo_get (.inr (by omega))]
  rw [h6] at h4
  have h7 := val_lt (h2.take n)
  rw [List.length_take, h3, Nat.min_eq_left (by omega)] at h7
  have h8 := val_lt lm
  rw [hm] at h8
  have h9 := takeTo_borrow ts 0 ms n
  generalize val ((takeTo ts 0 ms n).1.take n) = X at *
  generalize (takeTo ts 0 ms n).2 = b at *
  generalize hz : val (ts.drop n) = Z at *
  generalize 4294967296 ^ n = p at *
  have e1 : X + p * Z + val ms = val ts + p * b := by omega
  have hZ : Z ≤ 1 := by
    rcases Nat.lt_or_ge Z 2 with h | h
    · omega
    · have := Nat.mul_le_mul_left p h
      omega
  rcases (show b = 0 ∨ b = 1 by omega) with rfl | rfl
  · rcases (show Z = 0 ∨ Z = 1 by omega) with rfl | rfl
    · omega
    · omega
  · rcases (show Z = 0 ∨ Z = 1 by omega) with rfl | rfl
    · omega
    · omega
theorem top_ok {ts ms : List Nat} {n tn : Nat} (hl : ts.length = n + 2) (hm : ms.length = n) (lm : Lim 4294967296 ms) (hT : val ts < 2 * val ms) (h : ts[n]? = some tn) :
    (tn ≠ 0 → val ms ≤ val ts) ∧ (tn = 0 → val ts = val (ts.take n)) := by
  have h5 := val_split ts n (by omega)
  have h6 := val_drop_succ h
  have h8 := val_lt lm
  rw [hm] at h8
  rw [h6, Nat.mul_add] at h5
  generalize val (ts.drop (n + 1)) = Z at *
  generalize hp : 4294967296 ^ n = p at *
  constructor
  · intro h0
    have := Nat.mul_le_mul_left p (show 1 ≤ tn by omega)
    omega
  · rintro rfl
    rcases Nat.eq_zero_or_pos Z with rfl | hz
    · omega
    · have := Nat.mul_le_mul_left p (show 4294967296 ≤ 4294967296 * Z by omega)
      omega
end Go.Proofs.YtchaahnhpeoomaaGreat
namespace Go.Proofs.YtchaahnhpeoomaaGreat
set_option linter.unusedVariables false
set_option linter.unusedSimpArgs false
set_option maxRecDepth 20000
open Go.RowKit
set_option maxHeartbeats 400000 in
theorem mfold_any (cs ys : List Nat) (g off n cap m c : Nat) (A : Option Addr) (a : Nat) (w : World) (hb : Whl .u32 129 w g cs) (hy : Rd .u32 w A ys) (ho : Off A ys g)
    (hm : m = ys.length) (hl : m ≤ 70000) (hn : m ≤ n) (hoff : off + m ≤ cs.length) (ha : a < 4294967296) (lc : Lim 4294967296 cs) (ly : Lim 4294967296 ys) :
    Calls Tryz.prog 160 #[.slice (some ⟨g, off, none⟩) n cap, .slice A m c, .int .u32 (a : Int)] w fun e w' =>
      e = .returned (.int .u32 ((foldTo cs off ys a m).2 : Int)) ∧ Whl .u32 129 w' g (foldTo cs off ys a m).1 ∧ w.grownBy w' (some g) := by
  subst hm
  go_enter Tryz.func160, Tryz.ntmps160
  go_wp2
  go_loopw [7, 13] (fun c i wr => ∃ k cy : Nat, ∃ ds, k ≤ ys.length ∧ i = .int .i64 k ∧ c = .int .u64 cy ∧ Hid (foldTo cs off ys a k = (ds, cy)) ∧ Whl .u32 129 wr g ds ∧ w.grownBy wr (some g)) (fun _ i _ => ys.length - (intOf i).toNat)
  case atStart => exact ⟨0, 0, cs, Nat.zero_le _, rfl, rfl, rfl, hb, only_refl _ _⟩
  case round =>
    obtain ⟨k, cy, ds, hk, rfl, rfl, hf, hbr, hgr⟩ := hrel
    have hcy : cy < 4294967296 := by have := foldTo_carry cs off ys a k ha lc ly; rwa [hf.out] at this
    by_cases hlt : k < ys.length
    · obtain ⟨y, hgy⟩ := get_of_lt hlt
      have hdl : off + k < ds.length := by have := foldTo_length cs off ys a k; rw [hf.out] at this; simp at this; omega
      obtain ⟨x, hgx⟩ := get_of_lt hdl
      have hyb := ly.get hgy
      have hxb : x < 4294967296 := by have := foldTo_lim cs off ys a k lc; rw [hf.out] at this; exact this.get hgx
      obtain ⟨b, o, rfl, hbw, hcy0⟩ := (hy.grown hgr (fun _ e => by injection e with e; subst e; exact ho)).pos hgy
      have hcell := hcy0 k y hgy
      have hcx := hbr.blk.cell hgx
      have hfx := hbr.blk.frozen hgx
      have hml := mul_lim ha hyb
      have hstep := Lib.hid (foldTo_succ hgy hf.out hgx)
      have hset := Lib.hid (hbr.set (off + k) ((a * y + x + cy) % 4294967296))
      clear hcy0 hgy hgx
      go_wp2
      go_roundw
      case rel => exact ⟨k + 1, _, _, by omega, by go_num, by go_num, hstep.out, hset.out, only_set hgr (.inl rfl) _⟩
      case measure => simp [intOf]; omega
    · obtain rfl : k = ys.length := by omega
      have hend := Lib.hid hf.out
      go_wp2
      go_ret
      rw [hend.out]
      exact ⟨rfl, hbr, hgr⟩
set_option maxHeartbeats 400000 in
theorem mnarrow_any (A : Option Addr) (n c : Nat) (xs : List Nat) (w : World) (hn : n = xs.length) (hc : n ≤ c) (hl : c ≤ 9223372036854775807) (hx : Rd .u32 w A xs) (lx : Lim 4294967296 xs) :
    Calls Tryz.prog 142 #[.slice A n c] w (TrimPost A n xs w) := by
  subst hn
  go_enter Tryz.func142, Tryz.ntmps142
  go_wp2
  go_loop [3] (fun t => ∃ k : Nat, t = .int .i64 k ∧ k ≤ xs.length ∧ Hid (∀ i x, k ≤ i → xs[i]? = some x → x = 0)) (fun t => (intOf t).toNat)
  case atStart => exact ⟨xs.length, rfl, Nat.le_refl _, fun i x hi hg => by have := (List.getElem?_eq_some_iff.1 hg).1; omega⟩
  case round =>
    obtain ⟨k, rfl, hk, h0⟩ := hrel
    rcases Nat.eq_zero_or_pos k with rfl | hp
    · go_wp2
      go_ret
      exact ⟨0, rfl, Nat.zero_le _, take_limbs lx (Nat.zero_le _) h0.out (.inl rfl), rfl⟩
    · obtain ⟨x, hgx⟩ := get_of_lt (xs := xs) (i := k - 1) (by omega)
      obtain ⟨b, o, rfl, hbw, hcl⟩ := hx.pos hgx
      have hcell := hcl _ x hgx
      have HG := Lib.hid hgx
      clear hcl hgx
      by_cases hx0 : x = 0
      · subst hx0
        go_wp2
        go_round
        case rel => exact ⟨k - 1, by go_num, by omega, fun i x hi hg => by
          rcases Nat.lt_or_ge i k with h | h
          · obtain rfl : i = k - 1 := by omega
            have := HG.out
            rw [this] at hg
            injection hg with hg
            exact hg.symm
          · exact h0.out i x h hg⟩
        case measure => simp [intOf]; omega
      · have hx1 : ((x : Int) == 0) = false := by simpa using hx0
        go_wp2
        go_ret
        exact ⟨k, rfl, hk, take_limbs lx hk h0.out (.inr (by rw [HG.out]; simpa using hx0)), rfl⟩
def DoneWhl (g : Nat) (cs : List Nat) (w : World) (e : Ending) (w' : World) : Prop := e = .returned (.tuple #[]) ∧ Whl .u32 129 w' g cs ∧ w.grownBy w' (some g)
theorem madd_any (cs : List Nat) (g off n cap x0 x1 a : Nat) (w : World) (hb : Whl .u32 129 w g cs) (h0 : cs[off]? = some x0) (h1 : cs[off + 1]? = some x1) (hn : 2 ≤ n) (hn2 : n ≤ 70000) (hx0 : x0 < 4294967296) (hx1 : x1 < 4294967296) (ha : a < 4294967296) :
    Calls Tryz.prog 161 #[.slice (some ⟨g, off, none⟩) n cap, .int .u32 (a : Int)] w (DoneWhl g ((cs.set off ((x0 + a) % 4294967296)).set (off + 1) ((x1 + (x0 + a) / 4294967296) % 4294967296)) w) := by
  have hc0 := hb.blk.cell h0
  have hf0 := hb.blk.frozen h0
  have hc1 := hb.blk.cell h1
  have hf1 := hb.blk.frozen h1
  have hs := hb.set off ((x0 + a) % 4294967296)
  have hs2 := hs.set (off + 1) ((x1 + (x0 + a) / 4294967296) % 4294967296)
  have hg := only_set (only_set (only_refl w (some g)) (p := ⟨g, off, none⟩) (.inl rfl) (.int .u32 (((x0 + a) % 4294967296 : Nat) : Int))) (p := ⟨g, off + 1, none⟩) (.inl rfl) (.int .u32 (((x1 + (x0 + a) / 4294967296) % 4294967296 : Nat) : Int))
  have e1 : (((x0 + a) % 4294967296 : Nat) : Int) = ((x0 : Int) + (a : Int)) % 4294967296 := by simp
  have e2 : (((x1 + (x0 + a) / 4294967296) % 4294967296 : Nat) : Int) = ((x1 : Int) + ((x0 : Int) + (a : Int)) / 4294967296) % 4294967296 := by simp
  rw [e1, e2] at hs2 hg
  have HS := Lib.hid hs2
  have HG := Lib.hid hg
  have i0 : (0 : Int) < (n : Int) := by omega
  have i1 : (1 : Int) < (n : Int) := by omega
  clear hs hs2 hg h0 h1 e1 e2
  go_enter Tryz.func161, Tryz.ntmps161
  go_wp2
  go_end0
  exact ⟨rfl, HS.out, HG.out⟩
set_option maxHeartbeats 800000 in
theorem munder_any (A B : Option Addr) (n m c d : Nat) (xs ys : List Nat) (w : World) (hn : n = xs.length) (hm : m = xs.length) (hlen : xs.length = ys.length) (hl : n ≤ 70000) (hx : Rd .u32 w A xs) (hy : Rd .u32 w B ys)
    (lx : Lim 4294967296 xs) (ly : Lim 4294967296 ys) :
    Calls Tryz.prog 162 #[.slice A n c, .slice B m d] w (Quiet (.bool (decide (val xs < val ys))) w) := by
  subst hn
  subst hm
  have hle1 : xs.length ≤ ys.length := by omega
  have hle2 : ys.length ≤ xs.length := by omega
  clear hlen
  go_enter Tryz.func162, Tryz.ntmps162
  go_wp2
  go_loopw [5] (fun t wr => ∃ k q : Nat, t = .int .i64 ((k : Int) - 1) ∧ k ≤ xs.length ∧ Hid (xs.drop k = ys.drop k) ∧ wr = w.drewN q) (fun t _ => (intOf t + 1).toNat)
  case atStart => exact ⟨xs.length, 0, rfl, Nat.le_refl _, by show _ = _; rw [List.drop_of_length_le (Nat.le_refl _), List.drop_of_length_le (by omega)], rfl⟩
  case round =>
    obtain ⟨k, q, rfl, hk, ht, rfl⟩ := hrel
    rcases Nat.eq_zero_or_pos k with rfl | hp
    · have he : xs = ys := by simpa using ht.out
      subst he
      have HR := Lib.hid (show decide (val xs < val xs) = false by simp)
      go_wp2
      go_ret
      first | exact Quiet.mk rfl _ | exact Quiet.mk (congrArg Value.bool HR.out.symm) _ | exact Quiet.mk2 (congrArg Value.bool HR.out.symm) _ _ | exact Quiet.mk3 (congrArg Value.bool HR.out.symm) _ _ _
    · obtain ⟨k, rfl⟩ : ∃ j, k = j + 1 := ⟨k - 1, by omega⟩
      have hlt : k < xs.length := by omega
      have hlt' : k < ys.length := by omega
      obtain ⟨x, hgx⟩ := get_of_lt hlt
      obtain ⟨y, hgy⟩ := get_of_lt hlt'
      obtain ⟨b, o, rfl, hbw, hcx⟩ := hx.pos hgx
      obtain ⟨b', o', rfl, hbw', hcy⟩ := hy.pos hgy
      have hcellx := hcx k x hgx
      have hcelly := hcy k y hgy
      have hk1 : (((k + 1 : Nat) : Int) - 1) = (k : Int) := by omega
      rw [hk1]
      have HX := Lib.hid hgx
      have HY := Lib.hid hgy
      clear hcx hcy hgx hgy hk1
      rcases Nat.lt_trichotomy x y with hxy | hxy | hxy
      · have hne : ((x : Int) != (y : Int)) = true := by simp; omega
        have h1 := val_lt_of lx HX.out HY.out ht.out hxy
        have HR := Lib.hid (show decide (val xs < val ys) = true by simp; omega)
        clear h1
        go_wp2
        go_quiet (fail)
        go_wp2
        go_quiet (fail)
        go_wp2
        go_ret
        exact Quiet.mk3 (congrArg Value.bool (by rw [HR.out])) _ _ _
      · subst hxy
        have hne : ((x : Int) != (x : Int)) = false := by simp
        go_wp2
        go_quiet (fail)
        go_wp2
        go_roundw
        case rel => exact ⟨k, _, by go_num, by omega, by
          have h1 := HX.out
          have h2 := HY.out
          rw [List.getElem?_eq_getElem hlt] at h1
          rw [List.getElem?_eq_getElem hlt'] at h2
          injection h1 with h1
          injection h2 with h2
          show _ = _
          rw [List.drop_eq_getElem_cons hlt, List.drop_eq_getElem_cons hlt', h1, h2, ht.out], rfl⟩
        case measure => simp [intOf] <;> omega
      · have hne : ((x : Int) != (y : Int)) = true := by simp; omega
        have h1 := val_lt_of ly HY.out HX.out ht.out.symm hxy
        have HR := Lib.hid (show decide (val xs < val ys) = false by simp; omega)
        clear h1
        go_wp2
        go_quiet (fail)
        go_wp2
        go_quiet (fail)
        go_wp2
        go_ret
        exact Quiet.mk3 (congrArg Value.bool (by rw [HR.out]; exact decide_eq_false (by omega))) _ _ _
set_option maxHeartbeats 800000 in
theorem mtake_any (cs ys : List Nat) (g off n cap m c : Nat) (A : Option Addr) (w : World) (hb : Whl .u32 129 w g cs) (hy : Rd .u32 w A ys) (ho : Off A ys g)
    (hm : m = n) (hmy : ys.length = n) (hl : n ≤ 70000) (hoff : off + n ≤ cs.length) (lc : Lim 4294967296 cs) (ly : Lim 4294967296 ys) :
    Calls Tryz.prog 163 #[.slice (some ⟨g, off, none⟩) n cap, .slice A m c] w (DoneWhl g (takeTo cs off ys n).1 w) := by
  subst hm
  have hmy1 := Lib.hid hmy
  clear hmy
  go_enter Tryz.func163, Tryz.ntmps163
  go_wp2
  go_loopw [4, 9] (fun b i wr => ∃ k cy : Nat, ∃ ds, k ≤ m ∧ i = .int .i64 k ∧ b = .int .i64 (-(cy : Int)) ∧ cy ≤ 1 ∧ Hid (takeTo cs off ys k = (ds, cy)) ∧ Whl .u32 129 wr g ds ∧ w.grownBy wr (some g)) (fun _ i _ => m - (intOf i).toNat)
  case atStart => exact ⟨0, 0, cs, Nat.zero_le _, rfl, rfl, by omega, rfl, hb, only_refl _ _⟩
  case round =>
    obtain ⟨k, cy, ds, hk, rfl, rfl, hcy, hf, hbr, hgr⟩ := hrel
    by_cases hlt : k < m
    · have hdl : off + k < ds.length := by have := takeTo_length cs off ys k; rw [hf.out] at this; simp at this; omega
      obtain ⟨x, hgx⟩ := get_of_lt hdl
      have hxb : x < 4294967296 := by have := takeTo_lim cs off ys k lc; rw [hf.out] at this; exact this.get hgx
      have hcx := hbr.blk.cell hgx
      have hfx := hbr.blk.frozen hgx
      obtain ⟨y, hgy⟩ := get_of_lt (xs := ys) (i := k) (by rw [hmy1.out]; exact hlt)
      have hyb := ly.get hgy
      obtain ⟨b, o, rfl, hbw, hcy0⟩ := (hy.grown hgr (fun _ e => by injection e with e; subst e; exact ho)).pos hgy
      have hcell := hcy0 k y hgy
      have hstep := Lib.hid (takeTo_succ (y := y) (by simp [List.getD_eq_getElem?_getD, hgy]) hf.out hgx)
      have HX := Lib.hid hgx
      obtain ⟨D, hD⟩ : ∃ D : Int, D = (x : Int) - (y : Int) + -(cy : Int) := ⟨_, rfl⟩
      have f1 : (x : Int) - (y : Int) + -(cy : Int) = D := hD.symm
      have hdb := diff_borrow x y cy hxb hyb hcy
      have hdl2 : diff32 x y cy < 4294967296 := by unfold diff32; exact Nat.mod_lt _ (by omega)
      have hbl2 := borrow32_le x y cy
      have f2 : D % 4294967296 = (diff32 x y cy : Int) := by omega
      have f3 : D / 4294967296 = -(borrow32 x y cy : Int) := by omega
      have g1 : -4294967296 ≤ D := by omega
      have g2 : D < 4294967296 := by omega
      clear hcy0 hgy hgx hD hdb
      go_wp2_with fail
      go_quiet (fail)
      have hset := (hbr.drewN nq).set (off + k) (diff32 x y cy)
      have HS := Lib.hid hset
      have hgr2 := only_drewN hgr nq
      replace hcx : (wr.drewN nq).cell? ⟨g, off + k, none⟩ = some (.int .u32 (x : Int)) := hcx
      replace hfx : (wr.drewN nq).frozen? ⟨g, off + k, none⟩ = false := hfx
      clear hset hbr hgr hcell
      generalize wr.drewN nq = w6 at *
      go_wp2_with fail
      go_roundw
      case rel => exact ⟨k + 1, borrow32 x y cy, _, by omega, by go_num, rfl, hbl2, hstep.out, HS.out, only_set hgr2 (.inl rfl) _⟩
      case measure => simp [intOf] <;> omega
    · obtain rfl : k = m := by omega
      have hend := Lib.hid hf.out
      go_wp2_with fail
      go_end0
      refine ⟨rfl, ?_, hgr⟩
      rw [hend.out]
      exact hbr
end Go.Proofs.YtchaahnhpeoomaaGreat
namespace Go.Proofs.YtchaahnhpeoomaaGreat
set_option linter.unusedVariables false
set_option linter.unusedSimpArgs false
set_option maxRecDepth 20000
open Go.RowKit
def MRd (w : World) (g : Nat) (ms : List Nat) (ninv : Nat) : Prop :=
  ∃ A c, g < w.heap.size ∧ w.cell? ⟨g, 0, none⟩ = some (.slice A ms.length c) ∧ w.cell? ⟨g, 1, none⟩ = some (.int .u32 (ninv : Int)) ∧ Rd .u32 w A ms
theorem MRd.below {w w' : World} {g : Nat} {ms : List Nat} {ninv : Nat} (h : MRd w g ms ninv) (hb : Below w.heap.size w w') : MRd w' g ms ninv := by
  obtain ⟨A, c, h0, h1, h2, h3⟩ := h
  exact ⟨A, c, Nat.lt_of_lt_of_le h0 hb.size, (hb.cell (p := ⟨g, 0, none⟩) h0).trans h1, (hb.cell (p := ⟨g, 1, none⟩) h0).trans h2, h3.below hb⟩
def GivesRow (n v : Nat) (w : World) (e : Ending) (w' : World) : Prop := ∃ rs, rs.length = n ∧ Lim 4294967296 rs ∧ val rs = v ∧ Gives .u32 rs w e w'
theorem wide_cells (xs : List Nat) (n : Nat) (h : xs.length ≤ n) : (List.replicate n 0).take 0 ++ xs ++ (List.replicate n 0).drop (0 + xs.length) = xs ++ List.replicate (n - xs.length) 0 := by simp
theorem wide_val (xs : List Nat) (m : Nat) : val (xs ++ List.replicate m 0) = val xs := by rw [val_append, val_replicate]; simp
set_option maxHeartbeats 400000 in
theorem mwide_any (g : Nat) (ms : List Nat) (ninv : Nat) (X : Option Addr) (n c : Nat) (xs : List Nat) (w : World) (hM : MRd w g ms ninv) (hl : ms.length ≤ 60000) (hn : n = xs.length) (hnl : xs.length ≤ ms.length) (hx : Rd .u32 w X xs) (lx : Lim 4294967296 xs) :
    Calls Tryz.prog 139 #[.pointer (some ⟨g, 0, none⟩), .slice X n c] w (GivesRow ms.length (val xs) w) := by
  subst hn
  obtain ⟨A, cA, hg, h0, h1, hA⟩ := hM
  go_enter Tryz.func139, Tryz.ntmps139
  go_wp2_with (first
    | (at_make; refine wpList_make_ints _ rfl _ _ _ rfl .u32 129 4 Tryz.underlying128 info_u32 _ _ ms.length _ _ rfl rfl (by omega) (by omega) (by omega) (by omega) ?_; intro gt w1 hgt hw1 hs1 hb1)
    | ((with_reducible show wpList _ _ _ _ _ _); refine wpList_copy_ints _ rfl (.tmp 12) (.tmp 13) _ _ rfl .u32 129 4 Tryz.underlying128 info_u32 gt 0 ms.length ms.length c X xs.length rfl rfl _ xs hw1 (hx.below hb1) rfl hnl (by simp; omega) w.heap.size w hb1 (by rw [hgt.out]; exact Nat.le_refl _) ?_; intro w2 hw2 hb2 hg2; have ew := Lib.hid (wide_cells xs ms.length hnl); rw [ew.out] at hw2))
  have HL := Lib.hid (show (xs ++ List.replicate (ms.length - xs.length) 0).length = ms.length by simp; omega)
  go_ret
  exact ⟨xs ++ List.replicate (ms.length - xs.length) 0, HL.out, lx.append (Lim.replicate (by omega)), wide_val xs _, some ⟨gt, 0, none⟩, ms.length, by rw [HL.out]; rfl, by rw [HL.out]; exact Nat.le_refl _, by simp only [maxLen]; omega, Own.of_blk hw2.blk (by rw [hgt.out]; exact Nat.le_refl _), hb2⟩
def mayOf (xs ms : List Nat) : Bool := isRight xs && decide (val xs < val ms)
set_option maxHeartbeats 400000 in
theorem mmay_any (g : Nat) (ms : List Nat) (ninv : Nat) (X : Option Addr) (n c : Nat) (xs : List Nat) (w : World) (hM : MRd w g ms ninv) (rm : isRight ms = true) (hn : n = xs.length) (hl : n ≤ 70000) (hx : Rd .u32 w X xs) (lx : Lim 4294967296 xs) (lm : Lim 4294967296 ms) :
    Calls Tryz.prog 138 #[.pointer (some ⟨g, 0, none⟩), .slice X n c] w (Quiet (.bool (mayOf xs ms)) w) := by
  subst hn
  obtain ⟨A, cA, hg, h0, h1, hA⟩ := hM
  have hml := isRight_len rm
  cases r : isRight xs with
  | false =>
    have HR := Lib.hid (show mayOf xs ms = false by simp [mayOf, r])
    go_enter Tryz.func138, Tryz.ntmps138
    go_wp2_with fail
    refine (right_any _ _ c xs _ rfl (by omega) hx).mono ?_
    rintro e w' ⟨rfl, rfl⟩
    go_wp2_with fail
    go_ret
    exact Quiet.mk0 (congrArg Value.bool HR.out.symm)
  | true =>
    obtain ⟨cm, hcm⟩ : ∃ cm, cm = cmpN (val xs) (val ms) := ⟨_, rfl⟩
    have HR := Lib.hid (show mayOf xs ms = decide (cm < 0) by rw [hcm]; simp [mayOf, r, cmpN_neg])
    have hc := Lib.hid (show Calls Tryz.prog 159 #[.slice X xs.length c, .slice A ms.length cA] w (Quiet (.int .i64 cm) w) by
      have := cmpAny_any X A _ _ c cA xs ms w rfl rfl hl (by omega) hx hA lx lm
      rw [if_pos ⟨r, rm⟩, ← hcm] at this
      exact this)
    clear hcm
    go_enter Tryz.func138, Tryz.ntmps138
    go_wp2_with fail
    refine (right_any _ _ c xs _ rfl (by omega) hx).mono ?_
    rintro e w' ⟨rfl, rfl⟩
    go_wp2_with fail
    refine hc.out.mono ?_
    rintro e w' ⟨rfl, q, rfl⟩
    go_wp2_with fail
    go_ret
    exact Quiet.mk (congrArg Value.bool HR.out.symm) _
set_option maxHeartbeats 400000 in
theorem mrest_any (g : Nat) (ms : List Nat) (A X Y : Option Addr) (cA n m c d : Nat) (xs ys : List Nat) (w : World) (h0 : w.cell? ⟨g, 0, none⟩ = some (.slice A ms.length cA)) (hg : g < w.heap.size) (hA : Rd .u32 w A ms) (lm : Lim 4294967296 ms) (rm : isRight ms = true) (hne : ms ≠ [])
    (hn : n = xs.length) (hm : m = ys.length) (hx : Rd .u32 w X xs) (hy : Rd .u32 w Y ys) (lx : Lim 4294967296 xs) (ly : Lim 4294967296 ys) (rx : isRight xs = true) (ry : isRight ys = true) (hfit : (limbs (val xs * val ys)).length ≤ 256) :
    Calls Tryz.prog 137 #[.pointer (some ⟨g, 0, none⟩), .slice X n c, .slice Y m d] w (Gives2 .u32 (limbs (val xs * val ys % val ms)) 0 w) := by
  subst hn
  subst hm
  have hml := isRight_len rm
  have hxl := isRight_len rx
  have hyl := isRight_len ry
  have hmul := mul_any X Y _ _ c d xs ys w rfl rfl hx hy lx ly rx ry
  rw [fitsOf_ok hfit] at hmul
  have hdiv : ∀ (P : Option Addr) (cp : Nat) (w' : World), Rd .u32 w' P (limbs (val xs * val ys)) → Rd .u32 w' A ms → Calls Tryz.prog 136 #[.slice P (limbs (val xs * val ys)).length cp, .slice A ms.length cA] w' (Gives3 (limbs (val xs * val ys / val ms)) (limbs (val xs * val ys % val ms)) 0 w') := by
    intro P cp w' h1 h2
    have h3 := div_any P A _ _ cp cA (limbs (val xs * val ys)) ms w' rfl rfl (by omega) (by omega) h1 h2 (limbs_lim _) lm
    rw [divOf_ok (isRight_limbs hfit) rm hne, val_limbs] at h3
    exact h3
  have HD := Lib.hid hdiv
  have HMUL := Lib.hid hmul
  clear hdiv hmul
  generalize limbs (val xs * val ys % val ms) = R at *
  generalize limbs (val xs * val ys / val ms) = Q at *
  generalize limbs (val xs * val ys) = P at *
  go_enter Tryz.func137, Tryz.ntmps137
  go_wp2_with fail
  refine HMUL.out.mono ?_
  rintro e w1 ⟨A1, c1, rfl, f1, f2, f3, f4⟩
  have h01 := (f4.cell (p := ⟨g, 0, none⟩) hg).trans h0
  go_wp2_with fail
  refine (HD.out A1 c1 w1 f3.rd (hA.below f4)).mono ?_
  rintro e w2 ⟨A2, c2, A3, c3, rfl, _, ⟨g1, g2⟩, _, g4, g5⟩
  go_wp2_with fail
  go_ret2
  exact ⟨A3, c3, rfl, g1, g2, g4.mono f4.size, f4.trans (g5.mono f4.size)⟩
theorem last_cell {fs : List Nat} {n : Nat} (hl : fs.length = n + 2) : (fs.take 0 ++ fs.drop 1 ++ fs.drop (0 + (n + 1)))[n + 1]? = some (fs.getD (n + 1) 0) := by
  rw [List.take_zero, List.nil_append, List.getElem?_append_right (by simp [hl]), List.getElem?_drop]
  rw [show 0 + (n + 1) + (n + 1 - (fs.drop 1).length) = n + 1 by simp [hl]]
  rw [List.getD_eq_getElem?_getD, List.getElem?_eq_getElem (by omega)]
  rfl
set_option maxRecDepth 100000 in
set_option maxHeartbeats 3200000 in
theorem mreduce_any (g : Nat) (ms : List Nat) (ninv : Nat) (X Y : Option Addr) (n m c d : Nat) (xs ys : List Nat) (w : World) (hM : MRd w g ms ninv) (hl : ms.length ≤ 60000) (hn : n = ms.length) (hm : m = ms.length) (hxn : xs.length = ms.length) (hyn : ys.length = ms.length)
    (hx : Rd .u32 w X xs) (hy : Rd .u32 w Y ys) (lx : Lim 4294967296 xs) (ly : Lim 4294967296 ys) (lm : Lim 4294967296 ms) (hi : 4294967296 ∣ val ms * ninv + 1) (hib : ninv < 4294967296) (hp : 0 < ms.length) (hY : val ys < val ms) :
    Calls Tryz.prog 140 #[.pointer (some ⟨g, 0, none⟩), .slice X n c, .slice Y m d] w (GivesRow ms.length (mred (val ms) ninv (val ys) xs) w) := by
  subst hn
  subst hm
  obtain ⟨A, cA, hg, h0, h1, hA⟩ := hM
  have HXN := Lib.hid hxn
  have HYN := Lib.hid hyn
  clear hxn hyn
  go_enter Tryz.func140, Tryz.ntmps140
  go_wp2_with (at_make; refine wpList_make_ints _ rfl _ _ _ rfl .u32 129 4 Tryz.underlying128 info_u32 _ _ (ms.length + 2) _ _ rfl rfl (by omega) (by omega) (by omega) (by omega) ?_; intro gt w1 hgt hw1 hs1 hb1)
  have hgtB : w.heap.size ≤ gt := by rw [hgt.out]; exact Nat.le_refl _
  have hgg : g ≠ gt := by omega
  have hst : val (List.replicate (ms.length + 2) 0) = redTo (val ms) ninv (val ys) xs 0 := by rw [val_replicate]; rfl
  go_loopw [22] (fun s wr => ∃ (i : Nat) (ts : List Nat), s = .int .i64 (i : Int) ∧ i ≤ ms.length ∧ Whl .u32 129 wr gt ts ∧ Hid (ts.length = ms.length + 2) ∧ Lim 4294967296 ts ∧ Hid (val ts = redTo (val ms) ninv (val ys) xs i) ∧ Below w.heap.size w wr) (fun s _ => ms.length - (intOf s).toNat)
  case atStart => exact ⟨0, _, rfl, Nat.zero_le _, hw1, List.length_replicate, Lim.replicate (by omega), hst, hb1⟩
  case round =>
    clear hst hw1 hs1 hb1
    obtain ⟨i, ts, rfl, hi2, hw, htl, lt, hv, hbel⟩ := hrel
    have hT := redTo_lt (xs := xs) hi hY lx i
    rw [← hv.out] at hT
    by_cases hlt : i < ms.length
    · obtain ⟨a, hga⟩ := get_of_lt (xs := xs) (i := i) (by rw [HXN.out]; exact hlt)
      obtain ⟨b, o, rfl, hbw, hcl⟩ := (hx.below hbel).pos hga
      have hcell := hcl i a hga
      have hab := lx.get hga
      obtain ⟨g1, g2, g3, k1, k2, k3⟩ := round_ok htl.out HYN.out rfl lt ly lm hab hi hT hY
      have HG := Lib.hid (And.intro g1 g3)
      have HK := Lib.hid (And.intro k1 k3)
      have HS := Lib.hid (show redTo (val ms) ninv (val ys) xs (i + 1) = redStep (val ms) ninv (val ys) (val ts) a by rw [redTo, hv.out, List.getD_eq_getElem?_getD, hga]; rfl)
      clear hga hcl g1 g3 k1 k3
      obtain ⟨ds, c1, hd⟩ : ∃ ds c1, foldTo ts 0 ys a ms.length = (ds, c1) := ⟨_, _, rfl⟩
      have hdl : ds.length = ms.length + 2 := by have := foldTo_length ts 0 ys a ms.length; rw [hd, htl.out] at this; exact this
      have ld := foldTo_lim ts 0 ys a ms.length lt
      have hcb := foldTo_carry ts 0 ys a ms.length hab lt ly
      rw [hd] at ld hcb
      simp only at ld hcb
      obtain ⟨a0, ha0⟩ := get_of_lt (xs := ds) (i := ms.length) (by omega)
      obtain ⟨a1, ha1⟩ := get_of_lt (xs := ds) (i := ms.length + 1) (by omega)
      have hadd := add2_eq (c := c1) ha0 ha1
      have hma : mulAdd ts ys ms.length a = add2 ds ms.length c1 := by unfold mulAdd; rw [hd]
      have b0 := ld.get ha0
      have b1 := ld.get ha1
      have hfold := mfold_any ts ys gt 0 ms.length (ms.length + 2) ms.length d Y a wr hw (hy.below hbel) (Off.new hy hgtB) HYN.out.symm (by omega) (Nat.le_refl _) (by rw [htl.out]; omega) hab lt ly
      rw [hd] at hfold
      have HF := Lib.hid hfold
      have HAD := Lib.hid (hma.trans hadd)
      have HA0 := Lib.hid ha0
      have HA1 := Lib.hid ha1
      clear hfold hadd hma ha0 ha1 hd hdl hw
      go_wp2_with fail
      refine HF.out.mono ?_
      rintro e w3 ⟨rfl, hw3, hg3⟩
      go_wp2_with fail
      refine (madd_any ds gt ms.length 2 2 a0 a1 c1 w3 hw3 HA0.out HA1.out (Nat.le_refl _) (by omega) b0 b1 hcb).mono ?_
      rintro e w4 ⟨rfl, hw4, hg4⟩
      rw [← HAD.out] at hw4
      have hbel4 := below_only (below_only hbel hg3 hbel.size hgtB) hg4 (Nat.le_trans hbel.size hg3.size) hgtB
      clear HAD HA0 HA1 b0 b1 HF hw3 hg3 hg4 hbel ld hcb
      have h0' := (hbel4.cell (p := ⟨g, 0, none⟩) hg).trans h0
      have h1' := (hbel4.cell (p := ⟨g, 1, none⟩) hg).trans h1
      obtain ⟨cs, hcs⟩ : ∃ cs, cs = mulAdd ts ys ms.length a := ⟨_, rfl⟩
      obtain ⟨U, hU⟩ : ∃ U, U = redU ninv (val ts + a * val ys) := ⟨_, rfl⟩
      have hUl : U < 4294967296 := by rw [hU]; exact redU_lt _ _
      rw [← hcs] at hw4
      have hG1 := HG.out.1
      have hG3 := HG.out.2
      have hK1 := HK.out.1
      have hK3 := HK.out.2
      rw [← hcs] at hG1 hG3 g2
      rw [← hU, ← hcs] at hK1 hK3 k2
      obtain ⟨t0, ht0⟩ := get_of_lt (xs := cs) (i := 0) (by omega)
      have ht0v := val_head g2 ht0
      have hUv : U = t0 * ninv % 4294967296 := by rw [hU, redU, ht0v, hG3]
      have hwm : ((t0 : Int) * (ninv : Int)) % 4294967296 = (U : Int) := by rw [hUv]; simp
      have hc0 := hw4.blk.cell ht0
      have hL1 := Lib.hid hG1
      have hL2 := Lib.hid hK1
      have hL3 := Lib.hid hK3
      have hA4 := hA.below hbel4
      clear ht0v hUv hU HG HK hG1 hG3 hK1 hK3 hcs ht0
      go_wp2_with fail
      refine wp_region_still_tail 15 (by kernel_rfl) (by kernel_rfl) ?_
      simp only [List.take_succ_cons, List.take_zero, List.drop_succ_cons, List.drop_zero]
      show wpStill Tryz.prog _ w4.drew (fun a' => wpList Tryz.prog _ _ _ a' w4.drew) _ _
      have hw5 : Whl .u32 129 w4.drew gt cs := hw4
      have hbel5 : Below w.heap.size w w4.drew := below_drewN hbel4 1
      have hA5 : Rd .u32 w4.drew A ms := hA4
      replace h0' : w4.drew.cell? ⟨g, 0, none⟩ = some (.slice A ms.length cA) := h0'
      replace h1' : w4.drew.cell? ⟨g, 1, none⟩ = some (.int .u32 (ninv : Int)) := h1'
      replace hc0 : w4.drew.cell? ⟨gt, 0, none⟩ = some (.int .u32 (t0 : Int)) := hc0
      clear hw4 hbel4 hA4
      generalize w4.drew = w5 at *
      have j1 : (0 : Int) ≤ (ms.length : Int) := by omega
      have j2 : (ms.length : Int) ≤ (ms.length : Int) + 2 := by omega
      have j3 : (0 : Int) < (ms.length : Int) + 2 := by omega
      repeat still_step
      refine wpStill_nil ?_
      go_wp2_with fail
      rw [hwm]
      clear hwm hc0 h0' h1' j1 j2
      obtain ⟨es, c2, hd⟩ : ∃ es c2, foldTo cs 0 ms U ms.length = (es, c2) := ⟨_, _, rfl⟩
      have hdl : es.length = ms.length + 2 := by have := foldTo_length cs 0 ms U ms.length; rw [hd, hL1.out] at this; exact this
      have ld := foldTo_lim cs 0 ms U ms.length g2
      have hcb := foldTo_carry cs 0 ms U ms.length hUl g2 lm
      rw [hd] at ld hcb
      simp only at ld hcb
      obtain ⟨a0, ha0⟩ := get_of_lt (xs := es) (i := ms.length) (by omega)
      obtain ⟨a1, ha1⟩ := get_of_lt (xs := es) (i := ms.length + 1) (by omega)
      have hadd := add2_eq (c := c2) ha0 ha1
      have hma : mulAdd cs ms ms.length U = add2 es ms.length c2 := by unfold mulAdd; rw [hd]
      have b0 := ld.get ha0
      have b1 := ld.get ha1
      have hfold := mfold_any cs ms gt 0 ms.length (ms.length + 2) ms.length cA A U w5 hw5 hA5 (Off.new hA hgtB) rfl (by omega) (Nat.le_refl _) (by rw [hL1.out]; omega) hUl g2 lm
      rw [hd] at hfold
      have HAD := Lib.hid (hma.trans hadd)
      have HA0 := Lib.hid ha0
      have HA1 := Lib.hid ha1
      clear hadd hma ha0 ha1 hd hdl hw5
      refine hfold.mono ?_
      rintro e w6 ⟨rfl, hw6, hg6⟩
      clear hfold
      go_wp2_with fail
      refine (madd_any es gt ms.length 2 2 a0 a1 c2 w6 hw6 HA0.out HA1.out (Nat.le_refl _) (by omega) b0 b1 hcb).mono ?_
      rintro e w7 ⟨rfl, hw7, hg7⟩
      rw [← HAD.out] at hw7
      have hbel7 := below_only (below_only hbel5 hg6 hbel5.size hgtB) hg7 (Nat.le_trans hbel5.size hg6.size) hgtB
      have hfin := Lib.hid (shift_cells hL2.out)
      have hsl := shift_ok hL2.out k2
      obtain ⟨fs, hfs⟩ : ∃ fs, fs = mulAdd cs ms ms.length U := ⟨_, rfl⟩
      rw [← hfs] at hw7 hfin hL2 hL3 k2 hsl
      have HSL := Lib.hid hsl
      have hrd : Rd .u32 w7 (some ⟨gt, 1, none⟩) (fs.drop 1) := by
        have h := Rd.of_blk hw7.blk 1 (ms.length + 1)
        rwa [List.take_of_length_le (by rw [List.length_drop, hL2.out]; omega)] at h
      have hdl1 := Lib.hid (show ms.length + 1 = (fs.drop 1).length by rw [List.length_drop, hL2.out]; omega)
      clear HAD HA0 HA1 b0 b1 hw6 hg6 hg7 hbel5 ld hcb hA5 hsl hfs
      go_wp2_with (((with_reducible show wpList _ _ _ _ _ _); refine wpList_copy_ints _ rfl (.tmp 58) (.tmp 60) _ _ rfl .u32 129 4 Tryz.underlying128 info_u32 gt 0 (ms.length + 2) (ms.length + 2) (ms.length + 1) (some ⟨gt, 1, none⟩) (ms.length + 1) rfl rfl fs (fs.drop 1) hw7 hrd hdl1.out (by omega) (by rw [hL2.out]; omega) w.heap.size w hbel7 hgtB ?_; intro w8 hw8 hb8 hg8; have hc8 := hw8.blk.cell (last_cell hL2.out); have hf8 := hw8.blk.frozen (last_cell hL2.out)))
      have hw9 : Whl .u32 129 (w8.setCell ⟨gt, ms.length + 1, none⟩ (.int .u32 0)) gt (fs.drop 1 ++ [0]) := by
        have h := hw8.set (ms.length + 1) 0
        rw [hfin.out] at h
        exact h
      have hv9 := Lib.hid (hL3.out.trans HS.out.symm)
      have hl9 := Lib.hid HSL.out.1
      have hbel9 := hb8.setCell (p := ⟨gt, ms.length + 1, none⟩) hgtB (.int .u32 0)
      clear hw8 hb8 hg8 hc8 hf8 hrd hw7 hbel7
      go_roundw
      case rel => exact ⟨i + 1, fs.drop 1 ++ [0], by go_num, hlt, hw9, hl9, HSL.out.2.1, hv9, hbel9⟩
      case measure => simp [intOf]; omega
    · obtain rfl : i = ms.length := by omega
      obtain ⟨tn, htn⟩ := get_of_lt (xs := ts) (i := ms.length) (by rw [htl.out]; omega)
      obtain ⟨p1, p2⟩ := top_ok htl.out rfl lm hT htn
      have hcn := hw.blk.cell htn
      have h0' := (hbel.cell (p := ⟨g, 0, none⟩) hg).trans h0
      have hA' := hA.below hbel
      have hrow : Rd .u32 wr (some ⟨gt, 0, none⟩) (ts.take ms.length) := (Rd.of_all hw.blk).take _
      have j1 : (0 : Int) ≤ (ms.length : Int) := by omega
      have j2 : (ms.length : Int) ≤ (ms.length : Int) + 2 := by omega
      have j3 : (ms.length : Int) < (ms.length : Int) + 2 := by omega
      have htkl : (ts.take ms.length).length = ms.length := by rw [List.length_take, htl.out]; omega
      have hmr : mred (val ms) ninv (val ys) xs = if val ms ≤ val ts then val ts - val ms else val ts := by
        unfold mred
        rw [HXN.out, ← hv.out]
      have hlast := fun h => last_ok htl.out rfl lt lm hT h
      have hTL := takeTo_length ts 0 ms ms.length
      have hTM := takeTo_lim ts 0 ms ms.length lt
      rw [htl.out] at hTL
      have hun : ∀ q, Calls Tryz.prog 162 #[.slice (some ⟨gt, 0, none⟩) ms.length (ms.length + 2), .slice A ms.length cA] (wr.drewN q) (Quiet (.bool (decide (val (ts.take ms.length) < val ms))) (wr.drewN q)) := fun q =>
        munder_any (some ⟨gt, 0, none⟩) A ms.length ms.length (ms.length + 2) cA (ts.take ms.length) ms (wr.drewN q) htkl.symm htkl.symm htkl (by omega) (hrow.drewN q) (hA'.drewN q) (lt.take _) lm
      have htake : ∀ q, Calls Tryz.prog 163 #[.slice (some ⟨gt, 0, none⟩) ms.length (ms.length + 2), .slice A ms.length cA] (wr.drewN q) (DoneWhl gt (takeTo ts 0 ms ms.length).1 (wr.drewN q)) := fun q =>
        mtake_any ts ms gt 0 ms.length (ms.length + 2) ms.length cA A (wr.drewN q) (hw.drewN q) (hA'.drewN q) (Off.new hA hgtB) rfl rfl (by omega) (by rw [htl.out]; omega) lt lm
      have HUN := Lib.hid hun
      have HTK := Lib.hid htake
      have HTKL := Lib.hid htkl
      have HTL := Lib.hid hTL
      have HLAST := Lib.hid hlast
      have HMR := Lib.hid hmr
      clear hun htake htkl htn hTL hlast hmr
      by_cases hz : tn = 0
      · by_cases hlt2 : val (ts.take ms.length) < val ms
        · have hd : decide (val (ts.take ms.length) < val ms) = true := by simpa using hlt2
          rw [hd] at HUN
          have hres := Lib.hid (show val (ts.take ms.length) = mred (val ms) ninv (val ys) xs by rw [HMR.out, if_neg (by rw [p2 hz]; omega), p2 hz])
          have hne : ((tn : Int) != 0) = false := by rw [hz]; rfl
          clear p1 p2 hz hd hlt2
          go_wp2_with fail
          go_quiet ((go_at_call 162; exact Calls.quiet_of (HUN.out _)))
          have hbelq := below_drewN hbel nq
          have hO := (Own.of_blk (hw.drewN nq).blk hgtB).take ms.length
          go_wp2_with fail
          go_ret
          exact ⟨ts.take ms.length, HTKL.out, lt.take _, hres.out, _, ms.length, by rw [HTKL.out]; rfl, by rw [HTKL.out]; exact Nat.le_refl _, by simp only [maxLen]; omega, hO, hbelq⟩
        · have hd : decide (val (ts.take ms.length) < val ms) = false := by simpa using hlt2
          rw [hd] at HUN
          have hle : val ms ≤ val ts := by rw [p2 hz]; omega
          have hres := Lib.hid (show val ((takeTo ts 0 ms ms.length).1.take ms.length) = mred (val ms) ninv (val ys) xs by rw [HMR.out, if_pos hle, HLAST.out hle])
          have hne : ((tn : Int) != 0) = false := by rw [hz]; rfl
          clear p1 p2 hz hd hlt2 hle
          go_wp2_with fail
          go_quiet ((go_at_call 162; exact Calls.quiet_of (HUN.out _)))
          replace h0' : (wr.drewN nq).cell? ⟨g, 0, none⟩ = some (.slice A ms.length cA) := h0'
          have hbelq := below_drewN hbel nq
          have HTQ := Lib.hid (fun q => by have := HTK.out (nq + q); rw [← World.drewN_drewN] at this; exact this : ∀ q, Calls Tryz.prog 163 #[.slice (some ⟨gt, 0, none⟩) ms.length (ms.length + 2), .slice A ms.length cA] ((wr.drewN nq).drewN q) (DoneWhl gt (takeTo ts 0 ms ms.length).1 ((wr.drewN nq).drewN q)))
          clear HTK hbel hw hcn hA' hrow
          generalize wr.drewN nq = w6 at *
          go_wp2_with fail
          refine wp_region_still_tail 7 (by kernel_rfl) (by kernel_rfl) ?_
          simp only [List.take_succ_cons, List.take_zero, List.drop_succ_cons, List.drop_zero]
          show wpStill Tryz.prog _ w6.drew (fun a' => wpList Tryz.prog _ _ _ a' w6.drew) _ _
          have HT2 := Lib.hid (show Calls Tryz.prog 163 #[.slice (some ⟨gt, 0, none⟩) ms.length (ms.length + 2), .slice A ms.length cA] w6.drew (DoneWhl gt (takeTo ts 0 ms ms.length).1 w6.drew) from HTQ.out 1)
          have hbel7 : Below w.heap.size w w6.drew := below_drewN hbelq 1
          replace h0' : w6.drew.cell? ⟨g, 0, none⟩ = some (.slice A ms.length cA) := h0'
          clear HTQ hbelq
          generalize w6.drew = w7 at *
          repeat still_step
          refine wpStill_nil ?_
          go_wp2_with fail
          refine HT2.out.mono ?_
          rintro e w8 ⟨rfl, hw8, hg8⟩
          have hbel8 := below_only hbel7 hg8 hbel7.size hgtB
          clear HT2 hbel7 hg8 h0'
          go_wp2_with fail
          have hlr := Lib.hid (show ((takeTo ts 0 ms ms.length).1.take ms.length).length = ms.length by rw [List.length_take, HTL.out]; omega)
          have hO := (Own.of_blk hw8.blk hgtB).take ms.length
          go_ret
          exact ⟨_, hlr.out, hTM.take _, hres.out, _, ms.length, by rw [hlr.out]; rfl, by rw [hlr.out]; exact Nat.le_refl _, by simp only [maxLen]; omega, hO, hbel8⟩
      · have hle : val ms ≤ val ts := p1 hz
        have hres := Lib.hid (show val ((takeTo ts 0 ms ms.length).1.take ms.length) = mred (val ms) ninv (val ys) xs by rw [HMR.out, if_pos hle, HLAST.out hle])
        have hne : ((tn : Int) != 0) = true := by simpa using hz
        clear p1 p2 hz hle
        · go_wp2_with fail
          go_quiet (fail)
          replace h0' : (wr.drewN nq).cell? ⟨g, 0, none⟩ = some (.slice A ms.length cA) := h0'
          have hbelq := below_drewN hbel nq
          have HTQ := Lib.hid (fun q => by have := HTK.out (nq + q); rw [← World.drewN_drewN] at this; exact this : ∀ q, Calls Tryz.prog 163 #[.slice (some ⟨gt, 0, none⟩) ms.length (ms.length + 2), .slice A ms.length cA] ((wr.drewN nq).drewN q) (DoneWhl gt (takeTo ts 0 ms ms.length).1 ((wr.drewN nq).drewN q)))
          clear HTK hbel hw hcn hA' hrow
          generalize wr.drewN nq = w6 at *
          go_wp2_with fail
          refine wp_region_still_tail 7 (by kernel_rfl) (by kernel_rfl) ?_
          simp only [List.take_succ_cons, List.take_zero, List.drop_succ_cons, List.drop_zero]
          show wpStill Tryz.prog _ w6.drew (fun a' => wpList Tryz.prog _ _ _ a' w6.drew) _ _
          have HT2 := Lib.hid (show Calls Tryz.prog 163 #[.slice (some ⟨gt, 0, none⟩) ms.length (ms.length + 2), .slice A ms.length cA] w6.drew (DoneWhl gt (takeTo ts 0 ms ms.length).1 w6.drew) from HTQ.out 1)
          have hbel7 : Below w.heap.size w w6.drew := below_drewN hbelq 1
          replace h0' : w6.drew.cell? ⟨g, 0, none⟩ = some (.slice A ms.length cA) := h0'
          clear HTQ hbelq
          generalize w6.drew = w7 at *
          repeat still_step
          refine wpStill_nil ?_
          go_wp2_with fail
          refine HT2.out.mono ?_
          rintro e w8 ⟨rfl, hw8, hg8⟩
          have hbel8 := below_only hbel7 hg8 hbel7.size hgtB
          clear HT2 hbel7 hg8 h0'
          go_wp2_with fail
          have hlr := Lib.hid (show ((takeTo ts 0 ms ms.length).1.take ms.length).length = ms.length by rw [List.length_take, HTL.out]; omega)
          have hO := (Own.of_blk hw8.blk hgtB).take ms.length
          go_ret
          exact ⟨_, hlr.out, hTM.take _, hres.out, _, ms.length, by rw [hlr.out]; rfl, by rw [hlr.out]; exact Nat.le_refl _, by simp only [maxLen]; omega, hO, hbel8⟩
end Go.Proofs.YtchaahnhpeoomaaGreat
namespace Go.Proofs.YtchaahnhpeoomaaGreat
set_option linter.unusedVariables false
set_option linter.unusedSimpArgs false
set_option maxRecDepth 20000
open Go.RowKit
def mayB (ms : List Nat) : Bool := isRight ms && decide (0 < ms.length) && decide (ms.length ≤ 128) && decide (val ms % 2 = 1) && decide (3 ≤ val ms)
structure MayM (ms : List Nat) : Prop where
  lm : Lim 4294967296 ms
  right : isRight ms = true
  pos : 0 < ms.length
  len : ms.length ≤ 128
  odd : val ms % 2 = 1
  three : 3 ≤ val ms
theorem mayB_out {ms : List Nat} (lm : Lim 4294967296 ms) (h : mayB ms = true) : MayM ms := by
  simp [mayB] at h
  obtain ⟨⟨⟨⟨h1, h2⟩, h3⟩, h4⟩, h5⟩ := h
  exact ⟨lm, h1, h2, h3, h4, h5⟩
def radix (ms : List Nat) : Nat := 4294967296 ^ ms.length
def sqM (ms : List Nat) : List Nat := limbs (radix ms * radix ms % val ms)
def ModOk (w : World) (B g : Nat) (ms : List Nat) : Prop :=
  ∃ ninv A c A2 c2, B ≤ g ∧ Cut w g 0 [.slice A ms.length c, .int .u32 ((ninv : Nat) : Int), .slice A2 (sqM ms).length c2] ∧ Own .u32 w B A ms ∧ Own .u32 w B A2 (sqM ms) ∧ ninv < 4294967296 ∧ 4294967296 ∣ val ms * ninv + 1
theorem ModOk.below {w w' : World} {B g : Nat} {ms : List Nat} (h : ModOk w B g ms) (hb : Below w.heap.size w w') : ModOk w' B g ms := by
  obtain ⟨ninv, A, c, A2, c2, h1, h2, h3, h4, h5⟩ := h
  exact ⟨ninv, A, c, A2, c2, h1, h2.below hb, h3.below hb, h4.below hb, h5⟩
theorem ModOk.mono {w : World} {B B' g : Nat} {ms : List Nat} (h : ModOk w B g ms) (hB : B' ≤ B) : ModOk w B' g ms := by
  obtain ⟨ninv, A, c, A2, c2, h1, h2, h3, h4, h5⟩ := h
  exact ⟨ninv, A, c, A2, c2, Nat.le_trans hB h1, h2, h3.mono hB, h4.mono hB, h5⟩
theorem ModOk.mrd {w : World} {B g : Nat} {ms : List Nat} (h : ModOk w B g ms) : ∃ ninv A2 c2, MRd w g ms ninv ∧ w.cell? ⟨g, 2, none⟩ = some (.slice A2 (sqM ms).length c2) ∧ Rd .u32 w A2 (sqM ms) ∧ ninv < 4294967296 ∧ 4294967296 ∣ val ms * ninv + 1 := by
  obtain ⟨ninv, A, c, A2, c2, h1, h2, h3, h4, h5, h6⟩ := h
  have c0 := h2.cell (i := 0) rfl
  have c1 := h2.cell (i := 1) rfl
  have c3 := h2.cell (i := 2) rfl
  rw [Nat.zero_add] at c0 c1 c3
  exact ⟨ninv, A2, c2, ⟨A, c, h2.lt, c0, c1, h3.rd⟩, c3, h4.rd, h5, h6⟩
def NewYes (ms : List Nat) (w : World) (e : Ending) (w' : World) : Prop := ∃ g, e = .returned (.tuple #[.pointer (some ⟨g, 0, none⟩), .int .i64 0]) ∧ ModOk w' w.heap.size g ms ∧ Below w.heap.size w w'
theorem val_mod2 {ms : List Nat} {m0 : Nat} (lm : Lim 4294967296 ms) (h : ms[0]? = some m0) : val ms % 2 = m0 % 2 := by
  have h1 := val_drop_succ h
  rw [List.drop_zero] at h1
  omega
theorem val_three {ms : List Nat} {m0 : Nat} (lm : Lim 4294967296 ms) (rm : isRight ms = true) (h : ms[0]? = some m0) : (3 ≤ val ms) ↔ (ms.length ≠ 1 ∨ 3 ≤ m0) := by
  have h1 := val_drop_succ h
  rw [List.drop_zero] at h1
  have hl : 0 < ms.length := (List.getElem?_eq_some_iff.1 h).1
  rcases (show ms.length = 1 ∨ 2 ≤ ms.length by omega) with h2 | h2
  · rw [List.drop_of_length_le (by omega)] at h1
    simp [val] at h1
    omega
  · have h3 := val_lt_of_len (xs := [4294967295]) (ys := ms) (fun x hx => by simp at hx; omega) (isRight_canon lm rm) (by simp; omega)
    simp [val] at h3
    omega
theorem inv_form (m0 v : Nat) : (v : Int) * ((2 - (m0 : Int) * (v : Int)) % 4294967296) % 4294967296 = ((invStep m0 v : Nat) : Int) := by
  unfold invStep
  have e0 : (2 - (m0 : Int) * (v : Int)) % 4294967296 = (2 - (m0 : Int) * (v : Int) % 4294967296) % 4294967296 := by omega
  rw [e0]
  have h : m0 * v % 4294967296 < 4294967296 := Nat.mod_lt _ (by omega)
  have e1 : (m0 : Int) * (v : Int) % 4294967296 = ((m0 * v % 4294967296 : Nat) : Int) := by simp
  rw [e1]
  generalize m0 * v % 4294967296 = t at *
  have e2 : (2 - (t : Int)) % 4294967296 = (((2 + (4294967296 - t)) % 4294967296 : Nat) : Int) := by omega
  rw [e2, ← Int.natCast_mul, show (4294967296 : Int) = ((4294967296 : Nat) : Int) from rfl, ← Int.natCast_emod]
theorem rep_set (n : Nat) : (List.replicate (n + 1) 0).set n 1 = List.replicate n 0 ++ [1] := by
  rw [List.replicate_succ', List.set_append_right _ _ (by simp)]
  simp
theorem own_far_new {k : IntKind} {w : World} {B : Nat} {A : Option Addr} {xs : List Nat} (h : Own k w B A xs) {p : Addr} (hp : p.block < B) (u : Value) : Own k (w.setCell p u) B A xs := by
  rcases h with rfl | ⟨g', off, ds, rfl, hB, hb, hx⟩
  · exact Own.nil _ _ _ _
  · exact .inr ⟨g', off, ds, rfl, hB, hb.far (by omega) u, hx⟩
theorem inv_lift {M m0 ninv : Nat} (hvm : M % 4294967296 = m0) (h : 4294967296 ∣ m0 * ninv + 1) : 4294967296 ∣ M * ninv + 1 := by
  have e : M * ninv + 1 = 4294967296 * (M / 4294967296 * ninv) + (m0 * ninv + 1) := by
    have h1 := Nat.div_add_mod M 4294967296
    rw [hvm] at h1
    rw [← Nat.add_assoc, ← Nat.mul_assoc, ← Nat.add_mul, h1]
  rw [e]
  exact Nat.dvd_add (Nat.dvd_mul_right _ _) h
theorem rep_cell (n : Nat) : (List.replicate (n + 1) 0)[n]? = some 0 := by simp
theorem pow_limbs (n : Nat) : limbs (4294967296 ^ n) = List.replicate n 0 ++ [1] := by
  refine (limbs_val (xs := List.replicate n 0 ++ [1]) ⟨(Lim.replicate (by omega)).append (fun x hx => by simp at hx; omega), by simp⟩).symm.trans ?_ |>.symm
  rw [val_append, val_replicate]
  simp [val]
set_option maxRecDepth 100000 in
set_option maxHeartbeats 1600000 in
theorem newYes_any (A : Option Addr) (n c : Nat) (ms : List Nat) (w : World) (hn : n = ms.length) (hx : Rd .u32 w A ms) (hM : MayM ms) :
    Calls Tryz.prog 114 #[.slice A n c] w (NewYes ms w) := by
  subst hn
  obtain ⟨lm, r, hp, h128, hodd, h3⟩ := hM
  obtain ⟨m0, hm0⟩ := get_of_lt (xs := ms) (i := 0) hp
  obtain ⟨b, o, rfl, hbw, hcl⟩ := hx.pos hm0
  have hcell := hcl 0 m0 hm0
  rw [Nat.add_zero] at hcell
  have hb0 := lm.get hm0
  have i0 : (0 : Int) < (ms.length : Int) := by omega
  have v2 := val_mod2 lm hm0
  have v3 := val_three lm r hm0
  have z1 : ((ms.length : Int) == 0) = false := by simp; intro h; rw [h] at hp; simp at hp
  have z2 : decide ((128 : Int) < (ms.length : Int)) = false := by simp; omega
  have z3 : ((m0 : Int) % 2 == 0) = false := by simp; omega
  have hi := invTo_ok (m0 := m0) (by omega)
  have hvm : val ms % 4294967296 = m0 := (val_head lm hm0).symm
  clear hcl hm0
  have hz := Lib.hid (show ((ms.length : Int) == 1) = false ∨ decide ((m0 : Int) < 3) = false by
    rcases v3.1 h3 with h | h
    · exact .inl (by simp; omega)
    · exact .inr (by simp; omega))
  clear v2 v3
  rcases (show ((ms.length : Int) == 1) = false ∨ (((ms.length : Int) == 1) = true ∧ decide ((m0 : Int) < 3) = false) by
    rcases hz.out with h | h
    · exact .inl h
    · cases h5 : ((ms.length : Int) == 1)
      · exact .inl rfl
      · exact .inr ⟨rfl, h⟩) with z4 | ⟨z4, z5⟩
  all_goals
    clear hz
    go_enter Tryz.func114, Tryz.ntmps114
    go_wp2_with fail
    refine (right_any _ _ c ms _ rfl (by omega) hx).mono ?_
    rintro e w' ⟨rfl, rfl⟩
    go_wp2_with (at_builtin; refine wpList_append_lit _ rfl (.tmp 41) (.tmp 42) _ rfl w 129 .u32 4 Tryz.underlying128 info_u32 _ _ rfl (World.ownsRow_made w #[] 0 (Nat.le_refl _) (Nat.zero_le _) rfl) _ ms.length _ ms rfl rfl (hx.alloc _) ((Below.refl _ _).alloc (Nat.le_refl _) _) (by omega) (by decide) ?_; intro gm cm w1 hgm hbm hc1 hc2 hb1)
    have hbel2 := hb1.alloc hb1.size (.cells #[.slice (some ⟨gm, 0, none⟩) ms.length cm, .int .u32 0, .slice none 0 0] 191)
    have hcut : Cut (w1.alloc (.cells #[.slice (some ⟨gm, 0, none⟩) ms.length cm, .int .u32 0, .slice none 0 0] 191)) w1.heap.size 0 [.slice (some ⟨gm, 0, none⟩) ms.length cm, .int .u32 0, .slice none 0 0] :=
      Cut.of_heap (heap_alloc_new w1 _) fun i v hv => by rw [Nat.zero_add, ← Array.getElem?_toList]; exact hv
    have hbm2 := hbm.alloc (.cells #[.slice (some ⟨gm, 0, none⟩) ms.length cm, .int .u32 0, .slice none 0 0] 191)
    have hcell2 := (hbel2.cell (p := ⟨b, o, none⟩) hbw).trans hcell
    have hGB := hb1.size
    have hgG : gm ≠ w1.heap.size := by have := hbm.lt; omega
    change Code.wp _ _ _ _ (w1.alloc (.cells #[.slice (some ⟨gm, 0, none⟩) ms.length cm, .int .u32 0, .slice none 0 0] 191))
    generalize w1.alloc (.cells #[.slice (some ⟨gm, 0, none⟩) ms.length cm, .int .u32 0, .slice none 0 0] 191) = w2 at *
    clear hbm hb1
    generalize w1.heap.size = G at *
    go_loop [5, 46] (fun s5 s46 => ∃ j : Nat, s5 = .int .u32 ((invTo m0 j : Nat) : Int) ∧ s46 = .int .i64 (j : Int) ∧ j ≤ 5) (fun _ s46 => 5 - (intOf s46).toNat)
    case atStart => exact ⟨0, rfl, rfl, by omega⟩
    case round =>
      obtain ⟨j, rfl, rfl, hj⟩ := hrel
      by_cases hj5 : j < 5
      · have hform := inv_form m0 (invTo m0 j)
        have hstep := Lib.hid (show invTo m0 (j + 1) = invStep m0 (invTo m0 j) from rfl)
        have hvl := invTo_lt m0 j
        generalize invTo m0 j = v at *
        go_wp2_with fail
        go_round
        case rel => exact ⟨j + 1, by rw [hstep.out, ← hform], by go_num, by omega⟩
        case measure => simp [intOf]; omega
      · obtain rfl : j = 5 := by omega
        have hvl := invTo_lt m0 5
        generalize invTo m0 5 = v at *
        obtain ⟨ninv, hni⟩ : ∃ ninv, ninv = (4294967296 - v) % 4294967296 := ⟨_, rfl⟩
        have hneg : -(v : Int) % 4294967296 = (ninv : Int) := by omega
        rw [← hni] at hi
        have hnl : ninv < 4294967296 := by rw [hni]; exact Nat.mod_lt _ (by omega)
        have hq1 := hcut.cell (i := 1) rfl
        have hf1 := hcut.frozen (i := 1) rfl
        rw [Nat.zero_add] at hq1 hf1
        have hcut3 := hcut.set (i := 1) rfl (.int .u32 (ninv : Int))
        rw [Nat.zero_add] at hcut3
        simp only [List.set_cons_succ, List.set_cons_zero] at hcut3
        have hbel3 := hbel2.setCell (p := ⟨G, 1, none⟩) hGB (.int .u32 (ninv : Int))
        have hbm3 := hbm2.far (p := ⟨G, 1, none⟩) hgG (.int .u32 (ninv : Int))
        clear hni hvl hcut hbel2 hbm2 hcell2
        go_wp2_with (at_make; refine wpList_make_ints _ rfl (.tmp 64) (.tmp 64) _ rfl .u32 129 4 Tryz.underlying128 info_u32 _ _ (ms.length + 1) _ _ rfl rfl (by omega) (by omega) (by omega) (by omega) ?_; intro gp w4 hgp hw4 hs4 hb4; have hpc := hw4.blk.cell (rep_cell ms.length); have hpf := hw4.blk.frozen (rep_cell ms.length); have hcut4 := hcut3.below hb4; have hd0 := hcut4.cell (i := 0) rfl; rw [Nat.zero_add] at hd0; have hGg : G ≠ gp := (by have := hcut3.lt; rw [hgp.out]; omega); have hd0' := (World.cell?_setCell_other w4 ⟨gp, ms.length, none⟩ ⟨G, 0, none⟩ (.int .u32 1) (by intro h; injection h with h; exact hGg h.symm)).trans hd0)
        have hwl5 : Whl .u32 129 (w4.setCell ⟨gp, ms.length, none⟩ (.int .u32 1)) gp (limbs (radix ms)) := by
          have h := hw4.set ms.length 1
          rw [rep_set, ← pow_limbs] at h
          exact h
        have hgpB : w.heap.size ≤ gp := by rw [hgp.out]; exact hbel3.size
        have hbel5 := (hbel3.trans (hb4.mono hbel3.size)).setCell (p := ⟨gp, ms.length, none⟩) hgpB (.int .u32 1)
        have hcut5 := hcut4.far (p := ⟨gp, ms.length, none⟩) hGg (.int .u32 1)
        have hbm5 := (hbm3.below hb4).far (p := ⟨gp, ms.length, none⟩) (by have h1 := hbm3.lt; have h2 := hgp.out; simp at h1 h2 ⊢; omega) (.int .u32 1)
        clear hcut3 hcut4 hb4 hbm3 hbel3 hpc hpf hd0 hd0' hw4
        generalize w4.setCell ⟨gp, ms.length, none⟩ (.int .u32 1) = w5 at *
        have hlr : (limbs (radix ms)).length = ms.length + 1 := by rw [radix, pow_limbs]; simp
        have hdiv := div_any (some ⟨gp, 0, none⟩) (some ⟨gm, 0, none⟩) _ _ (ms.length + 1) cm (limbs (radix ms)) ms w5 rfl rfl (by omega) (by omega) (Rd.of_all hwl5.blk) (Rd.of_all hbm5) (limbs_lim _) lm
        rw [divOf_ok (isRight_limbs (by omega)) r (by intro h; rw [h] at hp; simp at hp), val_limbs, hlr] at hdiv
        have hRM : radix ms % val ms < val ms := Nat.mod_lt _ (by omega)
        have hMl := val_lt lm
        have hl1 : (limbs (radix ms % val ms)).length ≤ 256 := Nat.le_trans (limbs_length_le (k := ms.length) (by omega)) (by omega)
        have hl2 : (limbs (val (limbs (radix ms % val ms)) * val (limbs (radix ms % val ms)))).length ≤ 256 := by
          rw [val_limbs]
          refine Nat.le_trans (limbs_length_le (k := ms.length + ms.length) ?_) (by omega)
          rw [Nat.pow_add]
          exact Nat.mul_lt_mul'' (by omega) (by omega)
        have hsq : limbs (val (limbs (radix ms % val ms)) * val (limbs (radix ms % val ms)) % val ms) = sqM ms := by rw [val_limbs, sqM, Nat.mul_mod (radix ms) (radix ms)]
        have HDV := Lib.hid hdiv
        have HSQ := Lib.hid hsq
        have HL2 := Lib.hid hl2
        have HL1 := Lib.hid hl1
        have HRT := Lib.hid (isRight_limbs hl1)
        have HLL := Lib.hid (limbs_lim (radix ms % val ms))
        clear hdiv hlr hRM hMl hl1 hl2 hsq hwl5
        generalize limbs (radix ms % val ms) = R at *
        generalize limbs (radix ms / val ms) = Q at *
        refine HDV.out.mono ?_
        rintro e w6 ⟨A1, c1, A2, c2, rfl, _, ⟨f1, f2⟩, _, f4, f5⟩
        have hcut6 := hcut5.below f5
        have hbm6 := hbm5.below f5
        have hbel6 := hbel5.trans (f5.mono hbel5.size)
        have hd0 := hcut6.cell (i := 0) rfl
        rw [Nat.zero_add] at hd0
        clear hcut5 hbm5 f5 hbel5 HDV
        go_wp2_with fail
        refine (mrest_any G ms (some ⟨gm, 0, none⟩) A2 A2 cm R.length R.length c2 c2 R R w6 hd0 hcut6.lt (Rd.of_all hbm6) lm r (by intro h; rw [h] at hp; simp at hp) rfl rfl f4.rd f4.rd HLL.out HLL.out HRT.out HRT.out HL2.out).mono ?_
        rintro e w7 ⟨A3, c3, rfl, g1, g2, g3, g4⟩
        rw [HSQ.out] at g1 g3 ⊢
        have hcut7 := hcut6.below g4
        have hbm7 := hbm6.below g4
        have hbel7 := hbel6.trans (g4.mono hbel6.size)
        have hq2 := hcut7.cell (i := 2) rfl
        have hf2 := hcut7.frozen (i := 2) rfl
        rw [Nat.zero_add] at hq2 hf2
        have hcut8 := hcut7.set (i := 2) rfl (.slice A3 (sqM ms).length c3)
        rw [Nat.zero_add] at hcut8
        simp only [List.set_cons_succ, List.set_cons_zero] at hcut8
        have hbel8 := hbel7.setCell (p := ⟨G, 2, none⟩) hGB (.slice A3 (sqM ms).length c3)
        have hbm8 := hbm7.far (p := ⟨G, 2, none⟩) hgG (.slice A3 (sqM ms).length c3)
        have hO8 := own_far_new g3 (p := ⟨G, 2, none⟩) hcut6.lt (.slice A3 (sqM ms).length c3)
        have hsz6 := hbel6.size
        clear hcut6 hbm6 hbel6 hcut7 hbm7 hbel7 g3 g4 hd0
        go_wp2_with fail
        go_ret2
        exact ⟨G, rfl, ⟨ninv, _, _, _, _, hGB, hcut8, Own.of_blk hbm8 hgm, hO8.mono hsz6, hnl, inv_lift hvm hi⟩, hbel8⟩
end Go.Proofs.YtchaahnhpeoomaaGreat
namespace Go.Proofs.YtchaahnhpeoomaaGreat
set_option linter.unusedVariables false
set_option linter.unusedSimpArgs false
set_option maxRecDepth 20000
open Go.RowKit
theorem mayOf_out {xs ms : List Nat} (lm : Lim 4294967296 ms) (lx : Lim 4294967296 xs) (h : mayOf xs ms = true) : isRight xs = true ∧ val xs < val ms ∧ xs.length ≤ ms.length := by
  simp [mayOf] at h
  refine ⟨h.1, h.2, ?_⟩
  rcases Nat.lt_or_ge ms.length xs.length with h1 | h1
  · have := val_lt_of_len lm (isRight_canon lx h.1) h1
    omega
  · exact h1
theorem gives2_arg (w w' : World) (er : Int) (h : Below w.heap.size w w') : Gives2 .u32 [] er w (.returned (.tuple #[.slice none 0 0, .int .i64 er])) w' := gives2_none _ _ _ _ h
theorem sqM_lt {ms : List Nat} (hM : MayM ms) : val (sqM ms) < val ms := by
  rw [sqM, val_limbs]
  exact Nat.mod_lt _ (by have := hM.three; omega)
theorem sqM_len {ms : List Nat} (hM : MayM ms) : (sqM ms).length ≤ ms.length :=
  limbs_length_le (by
    have h1 := val_lt hM.lm
    have h2 : radix ms * radix ms % val ms < val ms := Nat.mod_lt _ (by have := hM.three; omega)
    omega)
theorem sqM_cg (ms : List Nat) : Cg (val ms) (val (sqM ms)) (radix ms * radix ms) := by
  rw [sqM, val_limbs]
  exact Cg.mod _ _
theorem radix_coprime {ms : List Nat} (hM : MayM ms) : (radix ms).Coprime (val ms) := odd_coprime hM.odd _
theorem mred_radix {ms rs : List Nat} {ninv Y : Nat} (h : 4294967296 ∣ val ms * ninv + 1) (hl : rs.length = ms.length) : Cg (val ms) (mred (val ms) ninv Y rs * radix ms) (val rs * Y) := by
  have := mred_mul (Y := Y) (xs := rs) h
  rw [hl] at this
  exact this
end Go.Proofs.YtchaahnhpeoomaaGreat
namespace Go.Proofs.YtchaahnhpeoomaaGreat
set_option linter.unusedVariables false
set_option linter.unusedSimpArgs false
set_option maxRecDepth 20000
open Go.RowKit
attribute [local go_sem] Oper.semAt_some
def topBits (E : Nat) (k : Nat) : List Bool := (List.range k).map fun i => decide (E / 2 ^ (nbits E - 1 - i) % 2 = 1)
theorem topBits_succ (E k : Nat) : topBits E (k + 1) = topBits E k ++ [decide (E / 2 ^ (nbits E - 1 - k) % 2 = 1)] := by simp [topBits, List.range_succ]
theorem topBits_length (E k : Nat) : (topBits E k).length = k := by simp [topBits]
def Kp (n₀ Bs : Nat) (W W' : World) : Prop := Below n₀ W W' ∧ W'.heap[Bs]? = W.heap[Bs]?
theorem Kp.trans {n₀ Bs : Nat} {A B C : World} (h : Kp n₀ Bs A B) (k : Kp n₀ Bs B C) : Kp n₀ Bs A C := ⟨h.1.trans k.1, k.2.trans h.2⟩
theorem Kp.put {n₀ Bs : Nat} {w : World} (hn : n₀ ≤ w.heap.size) (hB : Bs < w.heap.size) (W : World) (l : Nat) (o o' : Obj) (hl : w.heap.size ≤ l) (h : W.heap[l]? = some o) (h1 : o.isCells = false) (h2 : o.isWalk = false) : Kp n₀ Bs W (W.putObj l o') := by
  refine ⟨belowK_b hn W l o o' hl h h1 h2, ?_⟩
  have hll := (Array.getElem?_eq_some_iff.1 h).1
  exact (grownBy_putObj' W l o').block Bs (by omega) (by intro e; injection e with e; omega)
set_option maxRecDepth 100000 in
set_option maxHeartbeats 1000000 in
theorem mbits_any (Y : Option Addr) (n d : Nat) (w : World) : Calls Tryz.prog 141 #[.slice Y n d] w fun e w' => e = .returned (.func (.func 164) #[] #[.pointer (some ⟨w.heap.size, 0, none⟩)]) ∧ w' = w.alloc (.cells #[.slice Y n d] 128) := by
  go_enter Tryz.func141, Tryz.ntmps141
  go_wp2
  go_ret
  exact ⟨rfl, rfl⟩
set_option maxRecDepth 100000 in
set_option maxHeartbeats 2000000 in
theorem bits1_in (n : Nat) (hn : 1 ≤ n) (l Bs n₀ : Nat) (Y : Option Addr) (d : Nat) (es : List Nat) (hl : es.length ≤ 30000) (le : Lim 4294967296 es) (he : isRight es = true) (J Jx : List Bool → World → Prop)
    (hY : ∀ pre x W, J pre W → pre.length < nbits (val es) → YieldAt Fence.wide (n - 1) Tryz.prog l #[.bool x] W fun e W' =>
      (e = .returned (.bool true) ∧ J (pre ++ [x]) W' ∧ Kp n₀ Bs W W') ∨ (e = .returned (.bool false) ∧ Jx (pre ++ [x]) W'))
    (W : World) (hBs : W.cell? ⟨Bs, 0, none⟩ = some (.slice Y es.length d)) (hc : es = [] ∨ ∃ b off, Y = some ⟨b, off, none⟩ ∧ b < n₀ ∧ ∀ (i x : Nat), es[i]? = some x → W.cell? ⟨b, off + i, none⟩ = some (.int .u32 (x : Int))) (hrd : Rd .u32 W Y es) (h0 : J [] W) :
    CallsIn Fence.wide n Tryz.prog 164 #[.func (.yield l) #[] #[], .pointer (some ⟨Bs, 0, none⟩)] W fun e W' => (∃ v, e = .returned v) ∧
      ((∃ ys, ys = topBits (val es) (nbits (val es)) ∧ J ys W') ∨ (∃ pre, (∃ k, k ≤ nbits (val es) ∧ pre = topBits (val es) k) ∧ Jx pre W')) := by
  have hbv : bitsOf es = (nbits (val es) : Int) := bitsOf_right he
  have hbits := Lib.hid (bits_any Y es.length d es W rfl (by omega) hrd le)
  rw [hbv] at hbits
  have hN : nbits (val es) ≤ 32 * es.length := by rw [nbits_le_iff, ← pow_limb]; exact val_lt le
  refine callsIn_of_wp Tryz.func164 rfl trivial ?_ rfl
  simp only [Tryz.ntmps164, List.size_toArray, List.length_cons, List.length_nil, Nat.reduceAdd, Nat.reduceSub, Array.replicate_succ, Array.replicate_zero, List.push_toArray, List.append_toArray, List.nil_append, List.cons_append]
  gi_wp2_with (refine ⟨trivial, ?_⟩; gi_at_call 143; refine (callsIn_wide.2 hbits.out).mono ?_; rintro e w' ⟨rfl, rfl⟩)
  clear hbits hbv hrd
  gi_loopw [3] (fun s wr => ∃ r : Nat, r ≤ nbits (val es) ∧ s = .int .i64 ((r : Int) - 1) ∧ J (topBits (val es) (nbits (val es) - r)) wr ∧ Kp n₀ Bs W wr) (fun s _ => (intOf s + 1).toNat)
  case atStart => exact ⟨nbits (val es), Nat.le_refl _, rfl, by rw [Nat.sub_self]; exact h0, Below.refl _ _, rfl⟩
  case round =>
    obtain ⟨r, hr, rfl, hJs, hk⟩ := hrel
    have hBs' := (World.cell?_of_block (w := W) (a := ⟨Bs, 0, none⟩) hk.2).trans hBs
    rcases Nat.eq_zero_or_pos r with rfl | hp
    · rw [Nat.sub_zero] at hJs
      gi_wp2
      go_end0
      exact ⟨⟨_, rfl⟩, .inl ⟨_, rfl, hJs⟩⟩
    · obtain ⟨j, rfl⟩ : ∃ j, r = j + 1 := ⟨r - 1, by omega⟩
      have hj1 : (((j + 1 : Nat) : Int) - 1) = (j : Int) := by omega
      rw [hj1]
      obtain ⟨x, hgx⟩ := get_of_lt (xs := es) (i := j / 32) (by omega)
      have hxb := le.get hgx
      obtain ⟨b, off, rfl, hb, hcl⟩ : ∃ b off, Y = some ⟨b, off, none⟩ ∧ b < n₀ ∧ ∀ (i x : Nat), es[i]? = some x → W.cell? ⟨b, off + i, none⟩ = some (.int .u32 (x : Int)) := by
        rcases hc with rfl | h
        · simp at hgx
        · exact h
      have hcx := (hk.1.cell (p := ⟨b, off + j / 32, none⟩) hb).trans (hcl _ x hgx)
      obtain ⟨bit, hbit⟩ : ∃ bit, bit = val es / 2 ^ j % 2 := ⟨_, rfl⟩
      have hbx : bits .and .u32 ((x : Int) / 2 ^ (j % 32)) 1 = (bit : Int) := by
        have e : ((x : Int) / 2 ^ (j % 32)) = ((x / 2 ^ (j % 32) : Nat) : Int) := by simp
        rw [e, show (1 : Int) = ((1 : Nat) : Int) from rfl, u32_and_nat _ _ (Nat.lt_of_le_of_lt (Nat.div_le_self _ _) hxb) (by omega), Nat.and_one_is_mod, bit_at le hgx, hbit]
      have hq : ((bit : Int) == 1) = decide (bit = 1) := by
        rw [Bool.eq_iff_iff]
        simp
        omega
      obtain ⟨fn, tmps, assign, body, hy, hR⟩ := hY _ (decide (bit = 1)) wr hJs (by rw [topBits_length]; omega)
      have hjl : ((j / 32 : Nat) : Int) < (es.length : Int) := by omega
      have hstep := Lib.hid (show topBits (val es) (nbits (val es) - (j + 1)) ++ [decide (bit = 1)] = topBits (val es) (nbits (val es) - j) by
        rw [show nbits (val es) - j = nbits (val es) - (j + 1) + 1 by omega, topBits_succ, hbit, show nbits (val es) - 1 - (nbits (val es) - (j + 1)) = j by omega])
      clear hgx hbit hcl
      gi_wp2
      refine hR.mono ?_
      rintro e W3 (⟨rfl, hJ3, hk3⟩ | ⟨rfl, hJx3⟩)
      · gi_wp2
        go_roundw
        case rel => exact ⟨j, by omega, by go_num, by rw [← hstep.out]; exact hJ3, hk.trans hk3⟩
        case measure => simp [intOf]
      · gi_wp2
        refine bodyPost_ret (results_none rfl _ _ _) rfl ?_
        exact ⟨⟨_, rfl⟩, .inr ⟨_, ⟨nbits (val es) - j, by omega, hstep.out⟩, hJx3⟩⟩
theorem bits_stops (n : Nat) (hn : 1 ≤ n) (Bs n₀ : Nat) (Y : Option Addr) (d : Nat) (es : List Nat) (hl : es.length ≤ 30000) (le : Lim 4294967296 es) (he : isRight es = true) (w : World) (hBs : Bs < w.heap.size) (hn0 : n₀ ≤ w.heap.size)
    (hc : w.cell? ⟨Bs, 0, none⟩ = some (.slice Y es.length d)) (hr : es = [] ∨ ∃ b off, Y = some ⟨b, off, none⟩ ∧ b < n₀ ∧ ∀ (i x : Nat), es[i]? = some x → w.cell? ⟨b, off + i, none⟩ = some (.int .u32 (x : Int))) :
    SeqStopsK Fence.wide n Tryz.prog 164 #[.pointer (some ⟨Bs, 0, none⟩)] (fun x : Bool => #[Value.bool x]) (Kp n₀ Bs) (fun ys => ys = topBits (val es) (nbits (val es))) (fun pre => ∃ k, k ≤ nbits (val es) ∧ pre = topBits (val es) k) (nbits (val es)) w := fun l J Jx W hW _ _ hY h0 => by
  have hc' := (hW.cell (p := ⟨Bs, 0, none⟩) hBs).trans hc
  have hr' : es = [] ∨ ∃ b off, Y = some ⟨b, off, none⟩ ∧ b < n₀ ∧ ∀ (i x : Nat), es[i]? = some x → W.cell? ⟨b, off + i, none⟩ = some (.int .u32 (x : Int)) := by
    rcases hr with h | ⟨b, off, h1, h2, h3⟩
    · exact .inl h
    · exact .inr ⟨b, off, h1, h2, fun i x hx => (hW.cell (p := ⟨b, off + i, none⟩) (show b < w.heap.size by omega)).trans (h3 i x hx)⟩
  have hrd : Rd .u32 W Y es := by
    rcases hr' with h | ⟨b, off, h1, h2, h3⟩
    · exact .inl h
    · exact .inr ⟨b, off, h1, by have := hW.size; omega, h3⟩
  exact bits1_in n hn l Bs n₀ Y d es hl le he J Jx hY W hc' hr' hrd h0
def ofBits (bs : List Bool) : Nat := bs.foldl (fun a b => 2 * a + (if b then 1 else 0)) 0
theorem ofBits_snoc (bs : List Bool) (b : Bool) : ofBits (bs ++ [b]) = 2 * ofBits bs + (if b then 1 else 0) := by simp [ofBits]
theorem ofBits_top (E k : Nat) (h : k ≤ nbits E) : ofBits (topBits E k) = E / 2 ^ (nbits E - k) := by
  induction k with
  | zero =>
    rw [Nat.sub_zero, Nat.div_eq_of_lt (lt_nbits E)]
    rfl
  | succ k ih =>
    rw [topBits_succ, ofBits_snoc, ih (by omega)]
    have e : nbits E - k = nbits E - (k + 1) + 1 := by omega
    have h1 := bit_step E (nbits E - (k + 1))
    rw [e]
    rw [show nbits E - 1 - k = nbits E - (k + 1) by omega]
    generalize E / 2 ^ (nbits E - (k + 1) + 1) = q at *
    generalize E / 2 ^ (nbits E - (k + 1)) = p at *
    by_cases hb : p % 2 = 1
    · rw [decide_eq_true hb]
      simp
      omega
    · rw [decide_eq_false hb]
      simp
      omega
theorem ofBits_all (E : Nat) : ofBits (topBits E (nbits E)) = E := by
  rw [ofBits_top _ _ (Nat.le_refl _), Nat.sub_self]
  simp
def CK (w : World) (bB : Nat) (W : World) : Prop := w.heap.size ≤ W.heap.size ∧ ∀ (p : Addr) (v : Value), w.cell? p = some v → p ≠ ⟨bB, 0, none⟩ → W.cell? p = some v
section
variable {w W W' : World} {bB : Nat}
theorem CK.refl (w : World) (bB : Nat) : CK w bB w := ⟨Nat.le_refl _, fun _ _ h _ => h⟩
theorem CK.below (h : CK w bB W) (hb : Below W.heap.size W W') : CK w bB W' := ⟨Nat.le_trans h.1 hb.size, fun p v hv hp => by
  have := h.2 p v hv hp
  exact (hb.cell (World.block_lt_of_cell? W p this)).trans this⟩
theorem CK.set (h : CK w bB W) (u : Value) : CK w bB (W.setCell ⟨bB, 0, none⟩ u) := ⟨by simpa using h.1, fun p v hv hp => (World.cell?_setCell_other W _ _ _ (fun e => hp e.symm)).trans (h.2 p v hv hp)⟩
theorem CK.rd {k : IntKind} {A : Option Addr} {xs : List Nat} (h : CK w bB W) (hB : ∃ a n c, w.cell? ⟨bB, 0, none⟩ = some (.slice a n c)) (hr : Rd k w A xs) : Rd k W A xs := by
  rcases hr with rfl | ⟨b, off, rfl, hl, hc⟩
  · exact Rd.nil _ _ _
  · refine .inr ⟨b, off, rfl, Nat.lt_of_lt_of_le hl h.1, fun i x hx => h.2 _ _ (hc i x hx) fun e => ?_⟩
    obtain ⟨a, n, c, h2⟩ := hB
    have h1 := hc i x hx
    rw [e, h2] at h1
    cases h1
theorem CK.mrd {g : Nat} {ms : List Nat} {ninv : Nat} (h : CK w bB W) (hB : ∃ a n c, w.cell? ⟨bB, 0, none⟩ = some (.slice a n c)) (hg : g ≠ bB) (hr : MRd w g ms ninv) : MRd W g ms ninv := by
  obtain ⟨A, c, h0, h1, h2, h3⟩ := hr
  exact ⟨A, c, Nat.lt_of_lt_of_le h0 h.1, h.2 _ _ h1 (by intro e; injection e with e; exact hg e), h.2 _ _ h2 (by intro e; injection e with e; exact hg e), h.rd hB h3⟩
theorem rd_setcell {k : IntKind} {A : Option Addr} {xs : List Nat} {P : Nat} {u : Value} (h : Rd k W A xs) (hb : ∃ a n c, W.cell? ⟨P, 0, none⟩ = some (.slice a n c)) : Rd k (W.setCell ⟨P, 0, none⟩ u) A xs := by
  rcases h with rfl | ⟨b, off, rfl, hl, hc⟩
  · exact Rd.nil _ _ _
  · refine .inr ⟨b, off, rfl, by simpa using hl, fun i x hx => ?_⟩
    have h1 := hc i x hx
    refine (World.cell?_setCell_other W _ _ _ ?_).trans h1
    intro e
    obtain ⟨a, n, c, h2⟩ := hb
    rw [e] at h2
    rw [h1] at h2
    cases h2
theorem rd_kept {k : IntKind} {A : Option Addr} {xs : List Nat} {row : Option Nat} (h : Rd k W A xs) (hg : W.grownBy W' row) (hr : ∀ r, row = some r → ∃ o : Obj, W.heap[r]? = some o ∧ o.isCells = false) : Rd k W' A xs := by
  rcases h with rfl | ⟨b, off, rfl, hl, hc⟩
  · exact Rd.nil _ _ _
  · exact .inr ⟨b, off, rfl, Nat.lt_of_lt_of_le hl hg.size, fun i x hx => cell_kept (hc i x hx) hg hr⟩
theorem CK.kept {row : Option Nat} (h : CK w bB W) (hg : W.grownBy W' row) (hr : ∀ r, row = some r → ∃ o : Obj, W.heap[r]? = some o ∧ o.isCells = false) : CK w bB W' :=
  ⟨Nat.le_trans h.1 hg.size, fun p v hv hp => cell_kept (h.2 p v hv hp) hg hr⟩
end
def Pw (w : World) (bB : Nat) (ms : List Nat) (X : Nat) (pre : List Bool) (W : World) : Prop :=
  CK w bB W ∧ ∃ A c rr, W.cell? ⟨bB, 0, none⟩ = some (.slice A ms.length c) ∧ W.frozen? ⟨bB, 0, none⟩ = false ∧ rr.length = ms.length ∧ Lim 4294967296 rr ∧ Rep (val ms) (radix ms) (val rr) (X ^ ofBits pre) ∧ Rd .u32 W A rr
theorem Pw.own (w : World) (bB : Nat) (ms : List Nat) (X B : Nat) : OwnFrom B (Pw w bB ms X) := by
  rintro s W W' row ⟨h, A, c, rr, h1, h2, h3, h4, h5, h6⟩ hg hr
  have hr' : ∀ r, row = some r → ∃ o : Obj, W.heap[r]? = some o ∧ o.isCells = false := fun r e => (hr r e).2
  exact ⟨h.kept hg hr', A, c, rr, cell_kept h1 hg hr', (frozen_kept h1 hg hr').trans h2, h3, h4, h5, rd_kept h6 hg hr'⟩
theorem step_keeps {W W1 : World} (hb : Below W.heap.size W W1) (bB : Nat) (u : Value) : KeepsOthers W (W1.setCell ⟨bB, 0, none⟩ u) :=
  (KeepsOthers.of_grownBy (row := none) (only_of_below hb none) (fun _ _ h => by cases h)).trans (KeepsOthers.setCell _ _ _)
theorem step_kp {W W1 : World} {n₀ Bs bB : Nat} (hb : Below W.heap.size W W1) (hn : n₀ ≤ W.heap.size) (hB : n₀ ≤ bB) (hBs : Bs < W.heap.size) (hne : Bs ≠ bB) (u : Value) : Kp n₀ Bs W (W1.setCell ⟨bB, 0, none⟩ u) :=
  ⟨(hb.mono hn).setCell (p := ⟨bB, 0, none⟩) hB u, (Below.heap_setCell W1 ⟨bB, 0, none⟩ u Bs hne).trans (hb.block Bs hBs)⟩
theorem step_pw {w W W1 : World} {bB c v : Nat} {ms rs : List Nat} {X E' : Nat} {pre : List Bool} {A : Option Addr} {bs : List Bool} (hck : CK w bB W) (hb : Below W.heap.size W W1) (hs : ∃ a n c, W1.cell? ⟨bB, 0, none⟩ = some (.slice a n c)) (hf : W1.frozen? ⟨bB, 0, none⟩ = false)
    (hl : rs.length = ms.length) (lr : Lim 4294967296 rs) (hr : Rd .u32 W1 A rs) (hRep : Rep (val ms) (radix ms) (val rs) (X ^ ofBits bs)) : Pw w bB ms X bs (W1.setCell ⟨bB, 0, none⟩ (.slice A ms.length c)) := by
  obtain ⟨a', n', c', hs'⟩ := hs
  exact ⟨(hck.below hb).set _, A, c, rs, World.cell?_setCell_same W1 _ _ hs', by rw [World.frozen?_setCell]; exact hf, hl, lr, hRep, rd_setcell hr ⟨_, _, _, hs'⟩⟩
end Go.Proofs.YtchaahnhpeoomaaGreat
namespace Go.Proofs.YtchaahnhpeoomaaGreat
set_option linter.unusedVariables false
set_option linter.unusedSimpArgs false
set_option maxRecDepth 20000
open Go.RowKit
attribute [local go_sem] Oper.semAt_some
theorem below_drew {n : Nat} {a w : World} (h : Below n a w) : Below n a w.drew := below_drewN h 1
section
variable {W W' : World} {P : Nat}
theorem qk (h : Below W.heap.size W W') (k : W.cell? ⟨P, 0, none⟩ = some (.slice none 0 0) ∧ W.frozen? ⟨P, 0, none⟩ = false ∧ P < W.heap.size) : W'.cell? ⟨P, 0, none⟩ = some (.slice none 0 0) ∧ W'.frozen? ⟨P, 0, none⟩ = false ∧ P < W'.heap.size :=
  ⟨(h.cell (p := ⟨P, 0, none⟩) k.2.2).trans k.1, (World.frozen?_of_block (w := W) (a := ⟨P, 0, none⟩) (h.block P k.2.2)).trans k.2.1, Nat.lt_of_lt_of_le k.2.2 h.size⟩
theorem q0 (k : W.cell? ⟨P, 0, none⟩ = some (.slice none 0 0) ∧ W.frozen? ⟨P, 0, none⟩ = false ∧ P < W.heap.size) : (W.alloc (.cells #[.slice none 0 0] 128)).cell? ⟨P, 0, none⟩ = some (.slice none 0 0) ∧ (W.alloc (.cells #[.slice none 0 0] 128)).frozen? ⟨P, 0, none⟩ = false ∧ P < (W.alloc (.cells #[.slice none 0 0] 128)).heap.size :=
  qk ((Below.refl _ _).alloc (Nat.le_refl _) _) k
theorem qn (W : World) : (W.alloc (.cells #[.slice none 0 0] 128)).cell? ⟨W.heap.size, 0, none⟩ = some (.slice none 0 0) ∧ (W.alloc (.cells #[.slice none 0 0] 128)).frozen? ⟨W.heap.size, 0, none⟩ = false ∧ W.heap.size < (W.alloc (.cells #[.slice none 0 0] 128)).heap.size := by simp
theorem qn2 (W : World) : ((W.alloc (.cells #[.slice none 0 0] 128)).alloc (.cells #[.slice none 0 0] 128)).cell? ⟨W.heap.size + 1, 0, none⟩ = some (.slice none 0 0) ∧ ((W.alloc (.cells #[.slice none 0 0] 128)).alloc (.cells #[.slice none 0 0] 128)).frozen? ⟨W.heap.size + 1, 0, none⟩ = false ∧ W.heap.size + 1 < ((W.alloc (.cells #[.slice none 0 0] 128)).alloc (.cells #[.slice none 0 0] 128)).heap.size := by
  have h := qn (W.alloc (.cells #[.slice none 0 0] 128))
  rwa [World.size_alloc] at h
def BoxAt (W : World) (P : Nat) : Prop := ∃ a n c, W.cell? ⟨P, 0, none⟩ = some (.slice a n c)
theorem boxat_of (k : W.cell? ⟨P, 0, none⟩ = some (.slice none 0 0) ∧ W.frozen? ⟨P, 0, none⟩ = false ∧ P < W.heap.size) : BoxAt W P := ⟨_, _, _, k.1⟩
theorem rd_setbox {A : Option Addr} {xs : List Nat} {u : Value} (h : Rd .u32 W A xs) (hb : BoxAt W P) : Rd .u32 (W.setCell ⟨P, 0, none⟩ u) A xs := by
  rcases h with rfl | ⟨b, off, rfl, hl, hc⟩
  · exact Rd.nil _ _ _
  · refine .inr ⟨b, off, rfl, by simpa using hl, fun i x hx => ?_⟩
    have h1 := hc i x hx
    refine (World.cell?_setCell_other W _ _ _ ?_).trans h1
    intro e
    obtain ⟨a, n, c, h2⟩ := hb
    rw [e] at h2
    rw [h1] at h2
    cases h2
theorem boxat_set {Q : Nat} {a : Option Addr} {n c : Nat} (h : BoxAt W P) : BoxAt (W.setCell ⟨Q, 0, none⟩ (.slice a n c)) P := by
  obtain ⟨a', n', c', h2⟩ := h
  by_cases e : P = Q
  · subst e
    exact ⟨a, n, c, World.cell?_setCell_same W _ _ h2⟩
  · exact ⟨a', n', c', (World.cell?_setCell_other W _ _ _ (by intro h; injection h with h; exact e h.symm)).trans h2⟩
theorem qdrew (k : W.cell? ⟨P, 0, none⟩ = some (.slice none 0 0) ∧ W.frozen? ⟨P, 0, none⟩ = false ∧ P < W.heap.size) : W.drew.cell? ⟨P, 0, none⟩ = some (.slice none 0 0) ∧ W.drew.frozen? ⟨P, 0, none⟩ = false ∧ P < W.drew.heap.size := k
end
theorem own_put {k : IntKind} {W : World} {B D : Nat} {A : Option Addr} {xs : List Nat} {o o' : Obj} (h : Own k W B A xs) (hD : W.heap[D]? = some o) (ho : o.isCells = false) : Own k (W.putObj D o') B A xs := by
  have hr : ∀ r, some D = some r → ∃ o : Obj, W.heap[r]? = some o ∧ o.isCells = false := fun r e => by
    injection e with e
    subst e
    exact ⟨o, hD, ho⟩
  rcases h with rfl | ⟨g, off, ds, rfl, hB, ⟨hl, hc⟩, hx⟩
  · exact .inl rfl
  · refine .inr ⟨g, off, ds, rfl, hB, ⟨Nat.lt_of_lt_of_le hl (grownBy_putObj' W D o').size, fun i x hi => ?_⟩, hx⟩
    obtain ⟨h1, h2⟩ := hc i x hi
    exact ⟨cell_kept h1 (grownBy_putObj' W D o') hr, (frozen_kept h1 (grownBy_putObj' W D o') hr).trans h2⟩
set_option maxRecDepth 100000 in
set_option maxHeartbeats 1600000 in
theorem mexpOk_any (B0 g : Nat) (ms : List Nat) (X Y : Option Addr) (n m c d : Nat) (xs es : List Nat) (w : World) (hO : ModOk w B0 g ms) (hM : MayM ms) (hn : n = xs.length) (hm : m = es.length) (hl' : m ≤ 30000) (hx : Rd .u32 w X xs) (hy : Rd .u32 w Y es) (lx : Lim 4294967296 xs) (ly : Lim 4294967296 es)
    (h1 : mayOf xs ms = true) (h2 : isRight es = true) :
    Calls Tryz.prog 115 #[.pointer (some ⟨g, 0, none⟩), .slice X n c, .slice Y m d] w (Gives2 .u32 (limbs (val xs ^ val es % val ms)) 0 w) := by
  subst hn
  subst hm
  obtain ⟨rx, hxM, hxl⟩ := mayOf_out hM.lm lx h1
  have hml := hM.len
  have hg0 : g < w.heap.size := by obtain ⟨_, _, _, ⟨_, _, h, _⟩, _⟩ := hO.mrd; exact h
  have hO1 := hO.below ((Below.refl w.heap.size w).alloc (Nat.le_refl _) (.cells #[.pointer (some ⟨g, 0, none⟩)] 174))
  obtain ⟨ninv, A2, c2, hR, hsq, hrs, hnl, hni⟩ := hO1.mrd
  refine (callsIn_wide (n := 8)).1 ?_
  refine callsIn_of_wp_marks Tryz.func115 rfl trivial ?_ rfl
  refine wpIn_wide.2 ?_
  simp only [Tryz.ntmps115, List.size_toArray, List.length_cons, List.length_nil, Nat.reduceAdd, Nat.reduceSub, Array.replicate_succ, Array.replicate_zero, List.push_toArray, List.append_toArray, List.nil_append, List.cons_append]
  have hB1 : Below w.heap.size w (w.alloc (.cells #[.pointer (some ⟨g, 0, none⟩)] 174)) := (Below.refl _ _).alloc (Nat.le_refl _) _
  have hbox : (w.alloc (.cells #[.pointer (some ⟨g, 0, none⟩)] 174)).cell? ⟨w.heap.size, 0, none⟩ = some (.pointer (some ⟨g, 0, none⟩)) := by simp
  have hbl : w.heap.size < (w.alloc (.cells #[.pointer (some ⟨g, 0, none⟩)] 174)).heap.size := by simp
  have hx1 := hx.below hB1
  have hy1 := hy.below hB1
  have hmay := Lib.hid (mmay_any g ms ninv X _ c xs _ hR hM.right rfl (by omega) hx1 lx hM.lm)
  rw [h1] at hmay
  clear hO hO1 h1
  go_wp2_with fail
  refine hmay.out.mono ?_
  rintro e w' ⟨rfl, q, rfl⟩
  clear hmay
  replace hbox : ((w.alloc (.cells #[.pointer (some ⟨g, 0, none⟩)] 174)).drewN q).cell? ⟨w.heap.size, 0, none⟩ = some (.pointer (some ⟨g, 0, none⟩)) := hbox
  replace hbl : w.heap.size < ((w.alloc (.cells #[.pointer (some ⟨g, 0, none⟩)] 174)).drewN q).heap.size := hbl
  replace hB1 := below_drewN hB1 q
  replace hR := hR.below (below_drewN (Below.refl _ _) q)
  replace hsq : ((w.alloc (.cells #[.pointer (some ⟨g, 0, none⟩)] 174)).drewN q).cell? ⟨g, 2, none⟩ = some (.slice A2 (sqM ms).length c2) := hsq
  replace hrs := hrs.drewN q
  clear hx1 hy1
  generalize (w.alloc (.cells #[.pointer (some ⟨g, 0, none⟩)] 174)).drewN q = w1 at *
  go_wp2_with fail
  refine (right_any Y _ d es w1 rfl (by omega) (hy.below hB1)).mono ?_
  rintro e w' ⟨rfl, rfl⟩
  rw [h2]
  have hgl : g < w1.heap.size := by obtain ⟨_, _, h, _⟩ := hR; exact h
  have hsl := sqM_len hM
  have hp := hM.pos
  have hSS : ∀ W, Below w1.heap.size w1 W → (Below w1.heap.size w1 W ∧ W.cell? ⟨w.heap.size, 0, none⟩ = some (.pointer (some ⟨g, 0, none⟩)) ∧ W.cell? ⟨g, 2, none⟩ = some (.slice A2 (sqM ms).length c2)) := fun W h =>
    ⟨h, (h.cell (p := ⟨w.heap.size, 0, none⟩) hbl).trans hbox, (h.cell (p := ⟨g, 2, none⟩) hgl).trans hsq⟩
  go_upto_region 5 with fail
  go_cut [8, 9] from 26 to 34 (fun s8 s9 wx => ∃ A8 c8 A9 c9 r8 r9, s8 = .slice A8 ms.length c8 ∧ s9 = .slice A9 ms.length c9 ∧ Hid (r8.length = ms.length) ∧ Lim 4294967296 r8 ∧ Hid (val r8 = val (sqM ms)) ∧ Rd .u32 wx A8 r8 ∧ Hid (r9.length = ms.length) ∧ Lim 4294967296 r9 ∧ Hid (val r9 = 1) ∧ Rd .u32 wx A9 r9 ∧ Below w1.heap.size w1 wx)
  case first =>
    have hd0 : Below w1.heap.size w1 w1.drew := below_drewN (Below.refl _ _) 1
    have hd1 : Below w1.heap.size w1 (w1.alloc (.cells #[.int .u32 1] 129)).drew := below_drewN ((Below.refl _ _).alloc (Nat.le_refl _) _) 1
    have hr1 : Rd .u32 (w1.alloc (.cells #[.int .u32 1] 129)).drew (some ⟨w1.heap.size, 0, none⟩) [1] := Rd.of_all (blk_lit (k := .u32) (t := 129) w1 [1] #[.int .u32 1] rfl)
    have hW1 : Hid (∀ W, Below w1.heap.size w1 W → Calls Tryz.prog 139 #[.pointer (some ⟨g, 0, none⟩), .slice A2 (sqM ms).length c2] W (GivesRow ms.length (val (sqM ms)) W)) := fun W h => mwide_any g ms ninv A2 (sqM ms).length c2 (sqM ms) _ (hR.below h) (by omega) rfl hsl (hrs.below h) (limbs_lim _)
    have hW2 : Hid (∀ W b, Below w1.heap.size w1 W → Rd .u32 W (some ⟨b, 0, none⟩) [1] → Calls Tryz.prog 139 #[.pointer (some ⟨g, 0, none⟩), .slice (some ⟨b, 0, none⟩) 1 1] W (GivesRow ms.length (val [1]) W)) := fun W b h hr => mwide_any g ms ninv _ 1 1 [1] _ (hR.below h) (by omega) rfl hp hr (fun x hx => by simp at hx; omega)
    go_region_held3 (fun W => Below w1.heap.size w1 W ∧ W.cell? ⟨w.heap.size, 0, none⟩ = some (.pointer (some ⟨g, 0, none⟩)) ∧ W.cell? ⟨g, 2, none⟩ = some (.slice A2 (sqM ms).length c2))
      (first | with_reducible exact hSS _ hcur9 | with_reducible exact hSS _ hcur8 | with_reducible exact hSS _ hd0 | with_reducible exact hSS _ (hcur8.alloc hcur8.size _) | with_reducible exact hSS _ hd1)
      (first
        | (go_at_call 139; (with_reducible refine (hW1.out _ hd0).mono ?_); rintro e w8 ⟨r8, k1, k2, k3, A8, c8, rfl, _, _, k6, k7⟩; have hcur8 := hd0.trans (k7.mono hd0.size); rw [k1])
        | (go_at_call 139; (with_reducible refine (hW1.out _ hd1).mono ?_); rintro e w8 ⟨r8, k1, k2, k3, A8, c8, rfl, _, _, k6, k7⟩; have hcur8 := hd1.trans (k7.mono hd1.size); have hr8 := hr1.below k7; rw [k1])
        | (go_at_call 139; (with_reducible refine (hW2.out _ _ hcur8 hr8).mono ?_); rintro e w9 ⟨r9, l1, l2, l3, A9, c9, rfl, _, _, l6, l7⟩; have hcur9 := hcur8.trans (l7.mono hcur8.size); have hr8' := k6.rd.below l7; rw [l1])
        | (go_at_call 139; (with_reducible refine (hW2.out _ _ (hcur8.alloc hcur8.size (.cells #[.int .u32 1] 129)) (Rd.of_all (blk_lit (k := .u32) (t := 129) w8 [1] #[.int .u32 1] rfl))).mono ?_); rintro e w9 ⟨r9, l1, l2, l3, A9, c9, rfl, _, _, l6, l7⟩; have hcur9 := (hcur8.alloc hcur8.size (.cells #[.int .u32 1] 129)).trans (l7.mono (hcur8.alloc hcur8.size (.cells #[.int .u32 1] 129)).size); have hr8' := (k6.rd.alloc (.cells #[.int .u32 1] 129)).below l7; rw [l1]))
    all_goals go_wp2_with fail
    all_goals go_meet
    all_goals
      case rel => exact ⟨A8, c8, A9, c9, r8, r9, rfl, rfl, k1, k2, k3, hr8', l1, l2, l3, l6.rd, hcur9⟩
  case rest =>
    obtain ⟨A8, c8, A9, c9, r8, r9, rfl, rfl, k1, k2, k3, k4, l1, l2, l3, l4, hb2⟩ := hcut
    obtain ⟨w2, rfl⟩ : ∃ w2, w2 = wc := ⟨wc, rfl⟩
    clear hSS
    have hgl2 := Nat.lt_of_lt_of_le hgl hb2.size
    have hR2 := hR.below hb2
    have hbox2 := (hb2.cell (p := ⟨w.heap.size, 0, none⟩) hbl).trans hbox
    have hbl2 := Nat.lt_of_lt_of_le hbl hb2.size
    have hB2 := hB1.trans (hb2.mono hB1.size)
    have hx2 := hx.below hB2
    have hsv := sqM_lt hM
    have hlm := hM.lm
    have hW1 : Hid (∀ W, Below w2.heap.size w2 W → Calls Tryz.prog 139 #[.pointer (some ⟨g, 0, none⟩), .slice X xs.length c] W (GivesRow ms.length (val xs) W)) := fun W h => mwide_any g ms ninv X xs.length c xs _ (hR2.below h) (by omega) rfl hxl (hx2.below h) lx
    have hW2 : Hid (∀ W A cc r, Below w2.heap.size w2 W → Rd .u32 W A r → Lim 4294967296 r → r.length = ms.length → Calls Tryz.prog 140 #[.pointer (some ⟨g, 0, none⟩), .slice A ms.length cc, .slice A8 ms.length c8] W (GivesRow ms.length (mred (val ms) ninv (val r8) r) W)) := fun W A cc r h hr lr hl => mreduce_any g ms ninv A A8 _ _ cc c8 r r8 W (hR2.below h) (by omega) rfl rfl hl k1 hr (k4.below h) lr k2 hlm hni hnl hp (by rw [k3.out]; exact hsv)
    have hW3 : Hid (∀ W, Below w2.heap.size w2 W → Calls Tryz.prog 140 #[.pointer (some ⟨g, 0, none⟩), .slice A9 ms.length c9, .slice A8 ms.length c8] W (GivesRow ms.length (mred (val ms) ninv (val r8) r9) W)) := fun W h => mreduce_any g ms ninv A9 A8 _ _ c9 c8 r9 r8 W (hR2.below h) (by omega) rfl rfl l1 k1 (l4.below h) (k4.below h) l2 k2 hlm hni hnl hp (by rw [k3.out]; exact hsv)
    have hSS : ∀ W, Below w2.heap.size w2 W → (Below w2.heap.size w2 W ∧ W.cell? ⟨w.heap.size, 0, none⟩ = some (.pointer (some ⟨g, 0, none⟩))) := fun W h => ⟨h, (h.cell (p := ⟨w.heap.size, 0, none⟩) hbl2).trans hbox2⟩
    have hd0 : Below w2.heap.size w2 w2.drew := below_drewN (Below.refl _ _) 1
    have hR1 := hR
    clear hR2 hx2 hlm hsv k4 hR hbox hsq hrs
    go_upto_region 6 with fail
    go_cut [10, 11] from 35 to 44 (fun s10 s11 wx => ∃ bA bB Ab cb rb Ad cd rd ra, s10 = .pointer (some ⟨bA, 0, none⟩) ∧ s11 = .pointer (some ⟨bB, 0, none⟩) ∧ w2.heap.size ≤ bA ∧ w2.heap.size ≤ bB ∧ bA ≠ bB ∧ wx.cell? ⟨bA, 0, none⟩ = some (.slice Ab ms.length cb) ∧ wx.cell? ⟨bB, 0, none⟩ = some (.slice Ad ms.length cd) ∧ wx.frozen? ⟨bB, 0, none⟩ = false ∧
      Hid (rb.length = ms.length) ∧ Lim 4294967296 rb ∧ Hid (val rb = mred (val ms) ninv (val r8) ra) ∧ Hid (ra.length = ms.length) ∧ Lim 4294967296 ra ∧ Hid (val ra = val xs) ∧ Hid (rd.length = ms.length) ∧ Lim 4294967296 rd ∧ Hid (val rd = mred (val ms) ninv (val r8) r9) ∧ Rd .u32 wx Ab rb ∧ Rd .u32 wx Ad rd ∧ Below w2.heap.size w2 wx)
    case first =>
     go_region_held3 (fun W => Below w2.heap.size w2 W ∧ W.cell? ⟨w.heap.size, 0, none⟩ = some (.pointer (some ⟨g, 0, none⟩)))
      (first | with_reducible exact hSS _ hcurC | with_reducible exact hSS _ hcurB | with_reducible exact hSS _ hcurA | with_reducible exact hSS _ hd0 | (refine hSS _ ?_; repeat' (first | (with_reducible assumption) | (with_reducible exact Below.refl _ _) | (with_reducible refine below_drew ?_) | (with_reducible refine Below.alloc ?_ ?_ _) | (with_reducible refine Below.setCell ?_ ?_ _) | omega | (simp; done) | (simp; omega))))
      (first
        | (go_at_call 139; (with_reducible refine (hW1.out _ ‹Below w2.heap.size w2 _ ∧ _›.1).mono ?_); rintro e wa ⟨ra, a1, a2, a3, Aa, ca, rfl, _, _, a6, a7⟩; have hcurA := ‹Below w2.heap.size w2 _ ∧ _›.1.trans (a7.mono ‹Below w2.heap.size w2 _ ∧ _›.1.size); have ha4 := hcurA.size; (first | (have qa1 := qk a7 (qdrew (qn w2)); skip) | (have qa1 := qk a7 (qdrew (q0 (qn w2))); have qa2 := qk a7 (qdrew (qn2 w2)); skip) | skip); have ha5 := a6.rd; rw [a1])
        | (go_at_call 140; (with_reducible refine (hW2.out _ _ _ _ ‹Below w2.heap.size w2 _ ∧ _›.1 (by first | exact ha5 | exact ha5.alloc _ | exact (ha5.alloc _).alloc _) a2 a1).mono ?_); rintro e wb ⟨rb, b1, b2, b3, Ab, cb, rfl, _, _, b6, b7⟩; have hcurB := ‹Below w2.heap.size w2 _ ∧ _›.1.trans (b7.mono ‹Below w2.heap.size w2 _ ∧ _›.1.size); have hb4 := hcurB.size; (first | (have qb3 := qk b7 (qn wa); skip) | (have qb3 := qk b7 (q0 (qn wa)); have qb4 := qk b7 (qn2 wa); skip) | skip); (first | (have qb1 := qk b7 qa1; skip) | (have qb1 := qk b7 (q0 qa1); skip) | skip); (first | (have qb2 := qk b7 qa2; skip) | skip); have hb5 := b6.rd; rw [b1])
        | (go_at_call 140; (with_reducible refine (hW3.out _ ‹Below w2.heap.size w2 _ ∧ _›.1).mono ?_); rintro e wd ⟨rd, d1, d2, d3, Ad, cd, rfl, _, _, d6, d7⟩; have hcurC := ‹Below w2.heap.size w2 _ ∧ _›.1.trans (d7.mono ‹Below w2.heap.size w2 _ ∧ _›.1.size); have hd4 := hcurC.size; (first | (have qc5 := qk d7 (qn wb); skip) | (have qc5 := qk d7 (q0 (qn wb)); have qc6 := qk d7 (qn2 wb); skip) | skip); (first | (have qc1 := qk d7 qb1; skip) | (have qc1 := qk d7 (q0 qb1); skip) | skip); (first | (have qc2 := qk d7 qb2; skip) | (have qc2 := qk d7 (q0 qb2); skip) | skip); (first | (have qc3 := qk d7 qb3; skip) | (have qc3 := qk d7 (q0 qb3); skip) | skip); (first | (have qc4 := qk d7 qb4; skip) | (have qc4 := qk d7 (q0 qb4); skip) | skip); have hb5' : Rd .u32 wd Ab rb := (by first | exact hb5.below d7 | exact (hb5.alloc _).below d7 | exact ((hb5.alloc _).alloc _).below d7); rw [d1]))
     all_goals go_wp2_with fail
     all_goals go_meet
     all_goals
       case rel =>
        have dR := d6.rd
        refine ⟨_, _, Ab, cb, rb, Ad, cd, rd, ra, rfl, rfl, ?p1, ?p2, ?p3, ?p4, ?p5, ?p6, b1, b2, b3, a1, a2, a3, d1, d2, d3, ?r1, ?r2, ?p7⟩
        case p1 => first | omega | (simp; done) | (simp; omega)
        case p2 => first | omega | (simp; done) | (simp; omega)
        case p3 => first | omega | (simp; done) | (simp; omega)
        case p4 => go_simp
        case p5 => go_simp
        case p6 => go_simp
        case r1 => repeat' (first | (with_reducible assumption) | (with_reducible refine Rd.alloc ?_ _) | (with_reducible refine rd_setbox ?_ ?_) | (with_reducible refine boxat_set ?_) | (with_reducible exact boxat_of qc1) | (with_reducible exact boxat_of qc2) | (with_reducible exact boxat_of qc3) | (with_reducible exact boxat_of qc4) | (with_reducible exact boxat_of qc5) | (with_reducible exact boxat_of qc6))
        case r2 => repeat' (first | (with_reducible assumption) | (with_reducible refine Rd.alloc ?_ _) | (with_reducible refine rd_setbox ?_ ?_) | (with_reducible refine boxat_set ?_) | (with_reducible exact boxat_of qc1) | (with_reducible exact boxat_of qc2) | (with_reducible exact boxat_of qc3) | (with_reducible exact boxat_of qc4) | (with_reducible exact boxat_of qc5) | (with_reducible exact boxat_of qc6))
        case p7 => repeat' (first | (with_reducible assumption) | (with_reducible refine below_drew ?_) | (with_reducible refine Below.alloc ?_ ?_ _) | (with_reducible refine Below.setCell ?_ ?_ _) | omega | (simp; done) | (simp; omega))
    case rest =>
     obtain ⟨bA, bB, Ab, cb, rb, Ad, cd, rd, ra, rfl, rfl, hbA, hbB, hne, hcA, hcB, hfB, b1, b2, b3, a1, a2, a3, d1, d2, d3, hrA, hrB, hb3⟩ := hcut
     obtain ⟨w3, rfl⟩ : ∃ w3, w3 = wc := ⟨wc, rfl⟩
     have hB3 := hB2.trans (hb3.mono hB2.size)
     clear hW1 hW2 hW3 hSS hd0
     go_wp2_with fail
     refine (mbits_any Y es.length d w3).mono ?_
     rintro e w' ⟨rfl, rfl⟩
     go_wp2_with fail
     have hb4 : Below w3.heap.size w3 (w3.alloc (.cells #[.slice Y es.length d] 128)) := (Below.refl _ _).alloc (Nat.le_refl _) _
     have hbe : (w3.alloc (.cells #[.slice Y es.length d] 128)).cell? ⟨w3.heap.size, 0, none⟩ = some (.slice Y es.length d) := by simp
     have hBsl : w3.heap.size < (w3.alloc (.cells #[.slice Y es.length d] 128)).heap.size := by simp
     have hbBl3 : bB < w3.heap.size := World.block_lt_of_cell? w3 _ hcB
     have hbAl3 : bA < w3.heap.size := World.block_lt_of_cell? w3 _ hcA
     replace hcA := (hb4.cell (p := ⟨bA, 0, none⟩) hbAl3).trans hcA
     replace hcB := (hb4.cell (p := ⟨bB, 0, none⟩) hbBl3).trans hcB
     replace hfB := (World.frozen?_of_block (w := w3) (a := ⟨bB, 0, none⟩) (hb4.block bB hbBl3)).trans hfB
     replace hrA := hrA.below hb4
     replace hrB := hrB.below hb4
     have hB4 := hB3.trans (hb4.mono hB3.size)
     have hbox3 := (hb3.cell (p := ⟨w.heap.size, 0, none⟩) hbl2).trans hbox2
     replace hbox3 := (hb4.cell (p := ⟨w.heap.size, 0, none⟩) (World.block_lt_of_cell? w3 _ hbox3)).trans hbox3
     have hR3 : MRd (w3.alloc (.cells #[.slice Y es.length d] 128)) g ms ninv := ((hR1.below hb2).below hb3).below hb4
     have hl4 := (l4.below hb3).below hb4
     have hBsB : w3.heap.size ≠ bB := by omega
     generalize hw4 : w3.alloc (.cells #[.slice Y es.length d] 128) = w4 at *
     clear hw4
     generalize w3.heap.size = Bs at *
     have hx3 : val rb < val ms ∧ val rd < val ms := ⟨by rw [b3.out]; exact mred_lt hni (by rw [k3.out]; exact sqM_lt hM) a2, by rw [d3.out]; exact mred_lt hni (by rw [k3.out]; exact sqM_lt hM) l2⟩
     have hRepB : Rep (val ms) (radix ms) (val rb) (val xs) := by
       refine Rep.into (radix_coprime hM) (sqM_cg ms) (Cg.refl _ (val ra)) hx3.1 ?_ |> fun h => by rw [a3.out] at h; exact h
       rw [← k3.out, b3.out]
       exact mred_radix hni a1.out
     have hRepD : Rep (val ms) (radix ms) (val rd) 1 := by
       refine Rep.into (radix_coprime hM) (sqM_cg ms) (Cg.refl _ (val r9)) hx3.2 ?_ |> fun h => by rw [l3.out] at h; exact h
       rw [← k3.out, d3.out]
       exact mred_radix hni l1.out
     have hsl3 : ∃ a n c, w4.cell? ⟨bB, 0, none⟩ = some (.slice a n c) := ⟨_, _, _, hcB⟩
     have hwB : w.heap.size ≤ bB := by have := hB2.size; omega
     have hy0 : es = [] ∨ ∃ b off, Y = some ⟨b, off, none⟩ ∧ b < w.heap.size ∧ ∀ (i x : Nat), es[i]? = some x → w4.cell? ⟨b, off + i, none⟩ = some (.int .u32 (x : Int)) := by
       rcases hy with h | ⟨b, off, e1, e2, e3⟩
       · exact .inl h
       · exact .inr ⟨b, off, e1, e2, fun i x hx => ((hB4.cell (p := ⟨b, off + i, none⟩) e2).trans (e3 i x hx))⟩
     have hPw : Pw w4 bB ms (val xs) [] w4 := ⟨CK.refl _ _, Ad, cd, rd, hcB, hfB, d1.out, d2, by rw [show ofBits [] = 0 from rfl, Nat.pow_zero]; exact hRepD, hrB⟩
     refine (wpIn_wide (n := 8)).1 ?_
     refine wpIn_rangeFunc_ownF rfl (by omega) (gf := 164) (lb := #[.pointer (some ⟨Bs, 0, none⟩)]) rfl trivial (enters_of Tryz.func164 (by kernel_rfl) rfl)
       (bits_stops (8 - 1) (by omega) Bs w.heap.size Y d es hl' ly h2 w4 hBsl hB4.size hbe hy0) Kp.trans (Kp.put hB4.size hBsl) (Below.refl _ _) (fun _ => rfl)
       (fun pre W => Pw w4 bB ms (val xs) pre W ∧ Below w.heap.size w W) (fun _ _ _ => False)
       (OwnFrom.and (Pw.own _ _ _ _ _) (ownFrom_below (Nat.le_refl _) (by have := hB4.size; omega))) (fun _ _ _ _ _ hs _ _ => hs)
       ⟨hPw, hB4⟩ ?a1 ?assign ?body ?done ?stop
     case assign =>
       intro l x W K hK
       gi_wp2
       exact hK
     case body =>
       rintro l pre x W ⟨⟨hck, A, cA, rr, q1, q2, q3, q4, q5, q6⟩, hbW⟩ _
       have hwne : (⟨w.heap.size, 0, none⟩ : Addr) ≠ ⟨bB, 0, none⟩ := by intro e; injection e with e; omega
       have hgne : g ≠ bB := by omega
       have hbW3 := hck.2 _ _ hbox3 hwne
       have hAne : (⟨bA, 0, none⟩ : Addr) ≠ ⟨bB, 0, none⟩ := by intro e; injection e with e; exact hne e
       have hMW := hck.mrd hsl3 hgne hR3
       have c1' := Lib.hid (mreduce_any g ms ninv A A _ _ cA cA rr rr W hMW (by omega) rfl rfl q3 q3 q6 q6 q4 q4 hM.lm hni hnl hp q5.1)
       have hbWl : bB < W.heap.size := World.block_lt_of_cell? W _ q1
       have hwWl : w.heap.size < W.heap.size := World.block_lt_of_cell? W _ hbW3
       have hd6 : 1 ≤ 8 - 1 - 1 := by omega
       cases x with
       | false =>
         gi_wp2_with (refine ⟨trivial, ?_⟩; gi_at_call 140; refine (CallsIn.inRound l (callsIn_wide.2 c1'.out)).mono ?_; rintro e W1 ⟨r1, t1, t2, t3, A1, ca1, rfl, _, _, t6, t7⟩; have q1' := (t7.cell (p := ⟨bB, 0, none⟩) hbWl).trans q1; have q2' := (World.frozen?_of_block (w := W) (a := ⟨bB, 0, none⟩) (t7.block bB hbWl)).trans q2; rw [t1])
         have hv := mred_radix (Y := val rr) (rs := rr) hni q3
         have hlt := mred_lt (Y := val rr) (xs := rr) hni q5.1 q4
         rw [← t3] at hv hlt
         have hRep := Rep.mul (radix_coprime hM) q5 q5 hlt hv
         rw [← Nat.pow_add, show ofBits pre + ofBits pre = ofBits (pre ++ [false]) by rw [ofBits_snoc]; simp; omega] at hRep
         exact ⟨step_keeps t7 bB _, step_kp t7 hbW.size hwB (Nat.lt_of_lt_of_le hBsl hck.1) hBsB _, step_pw (v := 0) (E' := 0) (pre := pre) hck t7 ⟨_, _, _, q1'⟩ q2' t1 t2 t6.rd hRep, (hbW.trans (t7.mono hbW.size)).setCell (p := ⟨bB, 0, none⟩) hwB _⟩
       | true =>
         gi_wp2_with (first
           | (refine ⟨trivial, ?_⟩; gi_at_call 140; (with_reducible refine (CallsIn.inRound l (callsIn_wide.2 c1'.out)).mono ?_); rintro e W1 ⟨r1, t1, t2, t3, A1, ca1, rfl, _, _, t6, t7⟩; have q1' := (t7.cell (p := ⟨bB, 0, none⟩) hbWl).trans q1; have q2' := (World.frozen?_of_block (w := W) (a := ⟨bB, 0, none⟩) (t7.block bB hbWl)).trans q2;
              have hck2 := (hck.below t7).set (.slice A1 ms.length ca1); have hb2' := hck2.2 _ _ hbox3 hwne; have hA2' := hck2.2 _ _ hcA hAne; have q3' := World.cell?_setCell_same W1 ⟨bB, 0, none⟩ (.slice A1 ms.length ca1) q1'; have q4' : (W1.setCell ⟨bB, 0, none⟩ (.slice A1 ms.length ca1)).frozen? ⟨bB, 0, none⟩ = false := (by rw [World.frozen?_setCell]; exact q2');
              have c2' := Lib.hid (mreduce_any g ms ninv A1 Ab _ _ ca1 cb r1 rb (W1.setCell ⟨bB, 0, none⟩ (.slice A1 ms.length ca1)) (hck2.mrd hsl3 hgne hR3) (by omega) rfl rfl t1 b1.out (rd_setcell t6.rd ⟨_, _, _, q1'⟩) (hck2.rd hsl3 hrA) t2 b2 hM.lm hni hnl hp hx3.1); rw [t1])
           | (refine ⟨trivial, ?_⟩; gi_at_call 140; (with_reducible refine (CallsIn.inRound l (callsIn_wide.2 c2'.out)).mono ?_); rintro e W3 ⟨r3, u1', u2', u3', A3, ca3, rfl, _, _, u6', u7'⟩; have hbl5 := World.block_lt_of_cell? _ _ q3'; have q5' := (u7'.cell (p := ⟨bB, 0, none⟩) hbl5).trans q3'; have q6' := (World.frozen?_of_block (a := ⟨bB, 0, none⟩) (u7'.block bB hbl5)).trans q4'; rw [u1']))
         have hv := mred_radix (Y := val rr) (rs := rr) hni q3
         have hlt := mred_lt (Y := val rr) (xs := rr) hni q5.1 q4
         rw [← t3] at hv hlt
         have hRep := Rep.mul (radix_coprime hM) q5 q5 hlt hv
         have hv2 := mred_radix (Y := val rb) (rs := r1) hni t1
         have hlt2 := mred_lt (Y := val rb) (xs := r1) hni hx3.1 t2
         rw [← u3'] at hv2 hlt2
         have hRep2 := Rep.mul (radix_coprime hM) hRep hRepB hlt2 hv2
         rw [← Nat.pow_add, ← Nat.pow_succ, show (ofBits pre + ofBits pre).succ = ofBits (pre ++ [true]) by rw [ofBits_snoc]; simp; omega] at hRep2
         have hkp1 := step_kp t7 hbW.size hwB (Nat.lt_of_lt_of_le hBsl hck.1) hBsB (.slice A1 ms.length ca1)
         have hbW2 := (hbW.trans (t7.mono hbW.size)).setCell (p := ⟨bB, 0, none⟩) hwB (.slice A1 ms.length ca1)
         exact ⟨(step_keeps t7 bB _).trans (step_keeps u7' bB _), hkp1.trans (step_kp u7' hbW2.size hwB (Nat.lt_of_lt_of_le hBsl hck2.1) hBsB _), step_pw (v := 0) (E' := 0) (pre := pre) hck2 u7' ⟨_, _, _, q5'⟩ q6' u1' u2' u6'.rd hRep2, (hbW2.trans (u7'.mono hbW2.size)).setCell (p := ⟨bB, 0, none⟩) hwB _⟩
     case done =>
       rintro D ys W hD rfl ⟨⟨hck, A, cA, rr, q1, q2, q3, q4, q5, q6⟩, hbW⟩ hK
       rw [ofBits_all] at q5
       have hbW3 := hck.2 _ _ hbox3 (by intro e; injection e with e; omega)
       have hMW := hck.mrd hsl3 (show g ≠ bB by omega) hR3
       have c1' := Lib.hid (mreduce_any g ms ninv A A9 _ _ cA c9 rr r9 W hMW (by omega) rfl rfl q3 l1.out q6 (hck.rd hsl3 hl4) q4 l2 hM.lm hni hnl hp (by rw [l3.out]; have := hM.three; omega))
       go_wp2_with fail
       refine c1'.out.mono ?_
       rintro e W1 ⟨r1, t1, t2, t3, A1, ca1, rfl, _, t5, t6, t7⟩
       have hDl := (Array.getElem?_eq_some_iff.1 hK).1
       have hK1 := (t7.block D hDl).trans hK
       have hbW1 := hbW.trans (t7.mono hbW.size)
       have hv := mred_radix (Y := val r9) (rs := rr) hni q3
       have hlt := mred_lt (Y := val r9) (xs := rr) hni (by rw [l3.out]; have := hM.three; omega) q4
       rw [← t3] at hv hlt
       rw [l3.out] at hv
       have hval := Lib.hid (Rep.out (radix_coprime hM) q5 hlt hv)
       rw [t1]
       clear hv hlt t3
       go_wp2_with fail
       refine (mnarrow_any A1 ms.length ca1 r1 W1 t1.symm (by omega) (by simp only [maxLen] at t5; omega) t6.rd t2).mono ?_
       rintro e W2 ⟨p, rfl, hpl, ht, rfl⟩
       rw [hval.out] at ht
       have hOw := t6.take p
       rw [ht.out] at hOw
       have hlen : (limbs (val xs ^ val es % val ms)).length = p := by rw [← ht.out, List.length_take]; omega
       go_wp2_with fail
       refine ⟨by simp, .inl ⟨_, _, rfl, run_takeDeferred hK1, ?_⟩⟩
       refine ⟨.tuple #[.slice A1 p p, .int .i64 0], ?_, A1, p, ?_, ?_, ?_, ?_, ?_⟩
       · exact results_tmp2 (fn := Tryz.f115) rfl _ _ _
       · rw [hlen]
       · rw [hlen]; exact Nat.le_refl _
       · simp only [maxLen]; omega
       · exact (own_put hOw hK1 rfl).mono hbW.size
       · exact hbW1.trans (belowK_b (w := w) (Nat.le_refl _) W1 D _ _ (by have := hB4.size; omega) hK1 rfl rfl)
     case stop =>
       rintro D c pre W _ _ h _
       exact h.elim
end Go.Proofs.YtchaahnhpeoomaaGreat
namespace Go.Proofs.YtchaahnhpeoomaaGreat
set_option linter.unusedVariables false
set_option linter.unusedSimpArgs false
set_option maxRecDepth 20000
open Go.RowKit
def expMOf (xs es ms : List Nat) : List Nat × Int := if mayOf xs ms = true ∧ isRight es = true then (limbs (val xs ^ val es % val ms), 0) else ([], 1)
set_option maxHeartbeats 800000 in
theorem mexpArg_any (B0 g : Nat) (ms : List Nat) (X Y : Option Addr) (n m c d : Nat) (xs es : List Nat) (w : World) (hO : ModOk w B0 g ms) (hM : MayM ms) (hn : n = xs.length) (hm : m = es.length) (hl : n ≤ 70000) (hl' : m ≤ 30000) (hx : Rd .u32 w X xs) (hy : Rd .u32 w Y es) (lx : Lim 4294967296 xs) (ly : Lim 4294967296 es)
    (h : mayOf xs ms = false ∨ isRight es = false) :
    Calls Tryz.prog 115 #[.pointer (some ⟨g, 0, none⟩), .slice X n c, .slice Y m d] w (Gives2 .u32 [] 1 w) := by
  subst hn
  subst hm
  have hB1 : Below w.heap.size w (w.alloc (.cells #[.pointer (some ⟨g, 0, none⟩)] 174)) := (Below.refl _ _).alloc (Nat.le_refl _) _
  have hO1 := hO.below hB1
  obtain ⟨ninv, A2, c2, hR, -⟩ := hO1.mrd
  have hmay := Lib.hid (mmay_any g ms ninv X _ c xs _ hR hM.right rfl (by omega) (hx.below hB1) lx hM.lm)
  cases r1 : mayOf xs ms with
  | false =>
    rw [r1] at hmay
    clear h hO hO1
    go_enter Tryz.func115, Tryz.ntmps115
    go_wp2_with fail
    refine hmay.out.mono ?_
    rintro e w' ⟨rfl, q, rfl⟩
    go_wp2_with fail
    go_ret2
    exact gives2_arg _ _ _ (below_drewN hB1 q)
  | true =>
    have r2 : isRight es = false := by simpa [r1] using h
    rw [r1] at hmay
    clear h hO hO1
    go_enter Tryz.func115, Tryz.ntmps115
    go_wp2_with fail
    refine hmay.out.mono ?_
    rintro e w' ⟨rfl, q, rfl⟩
    go_wp2_with fail
    refine (right_any Y _ d es _ rfl (by omega) (hy.below (below_drewN hB1 q))).mono ?_
    rintro e w' ⟨rfl, rfl⟩
    rw [r2]
    go_wp2_with fail
    go_ret2
    exact gives2_arg _ _ _ (below_drewN hB1 q)
theorem mexp_any (B0 g : Nat) (ms : List Nat) (X Y : Option Addr) (n m c d : Nat) (xs es : List Nat) (w : World) (hO : ModOk w B0 g ms) (hM : MayM ms) (hn : n = xs.length) (hm : m = es.length) (hl : n ≤ 70000) (hl' : m ≤ 30000) (hx : Rd .u32 w X xs) (hy : Rd .u32 w Y es) (lx : Lim 4294967296 xs) (ly : Lim 4294967296 es) :
    Calls Tryz.prog 115 #[.pointer (some ⟨g, 0, none⟩), .slice X n c, .slice Y m d] w (Gives2 .u32 (expMOf xs es ms).1 (expMOf xs es ms).2 w) := by
  unfold expMOf
  by_cases h : mayOf xs ms = true ∧ isRight es = true
  · rw [if_pos h]
    exact mexpOk_any B0 g ms X Y n m c d xs es w hO hM hn hm hl' hx hy lx ly h.1 h.2
  · rw [if_neg h]
    exact mexpArg_any B0 g ms X Y n m c d xs es w hO hM hn hm hl hl' hx hy lx ly (not_and_bool h)
end Go.Proofs.YtchaahnhpeoomaaGreat
namespace Go.Proofs.YtchaahnhpeoomaaGreat
set_option linter.unusedVariables false
set_option linter.unusedSimpArgs false
set_option maxRecDepth 20000
open Go.RowKit
end Go.Proofs.YtchaahnhpeoomaaGreat
namespace Go.Proofs.YtchaahnhpeoomaaGreat
set_option linter.unusedVariables false
set_option linter.unusedSimpArgs false
set_option maxRecDepth 20000
open Go.RowKit
theorem may_limbs {ms : List Nat} (hM : MayM ms) (v : Nat) : mayOf (limbs (v % val ms)) ms = true := by
  have h1 : v % val ms < val ms := Nat.mod_lt _ (by have := hM.three; omega)
  have h2 := val_lt hM.lm
  have h3 := limbs_length_le (n := v % val ms) (k := ms.length) (by omega)
  have h4 := hM.len
  simp only [mayOf, val_limbs, Bool.and_eq_true, decide_eq_true_eq]
  exact ⟨isRight_limbs (by omega), h1⟩
end Go.Proofs.YtchaahnhpeoomaaGreat
