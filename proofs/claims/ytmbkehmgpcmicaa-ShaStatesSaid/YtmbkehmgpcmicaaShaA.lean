/-
  The program's search for the first bits behind the point of a root: search, square, cube.
-/
import Derived.Test.YtmbkehmgpcmicaaPost
import Derived.Test.YtmbkehmgpcmicaaShaP
import Derived.Test.YtmbkehmgpcmicaaShelf
import Derived.WalkSpells
import Derived.BigQuiet
import Derived.Deep.QuietTactic
import Derived.Lib.Hide
namespace Go.Proofs.Ytmbkehmgpcmicaa
set_option linter.unusedVariables false
set_option linter.unusedSimpArgs false
open Go.RowKit

/-- The number x to the power n is so much above p. -/
theorem sqF_eq (p x : Nat) (hx : x < 18446744073709551616) : sqF p x = (decide (p < x * x / 18446744073709551616) || (decide (x * x / 18446744073709551616 = p) && decide (0 < x * x % 18446744073709551616))) := by
  rw [Bool.eq_iff_iff]
  simp only [sqF, decide_eq_true_eq, Bool.or_eq_true, Bool.and_eq_true]
  omega

def RetB (b : Bool) (w : World) (e : Ending) (w' : World) : Prop := e = .returned (.bool b) ∧ w = w'
def RetU (k : IntKind) (n : Nat) (w : World) (e : Ending) (w' : World) : Prop := e = .returned (.int k (n : Int)) ∧ w = w'

set_option maxHeartbeats 400000 in
theorem sqFn_any (p x b : Nat) (w : World) (hb : Box w b (.int .u64 (p : Int))) (hp : p < 65536) (hx : x < 137438953472) :
    Calls Try.prog 45 #[.int .u64 (x : Int), .pointer (some ⟨b, 0, none⟩)] w (RetB (sqF p x) w) := by
  obtain ⟨x1, x2, x3⟩ := hb
  have hxx : x * x < 137438953472 * 137438953472 := Nat.mul_lt_mul'' hx hx
  have HS := Lib.hid (sqF_eq p x (by omega))
  generalize hH : x * x / 18446744073709551616 = H at *
  generalize hL : x * x % 18446744073709551616 = L at *
  rw [HS.out]
  have HH := Lib.hid hH
  have HL := Lib.hid hL
  have hHb : H < 65536 := by omega
  have hLb : L < 18446744073709551616 := by omega
  clear hH hL HS hxx
  rcases Nat.lt_trichotomy p H with h1 | h1 | h1
  · go_enter Try.func45, Try.ntmps45
    go_wp2_with fail
    refine (Try.bits_Mul64 _ _ (by omega) (by omega) _).mono ?_
    rw [HH.out, HL.out]
    rintro e w' ⟨rfl, hw⟩
    obtain rfl := hw.symm
    go_wp2_with fail
    go_ret
    exact ⟨ret_bool (by simp [h1]), rfl⟩
  · subst h1
    go_enter Try.func45, Try.ntmps45
    go_wp2_with fail
    refine (Try.bits_Mul64 _ _ (by omega) (by omega) _).mono ?_
    rw [HH.out, HL.out]
    rintro e w' ⟨rfl, hw⟩
    obtain rfl := hw.symm
    go_wp2_with fail
    go_ret
    exact ⟨ret_bool (by simp), rfl⟩
  · have h2 : ((H : Int) == (p : Int)) = false := by simp; omega
    go_enter Try.func45, Try.ntmps45
    go_wp2_with fail
    refine (Try.bits_Mul64 _ _ (by omega) (by omega) _).mono ?_
    rw [HH.out, HL.out]
    rintro e w' ⟨rfl, hw⟩
    obtain rfl := hw.symm
    go_wp2_with fail
    go_ret
    exact ⟨ret_bool (by simp [show ¬ p < H by omega, show ¬ H = p by omega]), rfl⟩

theorem cuF_eq (p x H L M N : Nat) (h1 : x * x / 18446744073709551616 = H) (h2 : x * x % 18446744073709551616 = L) (h3 : L * x / 18446744073709551616 = M) (h4 : L * x % 18446744073709551616 = N) :
    cuF p x = (decide (p * 4294967296 < H * x + M) || (decide (H * x + M = p * 4294967296) && decide (0 < N))) := by
  have e1 : x * x = 18446744073709551616 * H + L := by omega
  have e2 : L * x = 18446744073709551616 * M + N := by omega
  have e3 : x * x * x = 18446744073709551616 * (H * x + M) + N := by
    rw [e1, Nat.add_mul, e2, Nat.mul_assoc]
    omega
  have hN : N < 18446744073709551616 := by omega
  rw [Bool.eq_iff_iff]
  simp only [cuF, decide_eq_true_eq, Bool.or_eq_true, Bool.and_eq_true, e3]
  generalize H * x + M = T
  omega

set_option maxHeartbeats 400000 in
theorem cuFn_core (p x b H L M N T P : Nat) (w : World) (hb : Box w b (.int .u64 (p : Int))) (hp : p < 65536) (hx : x < 137438953472) (hH : Hid (x * x / 18446744073709551616 = H)) (hL : Hid (x * x % 18446744073709551616 = L))
    (hM : Hid (L * x / 18446744073709551616 = M)) (hN : Hid (L * x % 18446744073709551616 = N)) (hHb : H < 1024) (hLb : L < 18446744073709551616) (hMb : M < 137438953472) (hNb : N < 18446744073709551616)
    (hQ0 : (0 : Int) ≤ (H : Int) * (x : Int)) (hQ1 : (H : Int) * (x : Int) ≤ 140737488355328) (hT2 : (H : Int) * (x : Int) + (M : Int) = (T : Int)) (hTb : T < 281474976710656) (hP : (p : Int) * 4294967296 = (P : Int)) (hPb : P < 281474976710656) :
    Calls Try.prog 43 #[.int .u64 (x : Int), .pointer (some ⟨b, 0, none⟩)] w (RetB (decide (P < T) || (decide (T = P) && decide (0 < N))) w) := by
  obtain ⟨x1, x2, x3⟩ := hb
  rcases Nat.lt_trichotomy P T with h1 | h1 | h1
  · go_enter Try.func43, Try.ntmps43
    go_wp2_with fail
    refine (Try.bits_Mul64 _ _ (by omega) (by omega) _).mono ?_
    rw [hH.out, hL.out]
    rintro e w' ⟨rfl, hw⟩
    obtain rfl := hw.symm
    go_wp2_with fail
    refine (Try.bits_Mul64 _ _ (by omega) (by omega) _).mono ?_
    rw [hM.out, hN.out]
    rintro e w' ⟨rfl, hw⟩
    obtain rfl := hw.symm
    go_wp2_with fail
    go_ret
    exact ⟨ret_bool (by simp [h1]), rfl⟩
  · have h2 : ((T : Int) == (P : Int)) = true := by simp; omega
    go_enter Try.func43, Try.ntmps43
    go_wp2_with fail
    refine (Try.bits_Mul64 _ _ (by omega) (by omega) _).mono ?_
    rw [hH.out, hL.out]
    rintro e w' ⟨rfl, hw⟩
    obtain rfl := hw.symm
    go_wp2_with fail
    refine (Try.bits_Mul64 _ _ (by omega) (by omega) _).mono ?_
    rw [hM.out, hN.out]
    rintro e w' ⟨rfl, hw⟩
    obtain rfl := hw.symm
    go_wp2_with fail
    go_ret
    exact ⟨ret_bool (by simp [h1]), rfl⟩
  · have h2 : ((T : Int) == (P : Int)) = false := by simp; omega
    go_enter Try.func43, Try.ntmps43
    go_wp2_with fail
    refine (Try.bits_Mul64 _ _ (by omega) (by omega) _).mono ?_
    rw [hH.out, hL.out]
    rintro e w' ⟨rfl, hw⟩
    obtain rfl := hw.symm
    go_wp2_with fail
    refine (Try.bits_Mul64 _ _ (by omega) (by omega) _).mono ?_
    rw [hM.out, hN.out]
    rintro e w' ⟨rfl, hw⟩
    obtain rfl := hw.symm
    go_wp2_with fail
    go_ret
    exact ⟨ret_bool (by simp [show ¬ P < T by omega, show ¬ T = P by omega]), rfl⟩

theorem cast_mul_add (a b c : Nat) : (a : Int) * (b : Int) + (c : Int) = ((a * b + c : Nat) : Int) := by push_cast; rfl
theorem cast_mul (a b : Nat) : (a : Int) * (b : Int) = ((a * b : Nat) : Int) := by push_cast; rfl
theorem mul_bd {a b c d : Nat} (h1 : a < c) (h2 : b < d) : a * b < c * d := Nat.mul_lt_mul'' h1 h2
theorem cuFn_any (p x b : Nat) (w : World) (hb : Box w b (.int .u64 (p : Int))) (hp : p < 65536) (hx : x < 137438953472) :
    Calls Try.prog 43 #[.int .u64 (x : Int), .pointer (some ⟨b, 0, none⟩)] w (RetB (cuF p x) w) := by
  have hxx := mul_bd hx hx
  have hH : x * x / 18446744073709551616 < 1024 := by
    rw [Nat.div_lt_iff_lt_mul (by decide)]
    exact Nat.lt_of_lt_of_le hxx (by decide)
  have hL : x * x % 18446744073709551616 < 18446744073709551616 := Nat.mod_lt _ (by decide)
  have hM : x * x % 18446744073709551616 * x / 18446744073709551616 < 137438953472 := by
    rw [Nat.div_lt_iff_lt_mul (by decide)]
    exact Nat.lt_of_lt_of_le (mul_bd hL hx) (by decide)
  have hHx := mul_bd hH hx
  have h := cuFn_core p x b (x * x / 18446744073709551616) (x * x % 18446744073709551616) _ _ (x * x / 18446744073709551616 * x + x * x % 18446744073709551616 * x / 18446744073709551616) (p * 4294967296) w hb hp hx rfl rfl rfl rfl hH hL hM (Nat.mod_lt _ (by decide))
    (by rw [cast_mul]; omega) (by rw [cast_mul]; generalize x * x / 18446744073709551616 * x = A at *; omega) (cast_mul_add _ _ _) (by generalize x * x / 18446744073709551616 * x = A at *; generalize x * x % 18446744073709551616 * x / 18446744073709551616 = B at *; omega) (cast_mul p 4294967296) (by omega)
  rwa [← cuF_eq p x _ _ _ _ rfl rfl rfl rfl] at h

/-! ### The search itself -/
set_option maxHeartbeats 400000 in
theorem search_square (p b : Nat) (w : World) (hb : Box w b (.int .u64 (p : Int))) (hp : p < 65536) :
    Calls Try.prog 42 #[.int .u64 137438953472, .func (.func 45) #[] #[.pointer (some ⟨b, 0, none⟩)]] w (RetU .u64 (searchN (sqF p) 38 0 137438953472) w) := by
  obtain ⟨R, hR⟩ : ∃ R, searchN (sqF p) 38 0 137438953472 = R := ⟨_, rfl⟩
  rw [hR]
  have HR := Lib.hid hR
  clear hR
  go_enter Try.func42, Try.ntmps42
  go_wp2_with fail
  go_loop [0, 5] (fun s t => ∃ lo hi k : Nat, s = .int .u64 (hi : Int) ∧ t = .int .u64 (lo : Int) ∧ hi ≤ 137438953472 ∧ lo ≤ hi ∧ hi - lo < 2 ^ k ∧ Hid (searchN (sqF p) k lo hi = R)) (fun s t => (intOf s).toNat - (intOf t).toNat)
  case atStart => exact ⟨0, 137438953472, 38, rfl, rfl, Nat.le_refl _, by omega, by decide, HR⟩
  case round =>
    obtain ⟨lo, hi, k, rfl, rfl, h1, h2, h3, h4⟩ := hrel
    by_cases hlt : lo < hi
    · obtain ⟨m, hm⟩ : ∃ m, m = lo + (hi - lo) / 2 := ⟨_, rfl⟩
      have hmi : (lo : Int) + ((hi : Int) - (lo : Int)) / 2 = (m : Int) := by omega
      have hm1 : lo ≤ m := by omega
      have hm2 : m < hi := by omega
      have HM := Lib.hid hm
      obtain ⟨j, rfl⟩ : ∃ j, k = j + 1 := by
        rcases k with _ | j
        · simp at h3; omega
        · exact ⟨j, rfl⟩
      have h3' : m - lo < 2 ^ j ∧ hi - (m + 1) < 2 ^ j := by rw [Nat.pow_succ] at h3; omega
      clear hm h3
      cases hF : sqF p m with
      | true =>
        have HY := Lib.hid ((searchN_yes hlt HM.out hF).symm.trans h4.out)
        have HF := Lib.hid hF
        clear hF
        go_wp2_with fail
        refine (sqFn_any p m b _ hb hp (by omega)).mono ?_
        rw [HF.out]
        rintro e w' ⟨rfl, rfl⟩
        go_wp2_with fail
        go_round
        case rel => exact ⟨lo, m, j, rfl, rfl, by omega, hm1, h3'.1, HY⟩
        case measure => simp [intOf] <;> omega
      | false =>
        have HY := Lib.hid ((searchN_no hlt HM.out hF).symm.trans h4.out)
        have HF := Lib.hid hF
        clear hF
        go_wp2_with fail
        refine (sqFn_any p m b _ hb hp (by omega)).mono ?_
        rw [HF.out]
        rintro e w' ⟨rfl, rfl⟩
        go_wp2_with fail
        go_round
        case rel => exact ⟨m + 1, hi, j, rfl, by go_num, h1, hm2, h3'.2, HY⟩
        case measure => simp [intOf] <;> omega
    · have HE := Lib.hid ((searchN_done (sqF p) k (show hi ≤ lo by omega)).symm.trans h4.out)
      go_wp2_with fail
      go_ret
      exact ⟨ret_int (by rw [HE.out]), rfl⟩
set_option maxHeartbeats 400000 in
theorem search_cube (p b : Nat) (w : World) (hb : Box w b (.int .u64 (p : Int))) (hp : p < 65536) :
    Calls Try.prog 42 #[.int .u64 137438953472, .func (.func 43) #[] #[.pointer (some ⟨b, 0, none⟩)]] w (RetU .u64 (searchN (cuF p) 38 0 137438953472) w) := by
  obtain ⟨R, hR⟩ : ∃ R, searchN (cuF p) 38 0 137438953472 = R := ⟨_, rfl⟩
  rw [hR]
  have HR := Lib.hid hR
  clear hR
  go_enter Try.func42, Try.ntmps42
  go_wp2_with fail
  go_loop [0, 5] (fun s t => ∃ lo hi k : Nat, s = .int .u64 (hi : Int) ∧ t = .int .u64 (lo : Int) ∧ hi ≤ 137438953472 ∧ lo ≤ hi ∧ hi - lo < 2 ^ k ∧ Hid (searchN (cuF p) k lo hi = R)) (fun s t => (intOf s).toNat - (intOf t).toNat)
  case atStart => exact ⟨0, 137438953472, 38, rfl, rfl, Nat.le_refl _, by omega, by decide, HR⟩
  case round =>
    obtain ⟨lo, hi, k, rfl, rfl, h1, h2, h3, h4⟩ := hrel
    by_cases hlt : lo < hi
    · obtain ⟨m, hm⟩ : ∃ m, m = lo + (hi - lo) / 2 := ⟨_, rfl⟩
      have hmi : (lo : Int) + ((hi : Int) - (lo : Int)) / 2 = (m : Int) := by omega
      have hm1 : lo ≤ m := by omega
      have hm2 : m < hi := by omega
      have HM := Lib.hid hm
      obtain ⟨j, rfl⟩ : ∃ j, k = j + 1 := by
        rcases k with _ | j
        · simp at h3; omega
        · exact ⟨j, rfl⟩
      have h3' : m - lo < 2 ^ j ∧ hi - (m + 1) < 2 ^ j := by rw [Nat.pow_succ] at h3; omega
      clear hm h3
      cases hF : cuF p m with
      | true =>
        have HY := Lib.hid ((searchN_yes hlt HM.out hF).symm.trans h4.out)
        have HF := Lib.hid hF
        clear hF
        go_wp2_with fail
        refine (cuFn_any p m b _ hb hp (by omega)).mono ?_
        rw [HF.out]
        rintro e w' ⟨rfl, rfl⟩
        go_wp2_with fail
        go_round
        case rel => exact ⟨lo, m, j, rfl, rfl, by omega, hm1, h3'.1, HY⟩
        case measure => simp [intOf] <;> omega
      | false =>
        have HY := Lib.hid ((searchN_no hlt HM.out hF).symm.trans h4.out)
        have HF := Lib.hid hF
        clear hF
        go_wp2_with fail
        refine (cuFn_any p m b _ hb hp (by omega)).mono ?_
        rw [HF.out]
        rintro e w' ⟨rfl, rfl⟩
        go_wp2_with fail
        go_round
        case rel => exact ⟨m + 1, hi, j, rfl, by go_num, h1, hm2, h3'.2, HY⟩
        case measure => simp [intOf] <;> omega
    · have HE := Lib.hid ((searchN_done (cuF p) k (show hi ≤ lo by omega)).symm.trans h4.out)
      go_wp2_with fail
      go_ret
      exact ⟨ret_int (by rw [HE.out]), rfl⟩
def squarePost (p : Nat) (w : World) (e : Ending) (w' : World) : Prop := e = .returned (.int .u32 (((sqS p - 1) % 4294967296 : Nat) : Int)) ∧ w' = w.alloc (.cells #[.int .u64 (p : Int)] 35)
set_option maxHeartbeats 400000 in
theorem square_any (p : Nat) (w : World) (hp : p < 65536) (h1 : 1 ≤ sqS p) (h2 : sqS p ≤ 137438953472) :
    Calls Try.prog 35 #[.int .u64 (p : Int)] w (squarePost p w) := by
  have hs := search_square p w.heap.size (w.alloc (.cells #[.int .u64 (p : Int)] 35)) (Box.new _ _ _) hp
  rw [show searchN (sqF p) 38 0 137438953472 = sqS p from rfl] at hs
  generalize hR : sqS p = R at *
  go_enter Try.func35, Try.ntmps35
  go_wp2_with fail
  refine hs.mono ?_
  rintro e w' ⟨rfl, rfl⟩
  go_wp2_with fail
  go_ret
  exact ⟨ret_int (by omega), rfl⟩
def cubePost (p : Nat) (w : World) (e : Ending) (w' : World) : Prop := e = .returned (.int .u32 (((cuS p - 1) % 4294967296 : Nat) : Int)) ∧ w' = w.alloc (.cells #[.int .u64 (p : Int)] 35)
set_option maxHeartbeats 400000 in
theorem cube_any (p : Nat) (w : World) (hp : p < 65536) (h1 : 1 ≤ cuS p) (h2 : cuS p ≤ 137438953472) :
    Calls Try.prog 34 #[.int .u64 (p : Int)] w (cubePost p w) := by
  have hs := search_cube p w.heap.size (w.alloc (.cells #[.int .u64 (p : Int)] 35)) (Box.new _ _ _) hp
  rw [show searchN (cuF p) 38 0 137438953472 = cuS p from rfl] at hs
  generalize hR : cuS p = R at *
  go_enter Try.func34, Try.ntmps34
  go_wp2_with fail
  refine hs.mono ?_
  rintro e w' ⟨rfl, rfl⟩
  go_wp2_with fail
  go_ret
  exact ⟨ret_int (by omega), rfl⟩
end Go.Proofs.Ytmbkehmgpcmicaa
