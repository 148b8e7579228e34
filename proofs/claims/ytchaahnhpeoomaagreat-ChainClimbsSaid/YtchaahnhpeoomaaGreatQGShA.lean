/-
  ShaP: SHA-256 in plain numbers: the words of the round, the roots and the primes as they are searched for. No condition.
-/
import Derived.Test.YtchaahnhpeoomaaGreatQGBas
import Derived.Test.YtchaahnhpeoomaaGreatQShelf
import Derived.WalkSpells
import Derived.BigQuiet
import Derived.Deep.QuietTactic
import Derived.Lib.Hide
import Derived.Laws.BitsAllLaws
import Derived.StillTailTactics
import Derived.IntWalk
import Derived.Deep.RegionHeld3
import Derived.Deep.DeepCutAuto
import Derived.Outline
namespace Go.Proofs.YtchaahnhpeoomaaGreat
set_option linter.unusedVariables false
open Go.RowKit
def searchN (f : Nat → Bool) : Nat → Nat → Nat → Nat
 | 0, lo, _ => lo
 | k + 1, lo, hi => if lo < hi then (if f (lo + (hi - lo) / 2) then searchN f k lo (lo + (hi - lo) / 2) else searchN f k (lo + (hi - lo) / 2 + 1) hi) else lo
theorem searchN_done (f : Nat → Bool) (k : Nat) {lo hi : Nat} (h : hi ≤ lo) : searchN f k lo hi = lo := by
 cases k with
 | zero => rfl
 | succ k => rw [searchN, if_neg (by omega)]
theorem searchN_yes {f : Nat → Bool} {k lo hi m : Nat} (h : lo < hi) (hm : m = lo + (hi - lo) / 2) (hf : f m = true) : searchN f (k + 1) lo hi = searchN f k lo m := by
 subst hm
 rw [searchN, if_pos h, if_pos hf]
theorem searchN_no {f : Nat → Bool} {k lo hi m : Nat} (h : lo < hi) (hm : m = lo + (hi - lo) / 2) (hf : f m = false) : searchN f (k + 1) lo hi = searchN f k (m + 1) hi := by
 subst hm
 rw [searchN, if_pos h, hf]
 rfl
def rootN (f : Nat → Bool) : Nat → Nat → Nat → Nat
 | 0, lo, _ => lo
 | k + 1, lo, hi => if 1 < hi - lo then (if f ((lo + hi) / 2) then rootN f k lo ((lo + hi) / 2) else rootN f k ((lo + hi) / 2) hi) else lo
theorem rootN_done (f : Nat → Bool) (k : Nat) {lo hi : Nat} (h : hi - lo ≤ 1) : rootN f k lo hi = lo := by
 cases k with
 | zero => rfl
 | succ k => rw [rootN, if_neg (by omega)]
theorem rootN_yes {f : Nat → Bool} {k lo hi m : Nat} (h : 1 < hi - lo) (hm : m = (lo + hi) / 2) (hf : f m = true) : rootN f (k + 1) lo hi = rootN f k lo m := by
 subst hm
 rw [rootN, if_pos h, if_pos hf]
theorem rootN_no {f : Nat → Bool} {k lo hi m : Nat} (h : 1 < hi - lo) (hm : m = (lo + hi) / 2) (hf : f m = false) : rootN f (k + 1) lo hi = rootN f k m hi := by
 subst hm
 rw [rootN, if_pos h, hf]
 rfl
def sqF (p x : Nat) : Bool := decide (p * 18446744073709551616 < x * x)
def cuF (p x : Nat) : Bool := decide (p * 79228162514264337593543950336 < x * x * x)
def sqS (p : Nat) : Nat := searchN (sqF p) 38 0 137438953472
def cuS (p : Nat) : Nat := searchN (cuF p) 38 0 137438953472
def primeRun : Nat → List Nat
 | 0 => []
 | k + 1 => if (primeRun k).any (fun q => (k + 2) % q == 0) then primeRun k else primeRun k ++ [k + 2]
theorem primeRun_mono (k j : Nat) : (primeRun k).length ≤ (primeRun (k + j)).length := by
 induction j with
 | zero => exact Nat.le_refl _
 | succ j ih =>
  refine Nat.le_trans ih ?_
  rw [← Nat.add_assoc, primeRun]
  split
  ·exact Nat.le_refl _
  ·simp
theorem primeRun_bd (k : Nat) : ∀ q ∈ primeRun k, 2 ≤ q ∧ q < k + 2 := by
 induction k with
 | zero => intro q h; cases h
 | succ k ih =>
  intro q h
  rw [primeRun] at h
  split at h
  ·have := ih q h; omega
  ·rcases List.mem_append.1 h with h | h
   ·have := ih q h; omega
   ·rw [List.mem_singleton] at h; omega
def P64 : List Nat := [2, 3, 5, 7, 11, 13, 17, 19, 23, 29, 31, 37, 41, 43, 47, 53, 59, 61, 67, 71, 73, 79, 83, 89, 97, 101, 103, 107, 109, 113, 127, 131, 137, 139, 149, 151, 157, 163, 167, 173, 179, 181, 191, 193, 197, 199, 211, 223, 227, 229, 233, 239, 241, 251, 257, 263, 269, 271, 277, 281, 283, 293, 307, 311]
theorem primeRun_310 : primeRun 310 = P64 := by decide +kernel
theorem primeRun_309 : (primeRun 309).length = 63 := by decide +kernel
theorem primeRun_18 : primeRun 18 = P64.take 8 := by decide +kernel
theorem primeRun_17 : (primeRun 17).length = 7 := by decide +kernel
def K64 : List Nat := P64.map fun p => (cuS p - 1) % 4294967296
def H8 : List Nat := (P64.take 8).map fun p => (sqS p - 1) % 4294967296
theorem cuS_pos : ∀ p ∈ P64, 1 ≤ cuS p ∧ cuS p ≤ 137438953472 := by decide +kernel
theorem sqS_pos : ∀ p ∈ P64, 1 ≤ sqS p ∧ sqS p ≤ 137438953472 := by decide +kernel
theorem K64_ref : P64.map (fun p => rootN (cuF p) 38 0 137438953472 % 4294967296) = K64 := by decide +kernel
theorem H8_ref : (P64.take 8).map (fun p => rootN (sqF p) 38 0 137438953472 % 4294967296) = H8 := by decide +kernel
theorem K64_length : K64.length = 64 := by simp [K64, P64]
theorem H8_length : H8.length = 8 := by simp [H8, P64]
theorem K64_lim : Lim 4294967296 K64 := by
 intro x hx
 obtain ⟨p, _, rfl⟩ := List.mem_map.1 hx
 exact Nat.mod_lt _ (by decide)
theorem H8_lim : Lim 4294967296 H8 := by
 intro x hx
 obtain ⟨p, _, rfl⟩ := List.mem_map.1 hx
 exact Nat.mod_lt _ (by decide)
def rotr (x n : Nat) : Nat := x / 2 ^ n ||| x * 2 ^ (32 - n) % 4294967296
def addw (a b : Nat) : Nat := (a + b) % 4294967296
def sig0 (x : Nat) : Nat := rotr x 7 ^^^ rotr x 18 ^^^ x / 8
def sig1 (x : Nat) : Nat := rotr x 17 ^^^ rotr x 19 ^^^ x / 1024
def Sig0 (a : Nat) : Nat := rotr a 2 ^^^ rotr a 13 ^^^ rotr a 22
def Sig1 (e : Nat) : Nat := rotr e 6 ^^^ rotr e 11 ^^^ rotr e 25
def chw (e f g : Nat) : Nat := (e &&& f) ^^^ ((4294967295 ^^^ e) &&& g)
def maj (a b c : Nat) : Nat := (a &&& b) ^^^ (a &&& c) ^^^ (b &&& c)
def expand (a x c y : Nat) : Nat := addw (addw (addw a (sig0 x)) c) (sig1 y)
def oneW (h e f g k w : Nat) : Nat := addw (addw (addw (addw h (Sig1 e)) (chw e f g)) k) w
def twoW (a b c : Nat) : Nat := addw (Sig0 a) (maj a b c)
def be32 (b : List Nat) (i : Nat) : Nat := ((b.getD i 0 * 256 + b.getD (i + 1) 0) * 256 + b.getD (i + 2) 0) * 256 + b.getD (i + 3) 0
def sched (b : List Nat) : Nat → List Nat
 | 0 => (List.range 16).map fun i => be32 b (4 * i)
 | t + 1 => sched b t ++ [expand ((sched b t).getD t 0) ((sched b t).getD (t + 1) 0) ((sched b t).getD (t + 9) 0) ((sched b t).getD (t + 14) 0)]
def step8 : List Nat → Nat → Nat → List Nat
 | [a, b, c, d, e, f, g, h], k, w => [addw (oneW h e f g k w) (twoW a b c), a, b, c, addw d (oneW h e f g k w), e, f, g]
 | v, _, _ => v
def rounds8 (h ks ws : List Nat) : Nat → List Nat
 | 0 => h
 | t + 1 => step8 (rounds8 h ks ws t) (ks.getD t 0) (ws.getD t 0)
def compress (h b : List Nat) : List Nat := (List.range 8).map fun i => addw (h.getD i 0) ((rounds8 h K64 (sched b 48) 64).getD i 0)
def blocks (h m : List Nat) : Nat → List Nat
 | 0 => h
 | n + 1 => compress (blocks h m n) ((m.drop (64 * n)).take 64)
def be64 (n : Nat) : List Nat := (List.range 8).map fun i => n / 2 ^ (56 - 8 * i) % 256
def padding (n : Nat) : List Nat := 128 :: List.replicate ((119 - n % 64) % 64) 0 ++ be64 (8 * n % 18446744073709551616)
def outBytes (h : List Nat) : List Nat := (List.range 32).map fun i => h.getD (i / 4) 0 / 2 ^ (24 - 8 * (i % 4)) % 256
def digest (m : List Nat) : List Nat := outBytes (blocks H8 (m ++ padding m.length) ((m ++ padding m.length).length / 64))
theorem digest_length (m : List Nat) : (digest m).length = 32 := by simp [digest, outBytes]
theorem digest_lim (m : List Nat) : Lim 256 (digest m) := by
 intro x hx
 obtain ⟨p, _, rfl⟩ := List.mem_map.1 hx
 exact Nat.mod_lt _ (by decide)
end Go.Proofs.YtchaahnhpeoomaaGreat
namespace Go.Proofs.YtchaahnhpeoomaaGreat
set_option linter.unusedVariables false
set_option linter.unusedSimpArgs false
set_option maxRecDepth 20000
open Go.RowKit
theorem sqF_eq (p x : Nat) (hx : x < 18446744073709551616) : sqF p x = (decide (p < x * x / 18446744073709551616) || (decide (x * x / 18446744073709551616 = p) && decide (0 < x * x % 18446744073709551616))) := by
 rw [Bool.eq_iff_iff]
 simp only [sqF, decide_eq_true_eq, Bool.or_eq_true, Bool.and_eq_true]
 omega
def RetB_s (b : Bool) (w : World) (e : Ending) (w' : World) : Prop := e = .returned (.bool b) ∧ w = w'
def RetU (k : IntKind) (n : Nat) (w : World) (e : Ending) (w' : World) : Prop := e = .returned (.int k (n : Int)) ∧ w = w'
set_option maxHeartbeats 400000 in
theorem sqFn_any (p x b : Nat) (w : World) (hb : Box w b (.int .u64 (p : Int))) (hp : p < 65536) (hx : x < 137438953472) :
  Calls Tryz.prog 172 #[.int .u64 (x : Int), .pointer (some ⟨b, 0, none⟩)] w (RetB_s (sqF p x) w) := by
 obtain ⟨x1, x2, x3⟩ := hb
 have hxx : x * x < 137438953472 * 137438953472 := Nat.mul_lt_mul'' hx hx
 have HS := Lib.hid (sqF_eq p x (by omega))
 generalize hH : x * x / 18446744073709551616 = H at *
 generalize hL : x * x % 18446744073709551616 = L at *
 rw [HS.out]
 have HH := Lib.hid hH
 have HL := Lib.hid hL
 have hHb : H < 65536 := by omega
 have hLb : L < 18446744073709551616 := by omega
 clear hH hL HS hxx
 rcases Nat.lt_trichotomy p H with h1 | h1 | h1
 ·go_enter Tryz.func172, Tryz.ntmps172
  go_wp2_with fail
  refine (Tryz.bits_Mul64 _ _ (by omega) (by omega) _).mono ?_
  rw [HH.out, HL.out]
  rintro e w' ⟨rfl, hw⟩
  obtain rfl := hw.symm
  go_wp2_with fail
  go_ret
  exact ⟨ret_bool (by simp [h1]), rfl⟩
 ·subst h1
  go_enter Tryz.func172, Tryz.ntmps172
  go_wp2_with fail
  refine (Tryz.bits_Mul64 _ _ (by omega) (by omega) _).mono ?_
  rw [HH.out, HL.out]
  rintro e w' ⟨rfl, hw⟩
  obtain rfl := hw.symm
  go_wp2_with fail
  go_ret
  exact ⟨ret_bool (by simp), rfl⟩
 ·have h2 : ((H : Int) == (p : Int)) = false := by simp; omega
  go_enter Tryz.func172, Tryz.ntmps172
  go_wp2_with fail
  refine (Tryz.bits_Mul64 _ _ (by omega) (by omega) _).mono ?_
  rw [HH.out, HL.out]
  rintro e w' ⟨rfl, hw⟩
  obtain rfl := hw.symm
  go_wp2_with fail
  go_ret
  exact ⟨ret_bool (by simp [show ¬ p < H by omega, show ¬ H = p by omega]), rfl⟩
theorem cuF_eq (p x H L M N : Nat) (h1 : x * x / 18446744073709551616 = H) (h2 : x * x % 18446744073709551616 = L) (h3 : L * x / 18446744073709551616 = M) (h4 : L * x % 18446744073709551616 = N) :
  cuF p x = (decide (p * 4294967296 < H * x + M) || (decide (H * x + M = p * 4294967296) && decide (0 < N))) := by
 have e1 : x * x = 18446744073709551616 * H + L := by omega
 have e2 : L * x = 18446744073709551616 * M + N := by omega
 have e3 : x * x * x = 18446744073709551616 * (H * x + M) + N := by
  rw [e1, Nat.add_mul, e2, Nat.mul_assoc]
  omega
 have hN : N < 18446744073709551616 := by omega
 rw [Bool.eq_iff_iff]
 simp only [cuF, decide_eq_true_eq, Bool.or_eq_true, Bool.and_eq_true, e3]
 generalize H * x + M = T
 omega
set_option maxHeartbeats 400000 in
theorem cuFn_core (p x b H L M N T P : Nat) (w : World) (hb : Box w b (.int .u64 (p : Int))) (hp : p < 65536) (hx : x < 137438953472) (hH : Hid (x * x / 18446744073709551616 = H)) (hL : Hid (x * x % 18446744073709551616 = L))
  (hM : Hid (L * x / 18446744073709551616 = M)) (hN : Hid (L * x % 18446744073709551616 = N)) (hHb : H < 1024) (hLb : L < 18446744073709551616) (hMb : M < 137438953472) (hNb : N < 18446744073709551616)
  (hQ0 : (0 : Int) ≤ (H : Int) * (x : Int)) (hQ1 : (H : Int) * (x : Int) ≤ 140737488355328) (hT2 : (H : Int) * (x : Int) + (M : Int) = (T : Int)) (hTb : T < 281474976710656) (hP : (p : Int) * 4294967296 = (P : Int)) (hPb : P < 281474976710656) :
  Calls Tryz.prog 171 #[.int .u64 (x : Int), .pointer (some ⟨b, 0, none⟩)] w (RetB_s (decide (P < T) || (decide (T = P) && decide (0 < N))) w) := by
 obtain ⟨x1, x2, x3⟩ := hb
 rcases Nat.lt_trichotomy P T with h1 | h1 | h1
 ·go_enter Tryz.func171, Tryz.ntmps171
  go_wp2_with fail
  refine (Tryz.bits_Mul64 _ _ (by omega) (by omega) _).mono ?_
  rw [hH.out, hL.out]
  rintro e w' ⟨rfl, hw⟩
  obtain rfl := hw.symm
  go_wp2_with fail
  refine (Tryz.bits_Mul64 _ _ (by omega) (by omega) _).mono ?_
  rw [hM.out, hN.out]
  rintro e w' ⟨rfl, hw⟩
  obtain rfl := hw.symm
  go_wp2_with fail
  go_ret
  exact ⟨ret_bool (by simp [h1]), rfl⟩
 ·have h2 : ((T : Int) == (P : Int)) = true := by simp; omega
  go_enter Tryz.func171, Tryz.ntmps171
  go_wp2_with fail
  refine (Tryz.bits_Mul64 _ _ (by omega) (by omega) _).mono ?_
  rw [hH.out, hL.out]
  rintro e w' ⟨rfl, hw⟩
  obtain rfl := hw.symm
  go_wp2_with fail
  refine (Tryz.bits_Mul64 _ _ (by omega) (by omega) _).mono ?_
  rw [hM.out, hN.out]
  rintro e w' ⟨rfl, hw⟩
  obtain rfl := hw.symm
  go_wp2_with fail
  go_ret
  exact ⟨ret_bool (by simp [h1]), rfl⟩
 ·have h2 : ((T : Int) == (P : Int)) = false := by simp; omega
  go_enter Tryz.func171, Tryz.ntmps171
  go_wp2_with fail
  refine (Tryz.bits_Mul64 _ _ (by omega) (by omega) _).mono ?_
  rw [hH.out, hL.out]
  rintro e w' ⟨rfl, hw⟩
  obtain rfl := hw.symm
  go_wp2_with fail
  refine (Tryz.bits_Mul64 _ _ (by omega) (by omega) _).mono ?_
  rw [hM.out, hN.out]
  rintro e w' ⟨rfl, hw⟩
  obtain rfl := hw.symm
  go_wp2_with fail
  go_ret
  exact ⟨ret_bool (by simp [show ¬ P < T by omega, show ¬ T = P by omega]), rfl⟩
theorem cast_mul_add (a b c : Nat) : (a : Int) * (b : Int) + (c : Int) = ((a * b + c : Nat) : Int) := by push_cast; rfl
theorem cast_mul (a b : Nat) : (a : Int) * (b : Int) = ((a * b : Nat) : Int) := by push_cast; rfl
theorem mul_bd {a b c d : Nat} (h1 : a < c) (h2 : b < d) : a * b < c * d := Nat.mul_lt_mul'' h1 h2
theorem cuFn_any (p x b : Nat) (w : World) (hb : Box w b (.int .u64 (p : Int))) (hp : p < 65536) (hx : x < 137438953472) :
  Calls Tryz.prog 171 #[.int .u64 (x : Int), .pointer (some ⟨b, 0, none⟩)] w (RetB_s (cuF p x) w) := by
 have hxx := mul_bd hx hx
 have hH : x * x / 18446744073709551616 < 1024 := by
  rw [Nat.div_lt_iff_lt_mul (by decide)]
  exact Nat.lt_of_lt_of_le hxx (by decide)
 have hL : x * x % 18446744073709551616 < 18446744073709551616 := Nat.mod_lt _ (by decide)
 have hM : x * x % 18446744073709551616 * x / 18446744073709551616 < 137438953472 := by
  rw [Nat.div_lt_iff_lt_mul (by decide)]
  exact Nat.lt_of_lt_of_le (mul_bd hL hx) (by decide)
 have hHx := mul_bd hH hx
 have h := cuFn_core p x b (x * x / 18446744073709551616) (x * x % 18446744073709551616) _ _ (x * x / 18446744073709551616 * x + x * x % 18446744073709551616 * x / 18446744073709551616) (p * 4294967296) w hb hp hx rfl rfl rfl rfl hH hL hM (Nat.mod_lt _ (by decide))
  (by rw [cast_mul]; omega) (by rw [cast_mul]; generalize x * x / 18446744073709551616 * x = A at *; omega) (cast_mul_add _ _ _) (by generalize x * x / 18446744073709551616 * x = A at *; generalize x * x % 18446744073709551616 * x / 18446744073709551616 = B at *; omega) (cast_mul p 4294967296) (by omega)
 rwa [← cuF_eq p x _ _ _ _ rfl rfl rfl rfl] at h
set_option maxHeartbeats 400000 in
theorem search_square (p b : Nat) (w : World) (hb : Box w b (.int .u64 (p : Int))) (hp : p < 65536) :
  Calls Tryz.prog 170 #[.int .u64 137438953472, .func (.func 172) #[] #[.pointer (some ⟨b, 0, none⟩)]] w (RetU .u64 (searchN (sqF p) 38 0 137438953472) w) := by
 obtain ⟨R, hR⟩ : ∃ R, searchN (sqF p) 38 0 137438953472 = R := ⟨_, rfl⟩
 rw [hR]
 have HR := Lib.hid hR
 clear hR
 go_enter Tryz.func170, Tryz.ntmps170
 go_wp2_with fail
 go_loop [0, 5] (fun s t => ∃ lo hi k : Nat, s = .int .u64 (hi : Int) ∧ t = .int .u64 (lo : Int) ∧ hi ≤ 137438953472 ∧ lo ≤ hi ∧ hi - lo < 2 ^ k ∧ Hid (searchN (sqF p) k lo hi = R)) (fun s t => (intOf s).toNat - (intOf t).toNat)
 case atStart => exact ⟨0, 137438953472, 38, rfl, rfl, Nat.le_refl _, by omega, by decide, HR⟩
 case round =>
  obtain ⟨lo, hi, k, rfl, rfl, h1, h2, h3, h4⟩ := hrel
  by_cases hlt : lo < hi
  ·obtain ⟨m, hm⟩ : ∃ m, m = lo + (hi - lo) / 2 := ⟨_, rfl⟩
   have hmi : (lo : Int) + ((hi : Int) - (lo : Int)) / 2 = (m : Int) := by omega
   have hm1 : lo ≤ m := by omega
   have hm2 : m < hi := by omega
   have HM := Lib.hid hm
   obtain ⟨j, rfl⟩ : ∃ j, k = j + 1 := by
    rcases k with _ | j
    ·simp at h3; omega
    ·exact ⟨j, rfl⟩
   have h3' : m - lo < 2 ^ j ∧ hi - (m + 1) < 2 ^ j := by rw [Nat.pow_succ] at h3; omega
   clear hm h3
   cases hF : sqF p m with
   | true =>
    have HY := Lib.hid ((searchN_yes hlt HM.out hF).symm.trans h4.out)
    have HF := Lib.hid hF
    clear hF
    go_wp2_with fail
    refine (sqFn_any p m b _ hb hp (by omega)).mono ?_
    rw [HF.out]
    rintro e w' ⟨rfl, rfl⟩
    go_wp2_with fail
    go_round
    case rel => exact ⟨lo, m, j, rfl, rfl, by omega, hm1, h3'.1, HY⟩
    case measure => simp [intOf] <;> omega
   | false =>
    have HY := Lib.hid ((searchN_no hlt HM.out hF).symm.trans h4.out)
    have HF := Lib.hid hF
    clear hF
    go_wp2_with fail
    refine (sqFn_any p m b _ hb hp (by omega)).mono ?_
    rw [HF.out]
    rintro e w' ⟨rfl, rfl⟩
    go_wp2_with fail
    go_round
    case rel => exact ⟨m + 1, hi, j, rfl, by go_num, h1, hm2, h3'.2, HY⟩
    case measure => simp [intOf] <;> omega
  ·have HE := Lib.hid ((searchN_done (sqF p) k (show hi ≤ lo by omega)).symm.trans h4.out)
   go_wp2_with fail
   go_ret
   exact ⟨ret_int (by rw [HE.out]), rfl⟩
set_option maxHeartbeats 400000 in
theorem search_cube (p b : Nat) (w : World) (hb : Box w b (.int .u64 (p : Int))) (hp : p < 65536) :
  Calls Tryz.prog 170 #[.int .u64 137438953472, .func (.func 171) #[] #[.pointer (some ⟨b, 0, none⟩)]] w (RetU .u64 (searchN (cuF p) 38 0 137438953472) w) := by
 obtain ⟨R, hR⟩ : ∃ R, searchN (cuF p) 38 0 137438953472 = R := ⟨_, rfl⟩
 rw [hR]
 have HR := Lib.hid hR
 clear hR
 go_enter Tryz.func170, Tryz.ntmps170
 go_wp2_with fail
 go_loop [0, 5] (fun s t => ∃ lo hi k : Nat, s = .int .u64 (hi : Int) ∧ t = .int .u64 (lo : Int) ∧ hi ≤ 137438953472 ∧ lo ≤ hi ∧ hi - lo < 2 ^ k ∧ Hid (searchN (cuF p) k lo hi = R)) (fun s t => (intOf s).toNat - (intOf t).toNat)
 case atStart => exact ⟨0, 137438953472, 38, rfl, rfl, Nat.le_refl _, by omega, by decide, HR⟩
 case round =>
  obtain ⟨lo, hi, k, rfl, rfl, h1, h2, h3, h4⟩ := hrel
  by_cases hlt : lo < hi
  ·obtain ⟨m, hm⟩ : ∃ m, m = lo + (hi - lo) / 2 := ⟨_, rfl⟩
   have hmi : (lo : Int) + ((hi : Int) - (lo : Int)) / 2 = (m : Int) := by omega
   have hm1 : lo ≤ m := by omega
   have hm2 : m < hi := by omega
   have HM := Lib.hid hm
   obtain ⟨j, rfl⟩ : ∃ j, k = j + 1 := by
    rcases k with _ | j
    ·simp at h3; omega
    ·exact ⟨j, rfl⟩
   have h3' : m - lo < 2 ^ j ∧ hi - (m + 1) < 2 ^ j := by rw [Nat.pow_succ] at h3; omega
   clear hm h3
   cases hF : cuF p m with
   | true =>
    have HY := Lib.hid ((searchN_yes hlt HM.out hF).symm.trans h4.out)
    have HF := Lib.hid hF
    clear hF
    go_wp2_with fail
    refine (cuFn_any p m b _ hb hp (by omega)).mono ?_
    rw [HF.out]
    rintro e w' ⟨rfl, rfl⟩
    go_wp2_with fail
    go_round
    case rel => exact ⟨lo, m, j, rfl, rfl, by omega, hm1, h3'.1, HY⟩
    case measure => simp [intOf] <;> omega
   | false =>
    have HY := Lib.hid ((searchN_no hlt HM.out hF).symm.trans h4.out)
    have HF := Lib.hid hF
    clear hF
    go_wp2_with fail
    refine (cuFn_any p m b _ hb hp (by omega)).mono ?_
    rw [HF.out]
    rintro e w' ⟨rfl, rfl⟩
    go_wp2_with fail
    go_round
    case rel => exact ⟨m + 1, hi, j, rfl, by go_num, h1, hm2, h3'.2, HY⟩
    case measure => simp [intOf] <;> omega
  ·have HE := Lib.hid ((searchN_done (cuF p) k (show hi ≤ lo by omega)).symm.trans h4.out)
   go_wp2_with fail
   go_ret
   exact ⟨ret_int (by rw [HE.out]), rfl⟩
def squarePost (p : Nat) (w : World) (e : Ending) (w' : World) : Prop := e = .returned (.int .u32 (((sqS p - 1) % 4294967296 : Nat) : Int)) ∧ w' = w.alloc (.cells #[.int .u64 (p : Int)] 26)
set_option maxHeartbeats 400000 in
theorem square_any (p : Nat) (w : World) (hp : p < 65536) (h1 : 1 ≤ sqS p) (h2 : sqS p ≤ 137438953472) :
  Calls Tryz.prog 149 #[.int .u64 (p : Int)] w (squarePost p w) := by
 have hs := search_square p w.heap.size (w.alloc (.cells #[.int .u64 (p : Int)] 26)) (Box.new _ _ _) hp
 rw [show searchN (sqF p) 38 0 137438953472 = sqS p from rfl] at hs
 generalize hR : sqS p = R at *
 go_enter Tryz.func149, Tryz.ntmps149
 go_wp2_with fail
 refine hs.mono ?_
 rintro e w' ⟨rfl, rfl⟩
 go_wp2_with fail
 go_ret
 exact ⟨ret_int (by omega), rfl⟩
def cubePost (p : Nat) (w : World) (e : Ending) (w' : World) : Prop := e = .returned (.int .u32 (((cuS p - 1) % 4294967296 : Nat) : Int)) ∧ w' = w.alloc (.cells #[.int .u64 (p : Int)] 26)
set_option maxHeartbeats 400000 in
theorem cube_any (p : Nat) (w : World) (hp : p < 65536) (h1 : 1 ≤ cuS p) (h2 : cuS p ≤ 137438953472) :
  Calls Tryz.prog 148 #[.int .u64 (p : Int)] w (cubePost p w) := by
 have hs := search_cube p w.heap.size (w.alloc (.cells #[.int .u64 (p : Int)] 26)) (Box.new _ _ _) hp
 rw [show searchN (cuF p) 38 0 137438953472 = cuS p from rfl] at hs
 generalize hR : cuS p = R at *
 go_enter Tryz.func148, Tryz.ntmps148
 go_wp2_with fail
 refine hs.mono ?_
 rintro e w' ⟨rfl, rfl⟩
 go_wp2_with fail
 go_ret
 exact ⟨ret_int (by omega), rfl⟩
end Go.Proofs.YtchaahnhpeoomaaGreat
namespace Go.Proofs.YtchaahnhpeoomaaGreat
set_option linter.unusedVariables false
set_option linter.unusedSimpArgs false
set_option maxRecDepth 20000
open Go.RowKit
theorem size_64u64 : (Tryz.prog.info? 199).map (·.size) = some 64 := by kernel_rfl
theorem divFn_any (p q b : Nat) (w : World) (hb : Box w b (.int .u64 (p : Int))) (hp : p < 65536) (hq : q < 65536) (hq0 : 1 ≤ q) :
  Calls Tryz.prog 169 #[.int .u64 (q : Int), .pointer (some ⟨b, 0, none⟩)] w (RetB_s (p % q == 0) w) := by
 obtain ⟨x1, x2, x3⟩ := hb
 have hz : ((q : Int) == 0) = false := by simp; omega
 have hm : ((p : Int) % (q : Int)) = ((p % q : Nat) : Int) := by simp
 have hml : p % q < q := Nat.mod_lt _ hq0
 generalize p % q = r at *
 go_enter Tryz.func169, Tryz.ntmps169
 go_wp2_with fail
 go_ret
 exact ⟨ret_bool (by rw [Bool.eq_iff_iff]; simp), rfl⟩
def AnyPost (b : Bool) (w : World) (e : Ending) (w' : World) : Prop := ∃ n : Int, e = .returned (.int .i64 n) ∧ Hid ((0 ≤ n ∧ n < 65536) ∧ b = true ∨ n = -1 ∧ b = false) ∧ w = w'
set_option maxHeartbeats 400000 in
theorem index_any (A : Option Addr) (n c : Nat) (xs : List Nat) (p b : Nat) (w : World) (hb : Box w b (.int .u64 (p : Int))) (hp : p < 65536) (hn : n = xs.length) (hl : n ≤ 64) (hx : Rd .u64 w A xs) (h1 : ∀ q ∈ xs, 1 ≤ q ∧ q < 65536) :
  Calls Tryz.prog 178 #[.slice A n c, .func (.func 169) #[] #[.pointer (some ⟨b, 0, none⟩)]] w (AnyPost (xs.any (fun q => p % q == 0)) w) := by
 subst hn
 have H1 := Lib.hid h1
 clear h1
 go_enter Tryz.func178, Tryz.ntmps178
 go_wp2_with fail
 go_loop [8] (fun t => ∃ k : Nat, t = .int .i64 (k : Int) ∧ k ≤ xs.length ∧ Hid ((xs.take k).any (fun q => p % q == 0) = false)) (fun t => xs.length - (intOf t).toNat)
 case atStart => exact ⟨0, rfl, Nat.zero_le _, by simp [Hid]⟩
 case round =>
  obtain ⟨k, rfl, hk, h0⟩ := hrel
  by_cases hlt : k < xs.length
  ·obtain ⟨x, hgx⟩ := get_of_lt hlt
   obtain ⟨bb, o, rfl, hbw, hc⟩ := hx.pos hgx
   have hcell := hc _ x hgx
   obtain ⟨hq1, hq2⟩ := H1.out x (List.mem_of_getElem? hgx)
   have HT := Lib.hid (show xs.take (k + 1) = xs.take k ++ [x] by rw [List.take_add_one, hgx]; rfl)
   have HG := Lib.hid hgx
   clear hc hgx
   cases hF : (p % x == 0) with
   | true =>
    have HF := Lib.hid hF
    clear hF
    go_wp2_with fail
    refine (divFn_any p x b _ hb hp hq2 hq1).mono ?_
    rw [HF.out]
    rintro e w' ⟨rfl, rfl⟩
    go_wp2_with fail
    go_ret
    exact ⟨_, rfl, .inl ⟨by omega, List.any_eq_true.2 ⟨x, List.mem_of_getElem? HG.out, HF.out⟩⟩, rfl⟩
   | false =>
    have HF := Lib.hid hF
    clear hF
    go_wp2_with fail
    refine (divFn_any p x b _ hb hp hq2 hq1).mono ?_
    rw [HF.out]
    rintro e w' ⟨rfl, rfl⟩
    go_wp2_with fail
    go_round
    case rel => exact ⟨k + 1, by go_num, by omega, by rw [HT.out, List.any_append, h0.out]; show (_ || _) = false; simp [HF.out]⟩
    case measure => simp [intOf]; omega
  ·obtain rfl : k = xs.length := by omega
   go_wp2_with fail
   go_ret
   exact ⟨_, rfl, .inr ⟨rfl, by rw [← h0.out, List.take_length]⟩, rfl⟩
theorem contains_any (A : Option Addr) (n c : Nat) (xs : List Nat) (p b : Nat) (w : World) (hb : Box w b (.int .u64 (p : Int))) (hp : p < 65536) (hn : n = xs.length) (hl : n ≤ 64) (hx : Rd .u64 w A xs) (h1 : ∀ q ∈ xs, 1 ≤ q ∧ q < 65536) :
  Calls Tryz.prog 168 #[.slice A n c, .func (.func 169) #[] #[.pointer (some ⟨b, 0, none⟩)]] w (RetB_s (xs.any (fun q => p % q == 0)) w) := by
 have h := index_any A n c xs p b w hb hp hn hl hx h1
 generalize xs.any (fun q => p % q == 0) = r at *
 clear hn h1
 go_enter Tryz.func168, Tryz.ntmps168
 go_wp2_with fail
 refine h.mono ?_
 rintro e w' ⟨m, rfl, hm, rfl⟩
 rcases hm.out with ⟨⟨h2, h3⟩, rfl⟩ | ⟨rfl, rfl⟩
 ·go_wp2_with fail
  go_ret
  exact ⟨ret_bool (by simp [h2]), rfl⟩
 ·go_wp2_with fail
  go_ret
  exact ⟨ret_bool (by simp), rfl⟩
theorem slice_64 (w : World) (a : Addr) (n : Nat) (h : n ≤ 64) : (Instr.sliceAt 199 (.pointer (some a)) none (some (.int .i64 (n : Int))) none).run Tryz.prog w = .ok (.slice (some a) n 64) w := by
 have h1 : Tryz.prog.arrayLen 199 = 64 := by kernel_rfl
 have h2 : Tryz.prog.underlying 199 = some (.array (Tryz.prog.arrayLen 199) (Tryz.prog.elem 199)) := by kernel_rfl
 have h3 : ∀ w, (sizeOf (Tryz.prog.elem 199)).run Tryz.prog w = .ok 1 w := fun w => by kernel_rfl
 rw [run_sliceAt_array_h w _ a h2 .i64 n (by omega) (by rw [h1]; omega), h3, h1]
 simp [Result.andThen, slicedAt, Addr.add]
def pad (n : Nat) (l : List Nat) : List Nat := l ++ List.replicate (n - l.length) 0
theorem pad_length {n : Nat} {l : List Nat} (h : l.length ≤ n) : (pad n l).length = n := by simp [pad]; omega
theorem pad_take {n : Nat} {l : List Nat} : (pad n l).take l.length = l := by simp [pad]
theorem pad_at {n : Nat} {l : List Nat} (h : l.length < n) : (pad n l)[l.length]? = some 0 := by
 rw [pad, List.getElem?_append_right (Nat.le_refl _), Nat.sub_self, List.getElem?_replicate, if_pos (by omega)]
theorem pad_set {n : Nat} {l : List Nat} (h : l.length < n) (x : Nat) : (pad n l).set l.length x = pad n (l ++ [x]) := by
 rw [pad, pad, List.set_append_right _ _ (Nat.le_refl _), Nat.sub_self]
 obtain ⟨m, hm⟩ : ∃ m, n - l.length = m + 1 := ⟨n - l.length - 1, by omega⟩
 have h2 : n - (l ++ [x]).length = m := by simp; omega
 rw [hm, h2, List.replicate_succ]
 simp
theorem pad_full {n : Nat} {l : List Nat} (h : l.length = n) : pad n l = l := by simp [pad, h]
theorem primeRun_yes {k : Nat} {b : Bool} (h : (primeRun k).any (fun q => (k + 2) % q == 0) = b) : primeRun (k + 1) = if b then primeRun k else primeRun k ++ [k + 2] := by
 rw [primeRun, h]
theorem box_next (wr : World) (b k : Nat) (t : TypeId) (h : wr.heap.size = b + 1 + (k + 1)) : Box (wr.alloc (.cells #[.int .u64 ((k : Int) + 2 + 1)] t)) (b + 1 + (k + 1)) (.int .u64 ((k + 1 + 2 : Nat) : Int)) := by
 have h2 := Box.new wr (.int .u64 ((k + 1 + 2 : Nat) : Int)) t
 rw [h] at h2
 have e : ((k : Int) + 2 + 1) = ((k + 1 + 2 : Nat) : Int) := by omega
 rw [e]
 exact h2
set_option maxRecDepth 100000 in
set_option maxHeartbeats 800000 in
theorem primes_any (w : World) : Calls Tryz.prog 147 #[] w (GivesArr .u64 P64 w) := by
 go_enter Tryz.func147, Tryz.ntmps147
 go_wp2_with fail
 go_loopw [1, 2] (fun t u wr => ∃ k n : Nat, Hid (n = (primeRun k).length) ∧ t = .int .i64 (n : Int) ∧ u = .pointer (some ⟨w.heap.size + 1 + k, 0, none⟩) ∧ k ≤ 310 ∧ n ≤ 64 ∧ wr.heap.size = w.heap.size + 2 + k ∧ Whl .u64 199 wr w.heap.size (pad 64 (primeRun k)) ∧ Box wr (w.heap.size + 1 + k) (.int .u64 ((k + 2 : Nat) : Int)) ∧ Below w.heap.size w wr) (fun t u wr => w.heap.size + 313 - wr.heap.size)
 case atStart =>
  refine ⟨0, 0, rfl, rfl, rfl, Nat.zero_le _, Nat.zero_le _, by simp, ?_, ?_, ((Below.refl _ _).alloc (Nat.le_refl _) _).alloc (by simp) _⟩
  ·exact (whl_new w (pad 64 []) _ rfl).alloc _
  ·have h := Box.new (w.alloc (.cells (ints .u64 (pad 64 [])).toArray 199)) (.int .u64 2) 26
   rw [World.size_alloc] at h
   exact h
 case round =>
  obtain ⟨k, n, hn, rfl, rfl, hk, hn64, hsz, hw, hb, hbel⟩ := hrel
  have HSZ := Lib.hid hsz
  have hgw : w.heap.size < wr.heap.size := by omega
  clear hsz
  by_cases hlt : n < 64
  ·have hsl := fun w' => slice_64 w' ⟨w.heap.size, 0, none⟩ n hn64
   have hk2 : k < 310 := by
    rcases Nat.lt_or_ge k 310 with h | h
    ·exact h
    ·obtain rfl : k = 310 := by omega
     have h2 := hn.out
     rw [primeRun_310] at h2
     simp [P64] at h2
     omega
   have hrd : Rd .u64 wr (some ⟨w.heap.size, 0, none⟩) (primeRun k) := by
    have h := Rd.of_all (hw.blk.take (primeRun k).length)
    rwa [pad_take] at h
   obtain ⟨x1, x2, x3⟩ := hb
   have hnew := Box.new wr (.int .u64 ((k + 2 : Nat) : Int)) 26
   have hbd : ∀ q ∈ primeRun k, 1 ≤ q ∧ q < 65536 := fun q hq => by have := primeRun_bd k q hq; omega
   have HBD := Lib.hid hbd
   clear hbd hnew
   have hcon := fun (c : Nat) => contains_any (some ⟨w.heap.size, 0, none⟩) n c (primeRun k) (k + 2) (w.heap.size + 1 + k) wr ⟨x1, x2, x3⟩ (by omega) hn.out (by omega) hrd HBD.out
   cases hF : (primeRun k).any (fun q => (k + 2) % q == 0) with
   | true =>
    have HP := Lib.hid (primeRun_yes hF)
    rw [hF] at hcon
    have HC := Lib.hid hcon
    clear hF hcon
    go_wp2_with fail
    refine (HC.out _).mono ?_
    rintro e w' ⟨rfl, rfl⟩
    go_wp2_with fail
    go_roundw
    case rel =>
     refine ⟨k + 1, n, by rw [HP.out]; exact hn.out, rfl, ?_, by omega, hn64, ?_, ?_, ?_, ?_⟩
     ·rw [show wr.heap.size = w.heap.size + 1 + (k + 1) from by have := HSZ.out; omega]
     ·simp; have := HSZ.out; omega
     ·rw [HP.out]; exact hw.alloc _
     ·exact box_next wr _ k _ (by have := HSZ.out; omega)
     ·exact hbel.alloc hbel.size _
    case measure => simp; have := HSZ.out; omega
   | false =>
    have HP := Lib.hid (primeRun_yes hF)
    rw [hF] at hcon
    have HC := Lib.hid hcon
    have hcz := hw.blk.cell (i := n) (x := 0) (by rw [hn.out]; exact pad_at (by rw [← hn.out]; exact hlt))
    have hfz := hw.blk.frozen (i := n) (x := 0) (by rw [hn.out]; exact pad_at (by rw [← hn.out]; exact hlt))
    clear hF hcon
    go_wp2_with fail
    refine (HC.out _).mono ?_
    rintro e w' ⟨rfl, rfl⟩
    go_wp2_with fail
    go_roundw
    case rel =>
     refine ⟨k + 1, n + 1, by show n + 1 = (primeRun (k + 1)).length; rw [HP.out]; simp; exact hn.out, by go_num, ?_, by omega, hlt, ?_, ?_, ?_, ?_⟩
     ·rw [show wr.heap.size = w.heap.size + 1 + (k + 1) from by have := HSZ.out; omega]
     ·simp; have := HSZ.out; omega
     ·rw [HP.out]
      have h := hw.set n (k + 2)
      rw [hn.out, pad_set (by rw [← hn.out]; exact hlt), ← hn.out] at h
      exact h.alloc _
     ·exact box_next (wr.setCell ⟨w.heap.size, n, none⟩ _) _ k _ (by simp; have := HSZ.out; omega)
     ·exact (hbel.setCell (p := ⟨w.heap.size, n, none⟩) (Nat.le_refl _) _).alloc (by simpa using hbel.size) _
    case measure => simp; have := HSZ.out; omega
  ·have h310 : primeRun k = P64 := by
    rcases Nat.lt_or_ge k 310 with h | h
    ·have h2 := primeRun_mono k (309 - k)
     rw [show k + (309 - k) = 309 from by omega, primeRun_309, ← hn.out] at h2
     omega
    ·obtain rfl : k = 310 := by omega
     exact primeRun_310
   rw [h310] at hw
   have hpw : pad 64 P64 = P64 := pad_full rfl
   rw [hpw] at hw
   clear hpw h310
   go_wp2_with (first | (refine wpList_load_whl rfl 199 (.tmp 0) rfl w.heap.size rfl .u64 _ P64 hw _ Tryz.underlying199 rfl size_64u64 ?_) | (refine wpList_store_whl rfl 199 (.tmp 0) (.tmp 18) rfl w.heap.size .u64 _ P64 P64 rfl rfl hw rfl size_64u64 ?_; intro w3 hw3 hg3 hs3; clear hs3))
   exact bodyPost_ret (v := .agg (ints .u64 P64).toArray) (results_whl rfl _ _ w.heap.size .u64 _ P64 _ rfl hw3 Tryz.underlying199 rfl size_64u64) rfl ⟨rfl, below_only hbel hg3 hbel.size (Nat.le_refl _)⟩
end Go.Proofs.YtchaahnhpeoomaaGreat
namespace Go.Proofs.YtchaahnhpeoomaaGreat
set_option linter.unusedVariables false
set_option linter.unusedSimpArgs false
set_option maxRecDepth 20000
open Go.RowKit
theorem rotr_lt (x n : Nat) (hx : x < 4294967296) : rotr x n < 4294967296 := by
 unfold rotr
 exact Nat.or_lt_two_pow (n := 32) (Nat.lt_of_le_of_lt (Nat.div_le_self _ _) hx) (Nat.mod_lt _ (by decide))
theorem shl_cast (x q : Nat) : IntKind.u32.wrap ((x : Int) * (q : Int)) = ((x * q % 4294967296 : Nat) : Int) := by
 rw [IntKind.wrap_u32', Int.natCast_emod, Int.natCast_mul]
 rfl
theorem shr_cast (x q : Nat) : (x : Int) / (q : Int) = ((x / q : Nat) : Int) := (Int.natCast_ediv x q).symm
theorem rotr_or_2 (x : Nat) (hx : x < 4294967296) : bits .or .u32 ((x * 1073741824 % 4294967296 : Nat) : Int) ((x / 4 : Nat) : Int) = ((rotr x 2 : Nat) : Int) := by
 rw [u32_or_nat _ _ (Nat.mod_lt _ (by decide)) (Nat.lt_of_le_of_lt (Nat.div_le_self _ _) hx), Nat.or_comm]
 rfl
set_option maxHeartbeats 400000 in
theorem right_2 (x : Nat) (w : World) (hx : x < 4294967296) :
  Calls Tryz.prog 151 #[.int .u32 (x : Int), .int .i64 2] w (RetU .u32 (rotr x 2) w) := by
 have hw1 : IntKind.u64.wrap (-2) = 18446744073709551614 := by decide
 have hb : bits .and .u64 18446744073709551614 31 = 30 := by decide
 have h2 : IntKind.u32.wrap ((x : Int) * 1073741824) = ((x * 1073741824 % 4294967296 : Nat) : Int) := shl_cast x 1073741824
 have h3 : (x : Int) / 4 = ((x / 4 : Nat) : Int) := shr_cast x 4
 have h4 := rotr_or_2 x hx
 generalize x * 1073741824 % 4294967296 = A at *
 generalize x / 4 = B at *
 generalize rotr x 2 = R at *
 go_enter Tryz.func151, Tryz.ntmps151
 go_wp2
 go_ret
 exact ⟨rfl, rfl⟩
theorem rotr_or_6 (x : Nat) (hx : x < 4294967296) : bits .or .u32 ((x * 67108864 % 4294967296 : Nat) : Int) ((x / 64 : Nat) : Int) = ((rotr x 6 : Nat) : Int) := by
 rw [u32_or_nat _ _ (Nat.mod_lt _ (by decide)) (Nat.lt_of_le_of_lt (Nat.div_le_self _ _) hx), Nat.or_comm]
 rfl
set_option maxHeartbeats 400000 in
theorem right_6 (x : Nat) (w : World) (hx : x < 4294967296) :
  Calls Tryz.prog 151 #[.int .u32 (x : Int), .int .i64 6] w (RetU .u32 (rotr x 6) w) := by
 have hw1 : IntKind.u64.wrap (-6) = 18446744073709551610 := by decide
 have hb : bits .and .u64 18446744073709551610 31 = 26 := by decide
 have h2 : IntKind.u32.wrap ((x : Int) * 67108864) = ((x * 67108864 % 4294967296 : Nat) : Int) := shl_cast x 67108864
 have h3 : (x : Int) / 64 = ((x / 64 : Nat) : Int) := shr_cast x 64
 have h4 := rotr_or_6 x hx
 generalize x * 67108864 % 4294967296 = A at *
 generalize x / 64 = B at *
 generalize rotr x 6 = R at *
 go_enter Tryz.func151, Tryz.ntmps151
 go_wp2
 go_ret
 exact ⟨rfl, rfl⟩
theorem rotr_or_7 (x : Nat) (hx : x < 4294967296) : bits .or .u32 ((x * 33554432 % 4294967296 : Nat) : Int) ((x / 128 : Nat) : Int) = ((rotr x 7 : Nat) : Int) := by
 rw [u32_or_nat _ _ (Nat.mod_lt _ (by decide)) (Nat.lt_of_le_of_lt (Nat.div_le_self _ _) hx), Nat.or_comm]
 rfl
set_option maxHeartbeats 400000 in
theorem right_7 (x : Nat) (w : World) (hx : x < 4294967296) :
  Calls Tryz.prog 151 #[.int .u32 (x : Int), .int .i64 7] w (RetU .u32 (rotr x 7) w) := by
 have hw1 : IntKind.u64.wrap (-7) = 18446744073709551609 := by decide
 have hb : bits .and .u64 18446744073709551609 31 = 25 := by decide
 have h2 : IntKind.u32.wrap ((x : Int) * 33554432) = ((x * 33554432 % 4294967296 : Nat) : Int) := shl_cast x 33554432
 have h3 : (x : Int) / 128 = ((x / 128 : Nat) : Int) := shr_cast x 128
 have h4 := rotr_or_7 x hx
 generalize x * 33554432 % 4294967296 = A at *
 generalize x / 128 = B at *
 generalize rotr x 7 = R at *
 go_enter Tryz.func151, Tryz.ntmps151
 go_wp2
 go_ret
 exact ⟨rfl, rfl⟩
theorem rotr_or_11 (x : Nat) (hx : x < 4294967296) : bits .or .u32 ((x * 2097152 % 4294967296 : Nat) : Int) ((x / 2048 : Nat) : Int) = ((rotr x 11 : Nat) : Int) := by
 rw [u32_or_nat _ _ (Nat.mod_lt _ (by decide)) (Nat.lt_of_le_of_lt (Nat.div_le_self _ _) hx), Nat.or_comm]
 rfl
set_option maxHeartbeats 400000 in
theorem right_11 (x : Nat) (w : World) (hx : x < 4294967296) :
  Calls Tryz.prog 151 #[.int .u32 (x : Int), .int .i64 11] w (RetU .u32 (rotr x 11) w) := by
 have hw1 : IntKind.u64.wrap (-11) = 18446744073709551605 := by decide
 have hb : bits .and .u64 18446744073709551605 31 = 21 := by decide
 have h2 : IntKind.u32.wrap ((x : Int) * 2097152) = ((x * 2097152 % 4294967296 : Nat) : Int) := shl_cast x 2097152
 have h3 : (x : Int) / 2048 = ((x / 2048 : Nat) : Int) := shr_cast x 2048
 have h4 := rotr_or_11 x hx
 generalize x * 2097152 % 4294967296 = A at *
 generalize x / 2048 = B at *
 generalize rotr x 11 = R at *
 go_enter Tryz.func151, Tryz.ntmps151
 go_wp2
 go_ret
 exact ⟨rfl, rfl⟩
theorem rotr_or_13 (x : Nat) (hx : x < 4294967296) : bits .or .u32 ((x * 524288 % 4294967296 : Nat) : Int) ((x / 8192 : Nat) : Int) = ((rotr x 13 : Nat) : Int) := by
 rw [u32_or_nat _ _ (Nat.mod_lt _ (by decide)) (Nat.lt_of_le_of_lt (Nat.div_le_self _ _) hx), Nat.or_comm]
 rfl
set_option maxHeartbeats 400000 in
theorem right_13 (x : Nat) (w : World) (hx : x < 4294967296) :
  Calls Tryz.prog 151 #[.int .u32 (x : Int), .int .i64 13] w (RetU .u32 (rotr x 13) w) := by
 have hw1 : IntKind.u64.wrap (-13) = 18446744073709551603 := by decide
 have hb : bits .and .u64 18446744073709551603 31 = 19 := by decide
 have h2 : IntKind.u32.wrap ((x : Int) * 524288) = ((x * 524288 % 4294967296 : Nat) : Int) := shl_cast x 524288
 have h3 : (x : Int) / 8192 = ((x / 8192 : Nat) : Int) := shr_cast x 8192
 have h4 := rotr_or_13 x hx
 generalize x * 524288 % 4294967296 = A at *
 generalize x / 8192 = B at *
 generalize rotr x 13 = R at *
 go_enter Tryz.func151, Tryz.ntmps151
 go_wp2
 go_ret
 exact ⟨rfl, rfl⟩
theorem rotr_or_17 (x : Nat) (hx : x < 4294967296) : bits .or .u32 ((x * 32768 % 4294967296 : Nat) : Int) ((x / 131072 : Nat) : Int) = ((rotr x 17 : Nat) : Int) := by
 rw [u32_or_nat _ _ (Nat.mod_lt _ (by decide)) (Nat.lt_of_le_of_lt (Nat.div_le_self _ _) hx), Nat.or_comm]
 rfl
set_option maxHeartbeats 400000 in
theorem right_17 (x : Nat) (w : World) (hx : x < 4294967296) :
  Calls Tryz.prog 151 #[.int .u32 (x : Int), .int .i64 17] w (RetU .u32 (rotr x 17) w) := by
 have hw1 : IntKind.u64.wrap (-17) = 18446744073709551599 := by decide
 have hb : bits .and .u64 18446744073709551599 31 = 15 := by decide
 have h2 : IntKind.u32.wrap ((x : Int) * 32768) = ((x * 32768 % 4294967296 : Nat) : Int) := shl_cast x 32768
 have h3 : (x : Int) / 131072 = ((x / 131072 : Nat) : Int) := shr_cast x 131072
 have h4 := rotr_or_17 x hx
 generalize x * 32768 % 4294967296 = A at *
 generalize x / 131072 = B at *
 generalize rotr x 17 = R at *
 go_enter Tryz.func151, Tryz.ntmps151
 go_wp2
 go_ret
 exact ⟨rfl, rfl⟩
theorem rotr_or_18 (x : Nat) (hx : x < 4294967296) : bits .or .u32 ((x * 16384 % 4294967296 : Nat) : Int) ((x / 262144 : Nat) : Int) = ((rotr x 18 : Nat) : Int) := by
 rw [u32_or_nat _ _ (Nat.mod_lt _ (by decide)) (Nat.lt_of_le_of_lt (Nat.div_le_self _ _) hx), Nat.or_comm]
 rfl
set_option maxHeartbeats 400000 in
theorem right_18 (x : Nat) (w : World) (hx : x < 4294967296) :
  Calls Tryz.prog 151 #[.int .u32 (x : Int), .int .i64 18] w (RetU .u32 (rotr x 18) w) := by
 have hw1 : IntKind.u64.wrap (-18) = 18446744073709551598 := by decide
 have hb : bits .and .u64 18446744073709551598 31 = 14 := by decide
 have h2 : IntKind.u32.wrap ((x : Int) * 16384) = ((x * 16384 % 4294967296 : Nat) : Int) := shl_cast x 16384
 have h3 : (x : Int) / 262144 = ((x / 262144 : Nat) : Int) := shr_cast x 262144
 have h4 := rotr_or_18 x hx
 generalize x * 16384 % 4294967296 = A at *
 generalize x / 262144 = B at *
 generalize rotr x 18 = R at *
 go_enter Tryz.func151, Tryz.ntmps151
 go_wp2
 go_ret
 exact ⟨rfl, rfl⟩
theorem rotr_or_19 (x : Nat) (hx : x < 4294967296) : bits .or .u32 ((x * 8192 % 4294967296 : Nat) : Int) ((x / 524288 : Nat) : Int) = ((rotr x 19 : Nat) : Int) := by
 rw [u32_or_nat _ _ (Nat.mod_lt _ (by decide)) (Nat.lt_of_le_of_lt (Nat.div_le_self _ _) hx), Nat.or_comm]
 rfl
set_option maxHeartbeats 400000 in
theorem right_19 (x : Nat) (w : World) (hx : x < 4294967296) :
  Calls Tryz.prog 151 #[.int .u32 (x : Int), .int .i64 19] w (RetU .u32 (rotr x 19) w) := by
 have hw1 : IntKind.u64.wrap (-19) = 18446744073709551597 := by decide
 have hb : bits .and .u64 18446744073709551597 31 = 13 := by decide
 have h2 : IntKind.u32.wrap ((x : Int) * 8192) = ((x * 8192 % 4294967296 : Nat) : Int) := shl_cast x 8192
 have h3 : (x : Int) / 524288 = ((x / 524288 : Nat) : Int) := shr_cast x 524288
 have h4 := rotr_or_19 x hx
 generalize x * 8192 % 4294967296 = A at *
 generalize x / 524288 = B at *
 generalize rotr x 19 = R at *
 go_enter Tryz.func151, Tryz.ntmps151
 go_wp2
 go_ret
 exact ⟨rfl, rfl⟩
theorem rotr_or_22 (x : Nat) (hx : x < 4294967296) : bits .or .u32 ((x * 1024 % 4294967296 : Nat) : Int) ((x / 4194304 : Nat) : Int) = ((rotr x 22 : Nat) : Int) := by
 rw [u32_or_nat _ _ (Nat.mod_lt _ (by decide)) (Nat.lt_of_le_of_lt (Nat.div_le_self _ _) hx), Nat.or_comm]
 rfl
set_option maxHeartbeats 400000 in
theorem right_22 (x : Nat) (w : World) (hx : x < 4294967296) :
  Calls Tryz.prog 151 #[.int .u32 (x : Int), .int .i64 22] w (RetU .u32 (rotr x 22) w) := by
 have hw1 : IntKind.u64.wrap (-22) = 18446744073709551594 := by decide
 have hb : bits .and .u64 18446744073709551594 31 = 10 := by decide
 have h2 : IntKind.u32.wrap ((x : Int) * 1024) = ((x * 1024 % 4294967296 : Nat) : Int) := shl_cast x 1024
 have h3 : (x : Int) / 4194304 = ((x / 4194304 : Nat) : Int) := shr_cast x 4194304
 have h4 := rotr_or_22 x hx
 generalize x * 1024 % 4294967296 = A at *
 generalize x / 4194304 = B at *
 generalize rotr x 22 = R at *
 go_enter Tryz.func151, Tryz.ntmps151
 go_wp2
 go_ret
 exact ⟨rfl, rfl⟩
theorem rotr_or_25 (x : Nat) (hx : x < 4294967296) : bits .or .u32 ((x * 128 % 4294967296 : Nat) : Int) ((x / 33554432 : Nat) : Int) = ((rotr x 25 : Nat) : Int) := by
 rw [u32_or_nat _ _ (Nat.mod_lt _ (by decide)) (Nat.lt_of_le_of_lt (Nat.div_le_self _ _) hx), Nat.or_comm]
 rfl
set_option maxHeartbeats 400000 in
theorem right_25 (x : Nat) (w : World) (hx : x < 4294967296) :
  Calls Tryz.prog 151 #[.int .u32 (x : Int), .int .i64 25] w (RetU .u32 (rotr x 25) w) := by
 have hw1 : IntKind.u64.wrap (-25) = 18446744073709551591 := by decide
 have hb : bits .and .u64 18446744073709551591 31 = 7 := by decide
 have h2 : IntKind.u32.wrap ((x : Int) * 128) = ((x * 128 % 4294967296 : Nat) : Int) := shl_cast x 128
 have h3 : (x : Int) / 33554432 = ((x / 33554432 : Nat) : Int) := shr_cast x 33554432
 have h4 := rotr_or_25 x hx
 generalize x * 128 % 4294967296 = A at *
 generalize x / 33554432 = B at *
 generalize rotr x 25 = R at *
 go_enter Tryz.func151, Tryz.ntmps151
 go_wp2
 go_ret
 exact ⟨rfl, rfl⟩
theorem still_of {f : FuncId} {args : Array Value} {k : IntKind} {n : Nat} {w : World} (h : Calls Tryz.prog f args w (RetU k n w)) : Calls Tryz.prog f args w fun e w' => e = .returned (.int k (n : Int)) ∧ w' = w :=
 h.mono fun _ _ ⟨h1, h2⟩ => ⟨h1, h2.symm⟩
theorem wrap_add (a b : Nat) : IntKind.u32.wrap ((a : Int) + (b : Int)) = ((addw a b : Nat) : Int) := by
 rw [IntKind.wrap_u32', addw, Int.natCast_emod, Int.natCast_add]
 rfl
theorem xor_lt {a b : Nat} (ha : a < 4294967296) (hb : b < 4294967296) : a ^^^ b < 4294967296 := Nat.xor_lt_two_pow (n := 32) ha hb
theorem xor_div (a x : Nat) (q : Nat) (ha : a < 4294967296) (hx : x < 4294967296) : bits .xor .u32 (a : Int) ((x : Int) / (q : Int)) = ((a ^^^ x / q : Nat) : Int) := by
 rw [shr_cast]
 exact u32_xor_nat _ _ ha (Nat.lt_of_le_of_lt (Nat.div_le_self _ _) hx)
theorem and_lt {a : Nat} (ha : a < 4294967296) (b : Nat) : a &&& b < 4294967296 := Nat.lt_of_le_of_lt Nat.and_le_left ha
theorem not_cast (e : Nat) (he : e < 4294967296) : bits .xor .u32 IntKind.u32.max (e : Int) = ((4294967295 ^^^ e : Nat) : Int) := u32_xor_nat 4294967295 e (by decide) he
end Go.Proofs.YtchaahnhpeoomaaGreat
namespace Go.Proofs.YtchaahnhpeoomaaGreat
set_option linter.unusedVariables false
set_option linter.unusedSimpArgs false
set_option maxRecDepth 20000
open Go.RowKit
theorem size_64u32 : (Tryz.prog.info? 179).map (·.size) = some 64 := by kernel_rfl
def part (b : List Nat) (i : Nat) : Nat → Nat
 | 0 => 0
 | j + 1 => part b i j * 256 + b.getD (4 * i + j) 0
theorem getD_lt {b : List Nat} {m : Nat} (hm : 0 < m) (hb : Lim m b) (i : Nat) : b.getD i 0 < m := by
 rw [List.getD_eq_getElem?_getD]
 cases h : b[i]? with
 | none => exact hm
 | some x => exact hb.get h
theorem part_lt {b : List Nat} (hb : Lim 256 b) (i j : Nat) : part b i j < 256 ^ j := by
 induction j with
 | zero => simp [part]
 | succ j ih =>
  have := getD_lt (by decide) hb (4 * i + j)
  rw [part, Nat.pow_succ]
  omega
theorem part_4 (b : List Nat) (i : Nat) : part b i 4 = be32 b (4 * i) := by simp [part, be32, Nat.add_assoc]
def words (b : List Nat) (i : Nat) : List Nat := (List.range i).map fun t => be32 b (4 * t)
theorem words_length (b : List Nat) (i : Nat) : (words b i).length = i := by simp [words]
theorem words_succ (b : List Nat) (i : Nat) : words b (i + 1) = words b i ++ [be32 b (4 * i)] := by simp [words, List.range_succ]
theorem pad_zero {n : Nat} {l : List Nat} (h : l.length < n) : pad n (l ++ [0]) = pad n l := by
 rw [← pad_set h]
 have := pad_at h
 rw [List.getElem?_eq_some_iff] at this
 obtain ⟨h1, h2⟩ := this
 rw [← h2, List.set_getElem_self]
theorem pad_set2 {n : Nat} {l : List Nat} (h : l.length < n) (x y : Nat) : (pad n (l ++ [x])).set l.length y = pad n (l ++ [y]) := by
 rw [← pad_set h, List.set_set, pad_set h]
theorem pad_at2 {n : Nat} {l : List Nat} (h : l.length < n) (x : Nat) : (pad n (l ++ [x]))[l.length]? = some x := by
 rw [← pad_set h, List.getElem?_set_self (by rw [pad_length (by omega)]; exact h)]
theorem or_byte (v c : Nat) (hv : v < 16777216) (hc : c < 256) : bits .or .u32 ((v * 256 : Nat) : Int) (c : Int) = ((v * 256 + c : Nat) : Int) := by
 rw [u32_or_nat _ _ (by omega) (by omega), nat_join 8 _ _ (by simp) (by simpa using hc)]
theorem pad_get {n i : Nat} {l : List Nat} (h : l.length = i) (j : Nat) (hj : j < i) : (pad n l)[j]? = some (l.getD j 0) := by
 rw [pad, List.getElem?_append_left (by omega), List.getD_eq_getElem?_getD, List.getElem?_eq_getElem (by omega)]
 rfl
theorem sched_length (b : List Nat) (t : Nat) : (sched b t).length = 16 + t := by
 induction t with
 | zero => simp [sched]
 | succ t ih => rw [sched, List.length_append, ih]; simp; omega
theorem addw_lt (a b : Nat) : addw a b < 4294967296 := Nat.mod_lt _ (by decide)
theorem be32_lt {b : List Nat} (hb : Lim 256 b) (i : Nat) : be32 b i < 4294967296 := by
 have h1 := getD_lt (by decide) hb i
 have h2 := getD_lt (by decide) hb (i + 1)
 have h3 := getD_lt (by decide) hb (i + 2)
 have h4 := getD_lt (by decide) hb (i + 3)
 unfold be32
 omega
theorem sched_lim {b : List Nat} (hb : Lim 256 b) (t : Nat) : Lim 4294967296 (sched b t) := by
 induction t with
 | zero =>
  intro x hx
  obtain ⟨i, _, rfl⟩ := List.mem_map.1 hx
  exact be32_lt hb _
 | succ t ih =>
  rw [sched]
  refine ih.append fun x hx => ?_
  rw [List.mem_singleton] at hx
  subst hx
  exact addw_lt _ _
set_option maxRecDepth 100000 in
set_option maxHeartbeats 1600000 in
theorem sched_any (A : Option Addr) (c : Nat) (b : List Nat) (w : World) (hb : Rd .u8 w A b) (hl : b.length = 64) (lb : Lim 256 b) (hc : 64 ≤ c) (hcl : c ≤ 9223372036854775807) :
  Calls Tryz.prog 150 #[.slice A 64 c] w (GivesArr .u32 (sched b 48) w) := by
 have HL := Lib.hid hl
 obtain ⟨bb, o, rfl, hbw, hcell⟩ : ∃ bb o, A = some ⟨bb, o, none⟩ ∧ bb < w.heap.size ∧ ∀ (i x : Nat), b[i]? = some x → w.cell? ⟨bb, o + i, none⟩ = some (.int .u8 (x : Int)) := by
  obtain ⟨x, hx⟩ := get_of_lt (xs := b) (i := 0) (by omega)
  exact hb.pos hx
 have HC := Lib.hid hcell
 clear hl hb hcell
 go_enter Tryz.func150, Tryz.ntmps150
 go_wp2_with fail
 go_loopw [9] (fun t wr => ∃ i : Nat, t = .int .i64 (i : Int) ∧ i ≤ 16 ∧ Whl .u32 179 wr w.heap.size (pad 64 (words b i)) ∧ Below w.heap.size w wr) (fun t _ => 16 - (intOf t).toNat)
 case atStart =>
  exact ⟨0, rfl, by omega, whl_new w (pad 64 []) _ rfl, (Below.refl _ _).alloc (Nat.le_refl _) _⟩
 case round =>
  obtain ⟨i, rfl, hi, hw, hbel⟩ := hrel
  by_cases hlt : i < 16
  ·go_wp2_with fail
   obtain ⟨wo, rfl⟩ : ∃ wo, wo = wr := ⟨_, rfl⟩
   go_loopw [20] (fun t wr => ∃ j : Nat, t = .int .i64 (j : Int) ∧ j ≤ 4 ∧ Whl .u32 179 wr w.heap.size (pad 64 (words b i ++ [part b i j])) ∧ Below w.heap.size w wr) (fun t _ => 4 - (intOf t).toNat)
   case atStart => exact ⟨0, rfl, by omega, by rw [show part b i 0 = 0 from rfl, pad_zero (by rw [words_length]; omega)]; exact hw, hbel⟩
   case round =>
    clear hw hbel
    obtain ⟨j, rfl, hj, hw, hbel⟩ := hrel
    by_cases hlt2 : j < 4
    ·obtain ⟨x, hgx⟩ := get_of_lt (xs := b) (i := 4 * i + j) (by rw [HL.out]; omega)
     have hxb := lb.get hgx
     have hcx := HC.out _ _ hgx
     have hcx2 := (hbel.cell (p := ⟨bb, o + (4 * i + j), none⟩) hbw).trans hcx
     rw [← Nat.add_assoc] at hcx2
     have hvl := part_lt lb i j
     have hvl2 : part b i j < 16777216 := Nat.lt_of_lt_of_le hvl (Nat.le_trans (Nat.pow_le_pow_right (by decide) (show j ≤ 3 by omega)) (by decide))
     have hP := Lib.hid (show part b i (j + 1) = part b i j * 256 + x by rw [part, List.getD_eq_getElem?_getD, hgx]; rfl)
     have hwl : (words b i).length < 64 := by rw [words_length]; omega
     have hat := pad_at2 hwl (part b i j)
     rw [words_length] at hat
     have hcw := hw.blk.cell hat
     have hfw := hw.blk.frozen hat
     have HW := Lib.hid hw
     have hor := or_byte (part b i j) x hvl2 hxb
     have hor2 : bits .or .u32 ((part b i j : Int) * 256) (x : Int) = ((part b i j * 256 + x : Nat) : Int) := hor
     clear hcx hvl hgx hat hor hwl
     go_wp2_with fail
     go_roundw
     case rel =>
      refine ⟨j + 1, by go_num, by omega, ?_, hbel.setCell (p := ⟨w.heap.size, i, none⟩) (Nat.le_refl _) _⟩
      have h := HW.out.set i (part b i (j + 1))
      have h2 := pad_set2 (n := 64) (l := words b i) (by rw [words_length]; omega) (part b i j) (part b i (j + 1))
      rw [words_length] at h2
      rw [h2] at h
      have h3 : ((part b i (j + 1) : Nat) : Int) = (part b i j : Int) * 256 + (x : Int) := by rw [hP.out]; omega
      rw [h3] at h
      exact h
     case measure => simp [intOf]; omega
    ·obtain rfl : j = 4 := by omega
     rw [part_4, ← words_succ] at hw
     go_wp2_with fail
     go_roundw
     case rel => exact ⟨i + 1, by go_num, by omega, hw, hbel⟩
     case measure => simp [intOf]; omega
  ·have h16 : i = 16 := by omega
   rw [h16] at hw
   have hge : ((i : Int) < 16) = False := by simp; omega
   clear h16
   obtain ⟨i16, rfl⟩ : ∃ j, j = i := ⟨_, rfl⟩
   go_wp2_with fail
   go_loopw [6] (fun t wr => ∃ i : Nat, t = .int .i64 (i : Int) ∧ 16 ≤ i ∧ i ≤ 64 ∧ Whl .u32 179 wr w.heap.size (pad 64 (sched b (i - 16))) ∧ Below w.heap.size w wr) (fun t _ => 64 - (intOf t).toNat)
   case atStart => exact ⟨16, rfl, Nat.le_refl _, by omega, hw, hbel⟩
   case round =>
    clear hw hbel
    obtain ⟨i, rfl, hi1, hi2, hw, hbel⟩ := hrel
    by_cases hlt2 : i < 64
    ·obtain ⟨s, hs⟩ : ∃ s, s = sched b (i - 16) := ⟨_, rfl⟩
     have hsl : s.length = i := by rw [hs, sched_length]; omega
     have hs1 := Lib.hid (show sched b (i + 1 - 16) = s ++ [expand (s.getD (i - 16) 0) (s.getD (i - 15) 0) (s.getD (i - 7) 0) (s.getD (i - 2) 0)] by rw [hs, show i + 1 - 16 = (i - 16) + 1 from by omega, sched, show i - 16 + 1 = i - 15 from by omega, show i - 16 + 9 = i - 7 from by omega, show i - 16 + 14 = i - 2 from by omega])
     have hsb : Lim 4294967296 s := by rw [hs]; exact sched_lim lb _
     rw [← hs] at hw
     clear hs
     have ha := pad_get (n := 64) hsl (i - 16) (by omega)
     have hx := pad_get (n := 64) hsl (i - 15) (by omega)
     have hc7 := pad_get (n := 64) hsl (i - 7) (by omega)
     have hy := pad_get (n := 64) hsl (i - 2) (by omega)
     have hla := getD_lt (by decide) hsb (i - 16)
     have hlx := getD_lt (by decide) hsb (i - 15)
     have hlc := getD_lt (by decide) hsb (i - 7)
     have hly := getD_lt (by decide) hsb (i - 2)
     have HS := Lib.hid hsl
     generalize s.getD (i - 16) 0 = va at *
     generalize s.getD (i - 15) 0 = vx at *
     generalize s.getD (i - 7) 0 = vc at *
     generalize s.getD (i - 2) 0 = vy at *
     have h1 := hw.blk.cell ha
     have h2 := hw.blk.cell hx
     have h3 := hw.blk.cell hc7
     have h4 := hw.blk.cell hy
     have hat := pad_at (n := 64) (l := s) (by omega)
     rw [hsl] at hat
     have h5 := hw.blk.cell hat
     have h6 := hw.blk.frozen hat
     clear hat ha hx hc7 hy hsl
     go_wp2_with fail
     go_quiet (fail)
     have e1 : bits .xor .u32 ((rotr vx 7 : Nat) : Int) ((rotr vx 18 : Nat) : Int) = ((rotr vx 7 ^^^ rotr vx 18 : Nat) : Int) := u32_xor_nat _ _ (rotr_lt _ _ hlx) (rotr_lt _ _ hlx)
     have e2 : bits .xor .u32 ((rotr vx 7 ^^^ rotr vx 18 : Nat) : Int) ((vx : Int) / 8) = ((sig0 vx : Nat) : Int) := xor_div _ _ 8 (xor_lt (rotr_lt _ _ hlx) (rotr_lt _ _ hlx)) hlx
     have e3 : bits .xor .u32 ((rotr vy 17 : Nat) : Int) ((rotr vy 19 : Nat) : Int) = ((rotr vy 17 ^^^ rotr vy 19 : Nat) : Int) := u32_xor_nat _ _ (rotr_lt _ _ hly) (rotr_lt _ _ hly)
     have e4 : bits .xor .u32 ((rotr vy 17 ^^^ rotr vy 19 : Nat) : Int) ((vy : Int) / 1024) = ((sig1 vy : Nat) : Int) := xor_div _ _ 1024 (xor_lt (rotr_lt _ _ hly) (rotr_lt _ _ hly)) hly
     have e5 := wrap_add va (sig0 vx)
     have e6 := wrap_add (addw va (sig0 vx)) vc
     have e7 : IntKind.u32.wrap (((addw (addw va (sig0 vx)) vc : Nat) : Int) + ((sig1 vy : Nat) : Int)) = ((expand va vx vc vy : Nat) : Int) := wrap_add _ _
     go_wp2_with fail
     refine wp_region_still_tail 29 (by kernel_rfl) (by kernel_rfl) ?_
     simp only [List.take_succ_cons, List.take_zero, List.drop_succ_cons, List.drop_zero]
     show wpStill Tryz.prog _ (wr.drewN nq).drew (fun a' => wpList Tryz.prog _ _ _ a' (wr.drewN nq).drew) _ _
     have hw2 : Whl .u32 179 (wr.drewN nq).drew w.heap.size (pad 64 s) := hw
     have hbel2 : Below w.heap.size w (wr.drewN nq).drew := below_drewN (below_drewN hbel nq) 1
     replace h1 : (wr.drewN nq).drew.cell? ⟨w.heap.size, i - 16, none⟩ = some (.int .u32 (va : Int)) := h1
     replace h3 : (wr.drewN nq).drew.cell? ⟨w.heap.size, i - 7, none⟩ = some (.int .u32 (vc : Int)) := h3
     replace h5 : (wr.drewN nq).drew.cell? ⟨w.heap.size, i, none⟩ = some (.int .u32 ((0 : Nat) : Int)) := h5
     replace h6 : (wr.drewN nq).drew.frozen? ⟨w.heap.size, i, none⟩ = false := h6
     generalize (wr.drewN nq).drew = wz at *
     have e8 : IntKind.i64.wrap ((i : Int) - 16) = (i : Int) - 16 := IntWalk.i64_in _ (by omega)
     have e9 : IntKind.i64.wrap ((i : Int) - 7) = (i : Int) - 7 := IntWalk.i64_in _ (by omega)
     have e10 : ((i : Int) - 16).toNat = i - 16 := by omega
     have e11 : ((i : Int) - 7).toNat = i - 7 := by omega
     have i1 : (0 : Int) ≤ (i : Int) - 16 := by omega
     have i2 : (0 : Int) ≤ (i : Int) - 7 := by omega
     have i3 : (i : Int) - 16 < 64 := by omega
     have i4 : (i : Int) - 7 < 64 := by omega
     have i5 : (16 : Int) ≤ (i : Int) := by omega
     have i6 : (7 : Int) ≤ (i : Int) := by omega
     have i7 : (i : Int) < 80 := by omega
     have i8 : (i : Int) < 71 := by omega
     clear h2 h4 hw hbel
     iterate 6 still_step
     still_call (still_of (right_7 vx _ hlx))
     still_step
     still_call (still_of (right_18 vx _ hlx))
     iterate 11 still_step
     still_call (still_of (right_17 vy _ hly))
     still_step
     still_call (still_of (right_19 vy _ hly))
     iterate 6 still_step
     refine wpStill_nil ?_
     clear e8 e9 e10 e11 i1 i2 i3 i4 i5 i6 i7 i8
     go_wp2_with fail
     go_roundw
     case rel =>
      refine ⟨i + 1, by go_num, by omega, by omega, ?_, hbel2.setCell (p := ⟨w.heap.size, i, none⟩) (Nat.le_refl _) _⟩
      have h := hw2.set i (expand va vx vc vy)
      have h7 := pad_set (n := 64) (l := s) (by have := HS.out; omega) (expand va vx vc vy)
      rw [HS.out] at h7
      rw [h7, ← hs1.out] at h
      exact h
     case measure => simp [intOf]; omega
    ·obtain rfl : i = 64 := by omega
     have hfull : pad 64 (sched b 48) = sched b 48 := pad_full (by rw [sched_length])
     have hw2 : Whl .u32 179 wr w.heap.size (sched b 48) := by rw [← hfull]; exact hw
     have hsz : (Tryz.prog.info? 179).map (·.size) = some (sched b 48).length := by rw [sched_length]; exact size_64u32
     have HSZ := Lib.hid hsz
     clear hsz hfull hw
     go_wp2_with (first | (refine wpList_load_whl rfl 179 (.tmp 2) rfl w.heap.size rfl .u32 _ (sched b 48) hw2 _ Tryz.underlying179 rfl HSZ.out ?_) | (refine wpList_store_whl rfl 179 (.tmp 2) (.tmp 76) rfl w.heap.size .u32 _ (sched b 48) (sched b 48) rfl rfl hw2 rfl HSZ.out ?_; intro w3 hw3 hg3 hs3; clear hs3))
     exact bodyPost_ret (v := .agg (ints .u32 (sched b 48)).toArray) (results_whl rfl _ _ w.heap.size .u32 _ (sched b 48) _ rfl hw3 Tryz.underlying179 rfl HSZ.out) rfl ⟨rfl, below_only hbel hg3 hbel.size (Nat.le_refl _)⟩
end Go.Proofs.YtchaahnhpeoomaaGreat
namespace Go.Proofs.YtchaahnhpeoomaaGreat
set_option linter.unusedVariables false
set_option linter.unusedSimpArgs false
set_option maxRecDepth 20000
open Go.RowKit
theorem zero_64u32 : (Tryz.prog.info? 179).map (fun i => i.zero) = some (some (.agg (ints .u32 (List.replicate 64 0)).toArray)) := by kernel_rfl
theorem zero_8u32 : (Tryz.prog.info? 180).map (fun i => i.zero) = some (some (.agg (ints .u32 (List.replicate 8 0)).toArray)) := by kernel_rfl
theorem size_8u32 : (Tryz.prog.info? 180).map (·.size) = some 8 := by kernel_rfl
theorem mkS {wa w' : World} {g o : Nat} {vs : List Value} (hc : Cut wa g o vs) (h : Below wa.heap.size wa w') : Below wa.heap.size wa w' ∧ w'.rangeAt g o vs := ⟨h, (hc.below h).range⟩
theorem tr1 {a b c : World} (h2 : Below b.heap.size b c) (h1 : Below a.heap.size a b) : Below a.heap.size a c := h1.trans (h2.mono h1.size)
theorem tr2 {a b c : World} {g : Nat} (h2 : b.grownBy c (some g)) (h1 : Below a.heap.size a b) (hg : a.heap.size ≤ g) : Below a.heap.size a c := below_only h1 h2 h1.size hg
theorem ne_of_new {k : IntKind} {t : TypeId} {w : World} {g g' : Nat} {cs : List Nat} (h : Whl k t w g cs) (hg : Hid (g' = w.heap.size)) : g ≠ g' := by
 have := h.lt
 rw [hg.out]
 omega
theorem ne_of_new2 {k : IntKind} {t : TypeId} {w w' : World} {g g' : Nat} {cs : List Nat} (h : Whl k t w g cs) (hb : Below w.heap.size w w') (hg : Hid (g' = w'.heap.size)) : g ≠ g' := ne_of_new (h.below hb) hg
theorem list8 {l : List Nat} (h : l.length = 8) : ∃ a b c d e f g i, l = [a, b, c, d, e, f, g, i] := by
 match l, h with
 | [a, b, c, d, e, f, g, i], _ => exact ⟨a, b, c, d, e, f, g, i, rfl⟩
theorem step8_length {l : List Nat} (h : l.length = 8) (k w : Nat) : (step8 l k w).length = 8 := by
 obtain ⟨a, b, c, d, e, f, g, i, rfl⟩ := list8 h
 rfl
theorem step8_lim {l : List Nat} (h : l.length = 8) (ll : Lim 4294967296 l) (k w : Nat) : Lim 4294967296 (step8 l k w) := by
 obtain ⟨a, b, c, d, e, f, g, i, rfl⟩ := list8 h
 intro x hx
 simp only [step8, List.mem_cons, List.not_mem_nil, or_false] at hx
 rcases hx with rfl | rfl | rfl | rfl | rfl | rfl | rfl | rfl
 ·exact addw_lt _ _
 ·exact ll _ (by simp)
 ·exact ll _ (by simp)
 ·exact ll _ (by simp)
 ·exact addw_lt _ _
 ·exact ll _ (by simp)
 ·exact ll _ (by simp)
 ·exact ll _ (by simp)
theorem rounds8_ok (hv ks ws : List Nat) (t : Nat) (h : hv.length = 8) (ll : Lim 4294967296 hv) : (rounds8 hv ks ws t).length = 8 ∧ Lim 4294967296 (rounds8 hv ks ws t) := by
 induction t with
 | zero => exact ⟨h, ll⟩
 | succ t ih => exact ⟨step8_length ih.1 _ _, step8_lim ih.1 ih.2 _ _⟩
theorem rounds8_form (hv ks ws : List Nat) (t : Nat) (h : hv.length = 8) (ll : Lim 4294967296 hv) :
  ∃ a b c d e f g i, rounds8 hv ks ws t = [a, b, c, d, e, f, g, i] ∧ a < 4294967296 ∧ b < 4294967296 ∧ c < 4294967296 ∧ d < 4294967296 ∧ e < 4294967296 ∧ f < 4294967296 ∧ g < 4294967296 ∧ i < 4294967296 := by
 obtain ⟨h1, h2⟩ := rounds8_ok hv ks ws t h ll
 obtain ⟨a, b, c, d, e, f, g, i, h3⟩ := list8 h1
 rw [h3] at h2
 exact ⟨a, b, c, d, e, f, g, i, h3, h2 _ (by simp), h2 _ (by simp), h2 _ (by simp), h2 _ (by simp), h2 _ (by simp), h2 _ (by simp), h2 _ (by simp), h2 _ (by simp)⟩
def outs (h v : List Nat) (i : Nat) : List Nat := (List.range i).map fun j => addw (h.getD j 0) (v.getD j 0)
theorem outs_length (h v : List Nat) (i : Nat) : (outs h v i).length = i := by simp [outs]
theorem outs_succ (h v : List Nat) (i : Nat) : outs h v (i + 1) = outs h v i ++ [addw (h.getD i 0) (v.getD i 0)] := by simp [outs, List.range_succ]
set_option maxRecDepth 100000 in
set_option maxHeartbeats 3200000 in
theorem behind_any (gs : Nat) (A : Option Addr) (c : Nat) (hv b : List Nat) (w : World) (hK : Cut w gs 1 (ints .u32 K64)) (hH : Cut w gs 65 (ints .u32 hv)) (lh : Lim 4294967296 hv)
  (hb : Rd .u8 w A b) (h8 : hv.length = 8) (hl : b.length = 64) (lb : Lim 256 b) (hc : 64 ≤ c) (hcl : c ≤ 9223372036854775807) :
  Calls Tryz.prog 121 #[.pointer (some ⟨gs, 0, none⟩), .slice A 64 c] w (GivesArr .u32 (compress hv b) w) := by
 obtain ⟨ws, hws⟩ : ∃ ws, ws = sched b 48 := ⟨_, rfl⟩
 have hwl := Lib.hid (show ws.length = 64 by rw [hws, sched_length])
 have HWS := Lib.hid hws
 have H8 := Lib.hid h8
 have hsc : Hid (∀ w, Rd .u8 w A b → Calls Tryz.prog 150 #[.slice A 64 c] w (GivesArr .u32 ws w)) := fun w hr => by rw [hws]; exact sched_any A c b w hr hl lb hc hcl
 have HL := Lib.hid hl
 clear hl hws h8
 go_enter Tryz.func121, Tryz.ntmps121
 go_upto_region 1 with fail
 have hw4 : Whl .u32 180 (w.alloc (.cells (ints .u32 (List.replicate 8 0)).toArray 180)) w.heap.size (List.replicate 8 0) := whl_new0 w _
 have hba : Below w.heap.size w (w.alloc (.cells (ints .u32 (List.replicate 8 0)).toArray 180)) := (Below.refl _ _).alloc (Nat.le_refl _) _
 have hHa := hH.alloc (.cells (ints .u32 (List.replicate 8 0)).toArray 180)
 have hKa := hK.alloc (.cells (ints .u32 (List.replicate 8 0)).toArray 180)
 have hra := hb.alloc (.cells (ints .u32 (List.replicate 8 0)).toArray 180)
 change Code.wp _ _ _ _ (w.alloc (.cells (ints .u32 (List.replicate 8 0)).toArray 180))
 generalize w.alloc (.cells (ints .u32 (List.replicate 8 0)).toArray 180) = wa at *
 have hH0 := hH
 clear hK hH hb
 go_cut [5, 6] (fun s5 s6 wx => ∃ g5 g6, s5 = .pointer (some ⟨g5, 0, none⟩) ∧ s6 = .pointer (some ⟨g6, 0, none⟩) ∧ Whl .u32 179 wx g5 ws ∧ Whl .u32 180 wx g6 hv ∧ wa.heap.size ≤ g5 ∧ wa.heap.size ≤ g6 ∧ g5 ≠ g6 ∧ Below wa.heap.size wa wx)
 case first =>
  refine wp_region_held_drew (S := fun w' => Below wa.heap.size wa w' ∧ w'.rangeAt gs 65 (ints .u32 hv)) (by kernel_rfl) (mkS hHa (below_drewN (Below.refl _ _) 1)) (fun hS => ?_)
  have hbd := hS.1
  generalize wa.drew = wd at *
  refine wpAnyH_take (i := 0) (v := .slice A 64 c) rfl (by kernel_rfl) (by kernel_rfl) (by kernel_rfl) (fun _ _ _ h => h) (Or.inl ⟨by rfl, fun _ _ => rfl⟩) hS ?_
  refine wpAnyH_take (i := 2) (v := .pointer (some ⟨gs, 0, none⟩)) rfl (by kernel_rfl) (by kernel_rfl) (by kernel_rfl) (fun _ _ _ h => h) (Or.inl ⟨by rfl, fun _ _ => rfl⟩) hS ?_
  refine wpAnyH_take (i := 3) (v := .pointer (some ⟨gs, 0, none⟩)) rfl (by kernel_rfl) (by kernel_rfl) (by kernel_rfl) (fun _ _ _ h => h) (Or.inl ⟨by rfl, fun _ _ => rfl⟩) hS ?_
  refine wpAnyH_take (i := 4) (v := .pointer (some ⟨gs, 65, none⟩)) rfl (by kernel_rfl) (by kernel_rfl) (by kernel_rfl) (fun _ _ _ h => h) (Or.inl ⟨by rfl, fun w _ => ?_⟩) hS ?_
  ·go_simp
  refine wpAnyH_take (i := 5) (v := .agg (ints .u32 hv).toArray) rfl (by kernel_rfl) (by kernel_rfl) (by kernel_rfl) (fun _ _ _ h => h) (yieldsIf_load_mid (by rfl) 180 (.tmp 17) rfl gs 65 rfl (ints .u32 hv) _ (fun _ h => h.2) Tryz.underlying180 rfl (by rw [ints_length, H8.out]; exact size_8u32)) hS ?_
  try simp only [Act.put, List.setIfInBounds_toArray, List.set_cons_zero, List.set_cons_succ]
  refine wpAnyH_ready (rs := [1, 6, 7]) (by kernel_rfl) (by simp) ?_
  refine AllReadyH.cons (o := { dst := some 14, op := .call { callee := .value (.func 150), args := #[.tmp 13], argTypes := #[22] }, type := 179, pos := _, after := _, guard := none }) rfl (fun K hK => ?_) ?_
  ·go_simp
   refine (hsc.out _ (hra.below hbd)).mono ?_
   rintro e wc ⟨rfl, hbc⟩
   go_simp
   refine hK.out _ _ (mkS hHa (tr1 hbc hbd)) (fun _ => ?_)
   clear hK K
   try simp only [Act.put, List.setIfInBounds_toArray, List.set_cons_zero, List.set_cons_succ]
   refine wpAnyH_ready (rs := [6, 7]) (by kernel_rfl) (by simp) ?_
   refine AllReadyH.cons (o := { dst := some 5, op := .alloc 179, type := 0, pos := _, after := _, guard := none }) rfl (fun K hK => ?_) ?_
   ·refine step_alloc_arr rfl 179 rfl .u32 64 zero_64u32 ?_
    intro g5 w5 hg5 hw5 hs5 hb5
    have hk5 : wa.heap.size ≤ g5 := by rw [hg5.out]; exact (tr1 hbc hbd).size
    clear hs5
    refine hK.out _ _ (mkS hHa (tr1 hb5 (tr1 hbc hbd))) (fun _ => ?_)
    clear hK K
    try simp only [Act.put, List.setIfInBounds_toArray, List.set_cons_zero, List.set_cons_succ]
    refine wpAnyH_ready (rs := [7]) (by kernel_rfl) (by simp) ?_
    refine AllReadyH.cons (o := { dst := some 6, op := .alloc 180, type := 0, pos := _, after := _, guard := none }) rfl (fun K hK => ?_) ?_
    ·refine step_alloc_arr rfl 180 rfl .u32 8 zero_8u32 ?_
     intro g6 w6 hg6 hw6 hs6 hb6
     have hk6 : wa.heap.size ≤ g6 := by rw [hg6.out]; exact (tr1 hb5 (tr1 hbc hbd)).size
     clear hs6
     refine hK.out _ _ (mkS hHa (tr1 hb6 (tr1 hb5 (tr1 hbc hbd)))) (fun _ => ?_)
     clear hK K
     try simp only [Act.put, List.setIfInBounds_toArray, List.set_cons_zero, List.set_cons_succ]
     have hne : g6 ≠ g5 := (ne_of_new hw5 hg6).symm
     refine wpAnyH_ready (rs := [8]) (by kernel_rfl) (by simp) ?_
     refine AllReadyH.cons (o := { dst := none, op := .store 179 (.tmp 5) (.tmp 14), type := 0, pos := _, after := _, guard := none }) rfl (fun K hK => ?_) ?_
     rotate_left
     ·exact AllReadyH.nil
     refine step_store_whl rfl 179 (.tmp 5) (.tmp 14) rfl g5 .u32 _ _ ws rfl rfl ((hw5.below hb6)) hwl.out size_64u32 ?_
     intro w8 hw8 hg8 hs8
     refine hK.out _ _ (mkS hHa (tr2 hg8 (tr1 hb6 (tr1 hb5 (tr1 hbc hbd))) hk5)) (fun _ => ?_)
     clear hK K hs8
     try simp only [Act.put, List.setIfInBounds_toArray, List.set_cons_zero, List.set_cons_succ]
     refine wpAnyH_ready (rs := [9]) (by kernel_rfl) (by simp) ?_
     refine AllReadyH.cons (o := { dst := none, op := .store 180 (.tmp 6) (.tmp 18), type := 0, pos := _, after := _, guard := none }) rfl (fun K hK => ?_) ?_
     rotate_left
     ·exact AllReadyH.nil
     refine step_store_whl rfl 180 (.tmp 6) (.tmp 18) rfl g6 .u32 _ _ hv rfl rfl ((hw6).grown hg8 (by simpa using hne.symm)) H8.out size_8u32 ?_
     intro w9 hw9 hg9 hs9
     refine hK.out _ _ (mkS hHa (tr2 hg9 (tr2 hg8 (tr1 hb6 (tr1 hb5 (tr1 hbc hbd))) hk5) hk6)) (fun _ => ?_)
     clear hK K hs9
     try simp only [Act.put, List.setIfInBounds_toArray, List.set_cons_zero, List.set_cons_succ]
     refine wpAnyH_done (by kernel_rfl) ?_ _
     go_wp2_with fail
     go_meet
     exact ⟨g5, g6, rfl, rfl, hw8.grown hg9 (by simpa using hne), hw9, hk5, hk6, hne.symm, (tr2 hg9 (tr2 hg8 (tr1 hb6 (tr1 hb5 (tr1 hbc hbd))) hk5) hk6)⟩
    exact AllReadyH.nil
   refine AllReadyH.cons (o := { dst := some 6, op := .alloc 180, type := 0, pos := _, after := _, guard := none }) rfl (fun K hK => ?_) ?_
   ·refine step_alloc_arr rfl 180 rfl .u32 8 zero_8u32 ?_
    intro g6 w6 hg6 hw6 hs6 hb6
    have hk6 : wa.heap.size ≤ g6 := by rw [hg6.out]; exact (tr1 hbc hbd).size
    clear hs6
    refine hK.out _ _ (mkS hHa (tr1 hb6 (tr1 hbc hbd))) (fun _ => ?_)
    clear hK K
    try simp only [Act.put, List.setIfInBounds_toArray, List.set_cons_zero, List.set_cons_succ]
    refine wpAnyH_ready (rs := [6]) (by kernel_rfl) (by simp) ?_
    refine AllReadyH.cons (o := { dst := some 5, op := .alloc 179, type := 0, pos := _, after := _, guard := none }) rfl (fun K hK => ?_) ?_
    ·refine step_alloc_arr rfl 179 rfl .u32 64 zero_64u32 ?_
     intro g5 w5 hg5 hw5 hs5 hb5
     have hk5 : wa.heap.size ≤ g5 := by rw [hg5.out]; exact (tr1 hb6 (tr1 hbc hbd)).size
     clear hs5
     refine hK.out _ _ (mkS hHa (tr1 hb5 (tr1 hb6 (tr1 hbc hbd)))) (fun _ => ?_)
     clear hK K
     try simp only [Act.put, List.setIfInBounds_toArray, List.set_cons_zero, List.set_cons_succ]
     have hne : g6 ≠ g5 := ne_of_new hw6 hg5
     refine wpAnyH_ready (rs := [8]) (by kernel_rfl) (by simp) ?_
     refine AllReadyH.cons (o := { dst := none, op := .store 179 (.tmp 5) (.tmp 14), type := 0, pos := _, after := _, guard := none }) rfl (fun K hK => ?_) ?_
     rotate_left
     ·exact AllReadyH.nil
     refine step_store_whl rfl 179 (.tmp 5) (.tmp 14) rfl g5 .u32 _ _ ws rfl rfl (hw5) hwl.out size_64u32 ?_
     intro w8 hw8 hg8 hs8
     refine hK.out _ _ (mkS hHa (tr2 hg8 (tr1 hb5 (tr1 hb6 (tr1 hbc hbd))) hk5)) (fun _ => ?_)
     clear hK K hs8
     try simp only [Act.put, List.setIfInBounds_toArray, List.set_cons_zero, List.set_cons_succ]
     refine wpAnyH_ready (rs := [9]) (by kernel_rfl) (by simp) ?_
     refine AllReadyH.cons (o := { dst := none, op := .store 180 (.tmp 6) (.tmp 18), type := 0, pos := _, after := _, guard := none }) rfl (fun K hK => ?_) ?_
     rotate_left
     ·exact AllReadyH.nil
     refine step_store_whl rfl 180 (.tmp 6) (.tmp 18) rfl g6 .u32 _ _ hv rfl rfl (((hw6.below hb5)).grown hg8 (by simpa using hne.symm)) H8.out size_8u32 ?_
     intro w9 hw9 hg9 hs9
     refine hK.out _ _ (mkS hHa (tr2 hg9 (tr2 hg8 (tr1 hb5 (tr1 hb6 (tr1 hbc hbd))) hk5) hk6)) (fun _ => ?_)
     clear hK K hs9
     try simp only [Act.put, List.setIfInBounds_toArray, List.set_cons_zero, List.set_cons_succ]
     refine wpAnyH_done (by kernel_rfl) ?_ _
     go_wp2_with fail
     go_meet
     exact ⟨g5, g6, rfl, rfl, hw8.grown hg9 (by simpa using hne), hw9, hk5, hk6, hne.symm, (tr2 hg9 (tr2 hg8 (tr1 hb5 (tr1 hb6 (tr1 hbc hbd))) hk5) hk6)⟩
    exact AllReadyH.nil
   exact AllReadyH.nil
  refine AllReadyH.cons (o := { dst := some 5, op := .alloc 179, type := 0, pos := _, after := _, guard := none }) rfl (fun K hK => ?_) ?_
  ·refine step_alloc_arr rfl 179 rfl .u32 64 zero_64u32 ?_
   intro g5 w5 hg5 hw5 hs5 hb5
   have hk5 : wa.heap.size ≤ g5 := by rw [hg5.out]; exact hbd.size
   clear hs5
   refine hK.out _ _ (mkS hHa (tr1 hb5 hbd)) (fun _ => ?_)
   clear hK K
   try simp only [Act.put, List.setIfInBounds_toArray, List.set_cons_zero, List.set_cons_succ]
   refine wpAnyH_ready (rs := [1, 7]) (by kernel_rfl) (by simp) ?_
   refine AllReadyH.cons (o := { dst := some 14, op := .call { callee := .value (.func 150), args := #[.tmp 13], argTypes := #[22] }, type := 179, pos := _, after := _, guard := none }) rfl (fun K hK => ?_) ?_
   ·go_simp
    refine (hsc.out _ (hra.below (tr1 hb5 hbd))).mono ?_
    rintro e wc ⟨rfl, hbc⟩
    go_simp
    refine hK.out _ _ (mkS hHa (tr1 hbc (tr1 hb5 hbd))) (fun _ => ?_)
    clear hK K
    try simp only [Act.put, List.setIfInBounds_toArray, List.set_cons_zero, List.set_cons_succ]
    refine wpAnyH_ready (rs := [7]) (by kernel_rfl) (by simp) ?_
    refine AllReadyH.cons (o := { dst := some 6, op := .alloc 180, type := 0, pos := _, after := _, guard := none }) rfl (fun K hK => ?_) ?_
    ·refine step_alloc_arr rfl 180 rfl .u32 8 zero_8u32 ?_
     intro g6 w6 hg6 hw6 hs6 hb6
     have hk6 : wa.heap.size ≤ g6 := by rw [hg6.out]; exact (tr1 hbc (tr1 hb5 hbd)).size
     clear hs6
     refine hK.out _ _ (mkS hHa (tr1 hb6 (tr1 hbc (tr1 hb5 hbd)))) (fun _ => ?_)
     clear hK K
     try simp only [Act.put, List.setIfInBounds_toArray, List.set_cons_zero, List.set_cons_succ]
     have hne : g6 ≠ g5 := (ne_of_new2 hw5 hbc hg6).symm
     refine wpAnyH_ready (rs := [8]) (by kernel_rfl) (by simp) ?_
     refine AllReadyH.cons (o := { dst := none, op := .store 179 (.tmp 5) (.tmp 14), type := 0, pos := _, after := _, guard := none }) rfl (fun K hK => ?_) ?_
     rotate_left
     ·exact AllReadyH.nil
     refine step_store_whl rfl 179 (.tmp 5) (.tmp 14) rfl g5 .u32 _ _ ws rfl rfl (((hw5.below hbc).below hb6)) hwl.out size_64u32 ?_
     intro w8 hw8 hg8 hs8
     refine hK.out _ _ (mkS hHa (tr2 hg8 (tr1 hb6 (tr1 hbc (tr1 hb5 hbd))) hk5)) (fun _ => ?_)
     clear hK K hs8
     try simp only [Act.put, List.setIfInBounds_toArray, List.set_cons_zero, List.set_cons_succ]
     refine wpAnyH_ready (rs := [9]) (by kernel_rfl) (by simp) ?_
     refine AllReadyH.cons (o := { dst := none, op := .store 180 (.tmp 6) (.tmp 18), type := 0, pos := _, after := _, guard := none }) rfl (fun K hK => ?_) ?_
     rotate_left
     ·exact AllReadyH.nil
     refine step_store_whl rfl 180 (.tmp 6) (.tmp 18) rfl g6 .u32 _ _ hv rfl rfl ((hw6).grown hg8 (by simpa using hne.symm)) H8.out size_8u32 ?_
     intro w9 hw9 hg9 hs9
     refine hK.out _ _ (mkS hHa (tr2 hg9 (tr2 hg8 (tr1 hb6 (tr1 hbc (tr1 hb5 hbd))) hk5) hk6)) (fun _ => ?_)
     clear hK K hs9
     try simp only [Act.put, List.setIfInBounds_toArray, List.set_cons_zero, List.set_cons_succ]
     refine wpAnyH_done (by kernel_rfl) ?_ _
     go_wp2_with fail
     go_meet
     exact ⟨g5, g6, rfl, rfl, hw8.grown hg9 (by simpa using hne), hw9, hk5, hk6, hne.symm, (tr2 hg9 (tr2 hg8 (tr1 hb6 (tr1 hbc (tr1 hb5 hbd))) hk5) hk6)⟩
    exact AllReadyH.nil
   refine AllReadyH.cons (o := { dst := some 6, op := .alloc 180, type := 0, pos := _, after := _, guard := none }) rfl (fun K hK => ?_) ?_
   ·refine step_alloc_arr rfl 180 rfl .u32 8 zero_8u32 ?_
    intro g6 w6 hg6 hw6 hs6 hb6
    have hk6 : wa.heap.size ≤ g6 := by rw [hg6.out]; exact (tr1 hb5 hbd).size
    clear hs6
    refine hK.out _ _ (mkS hHa (tr1 hb6 (tr1 hb5 hbd))) (fun _ => ?_)
    clear hK K
    try simp only [Act.put, List.setIfInBounds_toArray, List.set_cons_zero, List.set_cons_succ]
    refine wpAnyH_ready (rs := [1]) (by kernel_rfl) (by simp) ?_
    refine AllReadyH.cons (o := { dst := some 14, op := .call { callee := .value (.func 150), args := #[.tmp 13], argTypes := #[22] }, type := 179, pos := _, after := _, guard := none }) rfl (fun K hK => ?_) ?_
    ·go_simp
     refine (hsc.out _ (hra.below (tr1 hb6 (tr1 hb5 hbd)))).mono ?_
     rintro e wc ⟨rfl, hbc⟩
     go_simp
     refine hK.out _ _ (mkS hHa (tr1 hbc (tr1 hb6 (tr1 hb5 hbd)))) (fun _ => ?_)
     clear hK K
     try simp only [Act.put, List.setIfInBounds_toArray, List.set_cons_zero, List.set_cons_succ]
     have hne : g6 ≠ g5 := (ne_of_new hw5 hg6).symm
     refine wpAnyH_ready (rs := [8]) (by kernel_rfl) (by simp) ?_
     refine AllReadyH.cons (o := { dst := none, op := .store 179 (.tmp 5) (.tmp 14), type := 0, pos := _, after := _, guard := none }) rfl (fun K hK => ?_) ?_
     rotate_left
     ·exact AllReadyH.nil
     refine step_store_whl rfl 179 (.tmp 5) (.tmp 14) rfl g5 .u32 _ _ ws rfl rfl (((hw5.below hb6).below hbc)) hwl.out size_64u32 ?_
     intro w8 hw8 hg8 hs8
     refine hK.out _ _ (mkS hHa (tr2 hg8 (tr1 hbc (tr1 hb6 (tr1 hb5 hbd))) hk5)) (fun _ => ?_)
     clear hK K hs8
     try simp only [Act.put, List.setIfInBounds_toArray, List.set_cons_zero, List.set_cons_succ]
     refine wpAnyH_ready (rs := [9]) (by kernel_rfl) (by simp) ?_
     refine AllReadyH.cons (o := { dst := none, op := .store 180 (.tmp 6) (.tmp 18), type := 0, pos := _, after := _, guard := none }) rfl (fun K hK => ?_) ?_
     rotate_left
     ·exact AllReadyH.nil
     refine step_store_whl rfl 180 (.tmp 6) (.tmp 18) rfl g6 .u32 _ _ hv rfl rfl (((hw6.below hbc)).grown hg8 (by simpa using hne.symm)) H8.out size_8u32 ?_
     intro w9 hw9 hg9 hs9
     refine hK.out _ _ (mkS hHa (tr2 hg9 (tr2 hg8 (tr1 hbc (tr1 hb6 (tr1 hb5 hbd))) hk5) hk6)) (fun _ => ?_)
     clear hK K hs9
     try simp only [Act.put, List.setIfInBounds_toArray, List.set_cons_zero, List.set_cons_succ]
     refine wpAnyH_done (by kernel_rfl) ?_ _
     go_wp2_with fail
     go_meet
     exact ⟨g5, g6, rfl, rfl, hw8.grown hg9 (by simpa using hne), hw9, hk5, hk6, hne.symm, (tr2 hg9 (tr2 hg8 (tr1 hbc (tr1 hb6 (tr1 hb5 hbd))) hk5) hk6)⟩
    exact AllReadyH.nil
   exact AllReadyH.nil
  refine AllReadyH.cons (o := { dst := some 6, op := .alloc 180, type := 0, pos := _, after := _, guard := none }) rfl (fun K hK => ?_) ?_
  ·refine step_alloc_arr rfl 180 rfl .u32 8 zero_8u32 ?_
   intro g6 w6 hg6 hw6 hs6 hb6
   have hk6 : wa.heap.size ≤ g6 := by rw [hg6.out]; exact hbd.size
   clear hs6
   refine hK.out _ _ (mkS hHa (tr1 hb6 hbd)) (fun _ => ?_)
   clear hK K
   try simp only [Act.put, List.setIfInBounds_toArray, List.set_cons_zero, List.set_cons_succ]
   refine wpAnyH_ready (rs := [1, 6]) (by kernel_rfl) (by simp) ?_
   refine AllReadyH.cons (o := { dst := some 14, op := .call { callee := .value (.func 150), args := #[.tmp 13], argTypes := #[22] }, type := 179, pos := _, after := _, guard := none }) rfl (fun K hK => ?_) ?_
   ·go_simp
    refine (hsc.out _ (hra.below (tr1 hb6 hbd))).mono ?_
    rintro e wc ⟨rfl, hbc⟩
    go_simp
    refine hK.out _ _ (mkS hHa (tr1 hbc (tr1 hb6 hbd))) (fun _ => ?_)
    clear hK K
    try simp only [Act.put, List.setIfInBounds_toArray, List.set_cons_zero, List.set_cons_succ]
    refine wpAnyH_ready (rs := [6]) (by kernel_rfl) (by simp) ?_
    refine AllReadyH.cons (o := { dst := some 5, op := .alloc 179, type := 0, pos := _, after := _, guard := none }) rfl (fun K hK => ?_) ?_
    ·refine step_alloc_arr rfl 179 rfl .u32 64 zero_64u32 ?_
     intro g5 w5 hg5 hw5 hs5 hb5
     have hk5 : wa.heap.size ≤ g5 := by rw [hg5.out]; exact (tr1 hbc (tr1 hb6 hbd)).size
     clear hs5
     refine hK.out _ _ (mkS hHa (tr1 hb5 (tr1 hbc (tr1 hb6 hbd)))) (fun _ => ?_)
     clear hK K
     try simp only [Act.put, List.setIfInBounds_toArray, List.set_cons_zero, List.set_cons_succ]
     have hne : g6 ≠ g5 := ne_of_new2 hw6 hbc hg5
     refine wpAnyH_ready (rs := [8]) (by kernel_rfl) (by simp) ?_
     refine AllReadyH.cons (o := { dst := none, op := .store 179 (.tmp 5) (.tmp 14), type := 0, pos := _, after := _, guard := none }) rfl (fun K hK => ?_) ?_
     rotate_left
     ·exact AllReadyH.nil
     refine step_store_whl rfl 179 (.tmp 5) (.tmp 14) rfl g5 .u32 _ _ ws rfl rfl (hw5) hwl.out size_64u32 ?_
     intro w8 hw8 hg8 hs8
     refine hK.out _ _ (mkS hHa (tr2 hg8 (tr1 hb5 (tr1 hbc (tr1 hb6 hbd))) hk5)) (fun _ => ?_)
     clear hK K hs8
     try simp only [Act.put, List.setIfInBounds_toArray, List.set_cons_zero, List.set_cons_succ]
     refine wpAnyH_ready (rs := [9]) (by kernel_rfl) (by simp) ?_
     refine AllReadyH.cons (o := { dst := none, op := .store 180 (.tmp 6) (.tmp 18), type := 0, pos := _, after := _, guard := none }) rfl (fun K hK => ?_) ?_
     rotate_left
     ·exact AllReadyH.nil
     refine step_store_whl rfl 180 (.tmp 6) (.tmp 18) rfl g6 .u32 _ _ hv rfl rfl ((((hw6.below hbc).below hb5)).grown hg8 (by simpa using hne.symm)) H8.out size_8u32 ?_
     intro w9 hw9 hg9 hs9
     refine hK.out _ _ (mkS hHa (tr2 hg9 (tr2 hg8 (tr1 hb5 (tr1 hbc (tr1 hb6 hbd))) hk5) hk6)) (fun _ => ?_)
     clear hK K hs9
     try simp only [Act.put, List.setIfInBounds_toArray, List.set_cons_zero, List.set_cons_succ]
     refine wpAnyH_done (by kernel_rfl) ?_ _
     go_wp2_with fail
     go_meet
     exact ⟨g5, g6, rfl, rfl, hw8.grown hg9 (by simpa using hne), hw9, hk5, hk6, hne.symm, (tr2 hg9 (tr2 hg8 (tr1 hb5 (tr1 hbc (tr1 hb6 hbd))) hk5) hk6)⟩
    exact AllReadyH.nil
   refine AllReadyH.cons (o := { dst := some 5, op := .alloc 179, type := 0, pos := _, after := _, guard := none }) rfl (fun K hK => ?_) ?_
   ·refine step_alloc_arr rfl 179 rfl .u32 64 zero_64u32 ?_
    intro g5 w5 hg5 hw5 hs5 hb5
    have hk5 : wa.heap.size ≤ g5 := by rw [hg5.out]; exact (tr1 hb6 hbd).size
    clear hs5
    refine hK.out _ _ (mkS hHa (tr1 hb5 (tr1 hb6 hbd))) (fun _ => ?_)
    clear hK K
    try simp only [Act.put, List.setIfInBounds_toArray, List.set_cons_zero, List.set_cons_succ]
    refine wpAnyH_ready (rs := [1]) (by kernel_rfl) (by simp) ?_
    refine AllReadyH.cons (o := { dst := some 14, op := .call { callee := .value (.func 150), args := #[.tmp 13], argTypes := #[22] }, type := 179, pos := _, after := _, guard := none }) rfl (fun K hK => ?_) ?_
    ·go_simp
     refine (hsc.out _ (hra.below (tr1 hb5 (tr1 hb6 hbd)))).mono ?_
     rintro e wc ⟨rfl, hbc⟩
     go_simp
     refine hK.out _ _ (mkS hHa (tr1 hbc (tr1 hb5 (tr1 hb6 hbd)))) (fun _ => ?_)
     clear hK K
     try simp only [Act.put, List.setIfInBounds_toArray, List.set_cons_zero, List.set_cons_succ]
     have hne : g6 ≠ g5 := ne_of_new hw6 hg5
     refine wpAnyH_ready (rs := [8]) (by kernel_rfl) (by simp) ?_
     refine AllReadyH.cons (o := { dst := none, op := .store 179 (.tmp 5) (.tmp 14), type := 0, pos := _, after := _, guard := none }) rfl (fun K hK => ?_) ?_
     rotate_left
     ·exact AllReadyH.nil
     refine step_store_whl rfl 179 (.tmp 5) (.tmp 14) rfl g5 .u32 _ _ ws rfl rfl ((hw5.below hbc)) hwl.out size_64u32 ?_
     intro w8 hw8 hg8 hs8
     refine hK.out _ _ (mkS hHa (tr2 hg8 (tr1 hbc (tr1 hb5 (tr1 hb6 hbd))) hk5)) (fun _ => ?_)
     clear hK K hs8
     try simp only [Act.put, List.setIfInBounds_toArray, List.set_cons_zero, List.set_cons_succ]
     refine wpAnyH_ready (rs := [9]) (by kernel_rfl) (by simp) ?_
     refine AllReadyH.cons (o := { dst := none, op := .store 180 (.tmp 6) (.tmp 18), type := 0, pos := _, after := _, guard := none }) rfl (fun K hK => ?_) ?_
     rotate_left
     ·exact AllReadyH.nil
     refine step_store_whl rfl 180 (.tmp 6) (.tmp 18) rfl g6 .u32 _ _ hv rfl rfl ((((hw6.below hb5).below hbc)).grown hg8 (by simpa using hne.symm)) H8.out size_8u32 ?_
     intro w9 hw9 hg9 hs9
     refine hK.out _ _ (mkS hHa (tr2 hg9 (tr2 hg8 (tr1 hbc (tr1 hb5 (tr1 hb6 hbd))) hk5) hk6)) (fun _ => ?_)
     clear hK K hs9
     try simp only [Act.put, List.setIfInBounds_toArray, List.set_cons_zero, List.set_cons_succ]
     refine wpAnyH_done (by kernel_rfl) ?_ _
     go_wp2_with fail
     go_meet
     exact ⟨g5, g6, rfl, rfl, hw8.grown hg9 (by simpa using hne), hw9, hk5, hk6, hne.symm, (tr2 hg9 (tr2 hg8 (tr1 hbc (tr1 hb5 (tr1 hb6 hbd))) hk5) hk6)⟩
    exact AllReadyH.nil
   exact AllReadyH.nil
  exact AllReadyH.nil
 case rest =>
  obtain ⟨g5, g6, rfl, rfl, hw5, hw6, hk5, hk6, hne, hbx⟩ := hcut
  have hlt4 : w.heap.size < wa.heap.size := hw4.lt
  go_wp2_with fail
  go_loopw [19] (fun s wr => ∃ t : Nat, s = .int .i64 (t : Int) ∧ t ≤ 64 ∧ Whl .u32 179 wr g5 ws ∧ Whl .u32 180 wr g6 (rounds8 hv K64 ws t) ∧ Below wa.heap.size wa wr) (fun s _ => 64 - (intOf s).toNat)
  case atStart => exact ⟨0, rfl, by omega, hw5, hw6, hbx⟩
  case round =>
   clear hw5 hw6 hbx
   obtain ⟨t, rfl, ht, hw5, hw6, hbx⟩ := hrel
   by_cases hlt : t < 64
   ·obtain ⟨a, b1, c1, d, e, f, g, h, hV, la, lb1, lc1, ld, le, lf, lg, lh1⟩ := rounds8_form hv K64 ws t H8.out lh
    obtain ⟨k, hk⟩ : ∃ k, k = K64.getD t 0 := ⟨_, rfl⟩
    obtain ⟨x, hx⟩ : ∃ x, x = ws.getD t 0 := ⟨_, rfl⟩
    have hstep := Lib.hid (show rounds8 hv K64 ws (t + 1) = [addw (oneW h e f g k x) (twoW a b1 c1), a, b1, c1, addw d (oneW h e f g k x), e, f, g] by rw [rounds8, hV, hk, hx]; rfl)
    rw [hV] at hw6
    have HV := Lib.hid hV
    have q0 := hw6.blk.cell (i := 0) rfl
    have q1 := hw6.blk.cell (i := 1) rfl
    have q2 := hw6.blk.cell (i := 2) rfl
    have q3 := hw6.blk.cell (i := 3) rfl
    have q4 := hw6.blk.cell (i := 4) rfl
    have q5 := hw6.blk.cell (i := 5) rfl
    have q6 := hw6.blk.cell (i := 6) rfl
    have q7 := hw6.blk.cell (i := 7) rfl
    have qx := hw5.blk.cell (i := t) (x := x) (by rw [hx, List.getD_eq_getElem?_getD, List.getElem?_eq_getElem (by rw [hwl.out]; exact hlt)]; rfl)
    have qk := (hKa.below hbx).cell (i := t) (v := .int .u32 (k : Int)) (by rw [hk]; exact ints_get (by rw [List.getD_eq_getElem?_getD, List.getElem?_eq_getElem (by rw [K64_length]; exact hlt)]; rfl))
    have hkl : k < 4294967296 := by rw [hk]; exact getD_lt (by decide) K64_lim t
    clear hk hx hV
    go_wp2_with fail
    go_quiet (fail)
    replace q0 : (wr.drewN nq).cell? ⟨g6, 0, none⟩ = some (.int .u32 (a : Int)) := q0
    replace q1 : (wr.drewN nq).cell? ⟨g6, 1, none⟩ = some (.int .u32 (b1 : Int)) := q1
    replace q2 : (wr.drewN nq).cell? ⟨g6, 2, none⟩ = some (.int .u32 (c1 : Int)) := q2
    replace q3 : (wr.drewN nq).cell? ⟨g6, 3, none⟩ = some (.int .u32 (d : Int)) := q3
    replace q4 : (wr.drewN nq).cell? ⟨g6, 4, none⟩ = some (.int .u32 (e : Int)) := q4
    replace q5 : (wr.drewN nq).cell? ⟨g6, 5, none⟩ = some (.int .u32 (f : Int)) := q5
    replace q6 : (wr.drewN nq).cell? ⟨g6, 6, none⟩ = some (.int .u32 (g : Int)) := q6
    replace q7 : (wr.drewN nq).cell? ⟨g6, 7, none⟩ = some (.int .u32 (h : Int)) := q7
    replace qx : (wr.drewN nq).cell? ⟨g5, t, none⟩ = some (.int .u32 (x : Int)) := qx
    replace qk : (wr.drewN nq).cell? ⟨gs, 1 + t, none⟩ = some (.int .u32 (k : Int)) := qk
    replace hw5 : Whl .u32 179 (wr.drewN nq) g5 ws := hw5
    replace hw6 : Whl .u32 180 (wr.drewN nq) g6 [a, b1, c1, d, e, f, g, h] := hw6
    replace hbx : Below wa.heap.size wa (wr.drewN nq) := below_drewN hbx nq
    generalize wr.drewN nq = wr at *
    have hsg : IntKind.u32.signed = false := rfl
    have f1 : bits .xor .u32 ((rotr e 6 : Nat) : Int) ((rotr e 11 : Nat) : Int) = ((rotr e 6 ^^^ rotr e 11 : Nat) : Int) := u32_xor_nat _ _ (rotr_lt _ _ le) (rotr_lt _ _ le)
    have f2 : bits .xor .u32 ((rotr e 6 ^^^ rotr e 11 : Nat) : Int) ((rotr e 25 : Nat) : Int) = ((Sig1 e : Nat) : Int) := u32_xor_nat _ _ (xor_lt (rotr_lt _ _ le) (rotr_lt _ _ le)) (rotr_lt _ _ le)
    have f3 := wrap_add h (Sig1 e)
    have f4 := u32_and_nat e f le lf
    have f5 := not_cast e le
    have f6 := u32_and_nat (4294967295 ^^^ e) g (xor_lt (by decide) le) lg
    have f7 : bits .xor .u32 ((e &&& f : Nat) : Int) (((4294967295 ^^^ e) &&& g : Nat) : Int) = ((chw e f g : Nat) : Int) := u32_xor_nat _ _ (and_lt le f) (and_lt (xor_lt (by decide) le) g)
    have f8 := wrap_add (addw h (Sig1 e)) (chw e f g)
    have f9 := wrap_add (addw (addw h (Sig1 e)) (chw e f g)) k
    have f10 : IntKind.u32.wrap (((addw (addw (addw h (Sig1 e)) (chw e f g)) k : Nat) : Int) + (x : Int)) = ((oneW h e f g k x : Nat) : Int) := wrap_add _ _
    go_wp2_with fail
    go_quiet (first
     | ((go_at_call 151; with_reducible exact Calls.quiet_of_same (still_of (right_6 e _ le))))
     | ((go_at_call 151; with_reducible exact Calls.quiet_of_same (still_of (right_11 e _ le))))
     | ((go_at_call 151; with_reducible exact Calls.quiet_of_same (still_of (right_25 e _ le)))))
    replace q0 : (wr.drewN nq).cell? ⟨g6, 0, none⟩ = some (.int .u32 (a : Int)) := q0
    replace q1 : (wr.drewN nq).cell? ⟨g6, 1, none⟩ = some (.int .u32 (b1 : Int)) := q1
    replace q2 : (wr.drewN nq).cell? ⟨g6, 2, none⟩ = some (.int .u32 (c1 : Int)) := q2
    replace q3 : (wr.drewN nq).cell? ⟨g6, 3, none⟩ = some (.int .u32 (d : Int)) := q3
    replace q4 : (wr.drewN nq).cell? ⟨g6, 4, none⟩ = some (.int .u32 (e : Int)) := q4
    replace q5 : (wr.drewN nq).cell? ⟨g6, 5, none⟩ = some (.int .u32 (f : Int)) := q5
    replace q6 : (wr.drewN nq).cell? ⟨g6, 6, none⟩ = some (.int .u32 (g : Int)) := q6
    replace q7 : (wr.drewN nq).cell? ⟨g6, 7, none⟩ = some (.int .u32 (h : Int)) := q7
    replace qx : (wr.drewN nq).cell? ⟨g5, t, none⟩ = some (.int .u32 (x : Int)) := qx
    replace qk : (wr.drewN nq).cell? ⟨gs, 1 + t, none⟩ = some (.int .u32 (k : Int)) := qk
    replace hw5 : Whl .u32 179 (wr.drewN nq) g5 ws := hw5
    replace hw6 : Whl .u32 180 (wr.drewN nq) g6 [a, b1, c1, d, e, f, g, h] := hw6
    replace hbx : Below wa.heap.size wa (wr.drewN nq) := below_drewN hbx nq
    generalize wr.drewN nq = wr at *
    clear f1 f2 f3 f4 f5 f6 f7 f8 f9 f10
    have f1 : bits .xor .u32 ((rotr a 2 : Nat) : Int) ((rotr a 13 : Nat) : Int) = ((rotr a 2 ^^^ rotr a 13 : Nat) : Int) := u32_xor_nat _ _ (rotr_lt _ _ la) (rotr_lt _ _ la)
    have f2 : bits .xor .u32 ((rotr a 2 ^^^ rotr a 13 : Nat) : Int) ((rotr a 22 : Nat) : Int) = ((Sig0 a : Nat) : Int) := u32_xor_nat _ _ (xor_lt (rotr_lt _ _ la) (rotr_lt _ _ la)) (rotr_lt _ _ la)
    have f3 := u32_and_nat a b1 la lb1
    have f4 := u32_and_nat a c1 la lc1
    have f5 := u32_and_nat b1 c1 lb1 lc1
    have f6 := u32_xor_nat (a &&& b1) (a &&& c1) (and_lt la _) (and_lt la _)
    have f7 : bits .xor .u32 (((a &&& b1) ^^^ (a &&& c1) : Nat) : Int) ((b1 &&& c1 : Nat) : Int) = ((maj a b1 c1 : Nat) : Int) := u32_xor_nat _ _ (xor_lt (and_lt la _) (and_lt la _)) (and_lt lb1 _)
    have f8 : IntKind.u32.wrap (((Sig0 a : Nat) : Int) + ((maj a b1 c1 : Nat) : Int)) = ((twoW a b1 c1 : Nat) : Int) := wrap_add _ _
    go_wp2_with fail
    go_quiet (first
     | ((go_at_call 151; with_reducible exact Calls.quiet_of_same (still_of (right_2 a _ la))))
     | ((go_at_call 151; with_reducible exact Calls.quiet_of_same (still_of (right_13 a _ la))))
     | ((go_at_call 151; with_reducible exact Calls.quiet_of_same (still_of (right_22 a _ la)))))
    replace q0 : (wr.drewN nq).cell? ⟨g6, 0, none⟩ = some (.int .u32 (a : Int)) := q0
    replace q1 : (wr.drewN nq).cell? ⟨g6, 1, none⟩ = some (.int .u32 (b1 : Int)) := q1
    replace q2 : (wr.drewN nq).cell? ⟨g6, 2, none⟩ = some (.int .u32 (c1 : Int)) := q2
    replace q3 : (wr.drewN nq).cell? ⟨g6, 3, none⟩ = some (.int .u32 (d : Int)) := q3
    replace q4 : (wr.drewN nq).cell? ⟨g6, 4, none⟩ = some (.int .u32 (e : Int)) := q4
    replace q5 : (wr.drewN nq).cell? ⟨g6, 5, none⟩ = some (.int .u32 (f : Int)) := q5
    replace q6 : (wr.drewN nq).cell? ⟨g6, 6, none⟩ = some (.int .u32 (g : Int)) := q6
    replace q7 : (wr.drewN nq).cell? ⟨g6, 7, none⟩ = some (.int .u32 (h : Int)) := q7
    replace hw5 : Whl .u32 179 (wr.drewN nq) g5 ws := hw5
    replace hw6 : Whl .u32 180 (wr.drewN nq) g6 [a, b1, c1, d, e, f, g, h] := hw6
    replace hbx : Below wa.heap.size wa (wr.drewN nq) := below_drewN hbx nq
    clear qx qk
    generalize wr.drewN nq = wr at *
    clear f1 f2 f3 f4 f5 f6 f7 f8
    have f1 := wrap_add (oneW h e f g k x) (twoW a b1 c1)
    have f2 := wrap_add d (oneW h e f g k x)
    go_wp2_with (refine wpList_store_whl rfl 180 (.tmp 6) (.tmp 100) rfl g6 .u32 _ [a, b1, c1, d, e, f, g, h] [addw (oneW h e f g k x) (twoW a b1 c1), a, b1, c1, addw d (oneW h e f g k x), e, f, g] rfl rfl hw6 rfl size_8u32 ?_; intro w8 hw8 hg8 hs8; clear hs8 hw6)
    go_roundw
    case rel => exact ⟨t + 1, by go_num, by omega, hw5.grown hg8 (by simpa using hne.symm), by rw [hstep.out]; exact hw8, tr2 hg8 hbx hk6⟩
    case measure => simp [intOf]; omega
   ·have h64 : t = 64 := by omega
    rw [h64] at hw6
    have hge : ((t : Int) < 64) = False := by simp; omega
    obtain ⟨V, hV⟩ : ∃ V, V = rounds8 hv K64 ws 64 := ⟨_, rfl⟩
    have hVl := Lib.hid (show V.length = 8 by rw [hV]; exact (rounds8_ok hv K64 ws 64 H8.out lh).1)
    have hVb : Lim 4294967296 V := by rw [hV]; exact (rounds8_ok hv K64 ws 64 H8.out lh).2
    have HV := Lib.hid hV
    rw [← hV] at hw6
    have hbw : Below w.heap.size w wr := hba.trans (hbx.mono hba.size)
    have hw4' := hw4.below hbx
    clear h64 hV hw5 hbx
    obtain ⟨t64, rfl⟩ : ∃ j, j = t := ⟨_, rfl⟩
    go_wp2_with fail
    go_loopw [102] (fun s wr => ∃ i : Nat, s = .int .i64 (i : Int) ∧ i ≤ 8 ∧ Whl .u32 180 wr g6 V ∧ Whl .u32 180 wr w.heap.size (pad 8 (outs hv V i)) ∧ Below w.heap.size w wr) (fun s _ => 8 - (intOf s).toNat)
    case atStart => exact ⟨0, rfl, by omega, hw6, hw4', hbw⟩
    case round =>
     clear hw6 hw4' hbw
     obtain ⟨i, rfl, hi, hw6, hw4', hbw⟩ := hrel
     by_cases hlt8 : i < 8
     ·obtain ⟨a, hga⟩ := get_of_lt (xs := hv) (i := i) (by rw [H8.out]; exact hlt8)
      obtain ⟨v, hgv⟩ := get_of_lt (xs := V) (i := i) (by rw [hVl.out]; exact hlt8)
      have HS := Lib.hid (show outs hv V (i + 1) = outs hv V i ++ [addw a v] by rw [outs_succ, List.getD_eq_getElem?_getD, hga, List.getD_eq_getElem?_getD, hgv]; rfl)
      have q1 := (hH0.below hbw).cell (i := i) (ints_get hga)
      have q2 := hw6.blk.cell hgv
      have hpl : (outs hv V i).length < 8 := by rw [outs_length]; exact hlt8
      have hat := pad_at hpl
      rw [outs_length] at hat
      have q3 := hw4'.blk.cell hat
      have q4 := hw4'.blk.frozen hat
      have f1 := wrap_add a v
      clear hga hgv hat hpl
      go_wp2_with fail
      refine wp_region_still_tail 12 (by kernel_rfl) (by kernel_rfl) ?_
      simp only [List.take_succ_cons, List.take_zero, List.drop_succ_cons, List.drop_zero]
      show wpStill Tryz.prog _ wr.drew (fun a' => wpList Tryz.prog _ _ _ a' wr.drew) _ _
      replace q1 : wr.drew.cell? ⟨gs, 65 + i, none⟩ = some (.int .u32 (a : Int)) := q1
      replace q2 : wr.drew.cell? ⟨g6, i, none⟩ = some (.int .u32 (v : Int)) := q2
      replace q3 : wr.drew.cell? ⟨w.heap.size, i, none⟩ = some (.int .u32 ((0 : Nat) : Int)) := q3
      replace q4 : wr.drew.frozen? ⟨w.heap.size, i, none⟩ = false := q4
      replace hw6 : Whl .u32 180 wr.drew g6 V := hw6
      replace hw4' : Whl .u32 180 wr.drew w.heap.size (pad 8 (outs hv V i)) := hw4'
      replace hbw : Below w.heap.size w wr.drew := below_drewN hbw 1
      generalize wr.drew = wz at *
      have i1 : (0 : Int) ≤ (i : Int) := by omega
      have i2 : (i : Int) < 8 := by omega
      iterate 12 still_step
      refine wpStill_nil ?_
      clear i1 i2
      go_wp2_with fail
      go_roundw
      case rel =>
       refine ⟨i + 1, by go_num, by omega, hw6.far (p := ⟨w.heap.size, i, none⟩) (by show g6 ≠ w.heap.size; omega) _, ?_, hbw.setCell (p := ⟨w.heap.size, i, none⟩) (Nat.le_refl _) _⟩
       have h := hw4'.set i (addw a v)
       have h7 := pad_set (n := 8) (l := outs hv V i) (by rw [outs_length]; exact hlt8) (addw a v)
       rw [outs_length] at h7
       rw [h7, ← HS.out] at h
       exact h
      case measure => simp [intOf]; omega
     ·obtain rfl : i = 8 := by omega
      have hfin : pad 8 (outs hv V 8) = compress hv b := by rw [pad_full (outs_length hv V 8), HV.out, HWS.out]; rfl
      rw [hfin] at hw4'
      have hcl8 := Lib.hid (show (compress hv b).length = 8 by simp [compress])
      have hsz : Hid ((Tryz.prog.info? 180).map (·.size) = some (compress hv b).length) := by rw [hcl8.out]; exact size_8u32
      clear hfin hw6
      generalize compress hv b = O at *
      go_wp2_with (first | (refine wpList_load_whl rfl 180 (.tmp 4) rfl w.heap.size rfl .u32 _ O hw4' _ Tryz.underlying180 rfl hsz.out ?_) | (refine wpList_store_whl rfl 180 (.tmp 4) (.tmp 118) rfl w.heap.size .u32 _ O O rfl rfl hw4' rfl hsz.out ?_; intro w3 hw3 hg3 hs3; clear hs3))
      exact bodyPost_ret (v := .agg (ints .u32 O).toArray) (results_whl rfl _ _ w.heap.size .u32 _ O _ rfl hw3 Tryz.underlying180 rfl hsz.out) rfl ⟨rfl, below_only hbw hg3 hbw.size (Nat.le_refl _)⟩
end Go.Proofs.YtchaahnhpeoomaaGreat
namespace Go.Proofs.YtchaahnhpeoomaaGreat
set_option linter.unusedVariables false
set_option linter.unusedSimpArgs false
set_option maxRecDepth 20000
open Go.RowKit
theorem index_64 (w : World) (xs : List Nat) (k p : Nat) (hl : xs.length = 64) (hk : xs[k]? = some p) : (Instr.index 199 (.agg (ints .u64 xs).toArray) (.int .i64 (k : Int))).run Tryz.prog w = .ok (.int .u64 (p : Int)) w := by
 have hlt : k < 64 := by rw [← hl]; exact (List.getElem?_eq_some_iff.1 hk).1
 have h3 : ∀ w, (sizeOf 26).run Tryz.prog w = .ok 1 w := fun w => by kernel_rfl
 have h4 : ∀ w, (isAgg 26).run Tryz.prog w = .ok false w := fun w => by kernel_rfl
 have h5 := ints_get (k := .u64) hk
 have h6 : (ints .u64 xs).toArray[k]? = some (.int .u64 (p : Int)) := by simpa using h5
 have h7 : (k : Int) < 64 := by omega
 simp [Instr.index, asIntOf, run_underlying Tryz.underlying199, Sem.run_bind, Result.andThen, h7, h3, Go.part, h4, h5, hlt]
def mix (K ks : List Nat) (k : Nat) : List Nat := K.take k ++ ks.drop k
theorem mix_length {K ks : List Nat} {n k : Nat} (h1 : K.length = n) (h2 : ks.length = n) (hk : k ≤ n) : (mix K ks k).length = n := by simp [mix]; omega
theorem mix_at {K ks : List Nat} {n k : Nat} (h1 : K.length = n) (h2 : ks.length = n) (hk : k < n) : ∃ x, (mix K ks k)[k]? = some x := ⟨_, List.getElem?_eq_getElem (by rw [mix_length h1 h2 (by omega)]; exact hk)⟩
theorem mix_set {K ks : List Nat} {n k x : Nat} (h1 : K.length = n) (h2 : ks.length = n) (hk : k < n) (hx : K[k]? = some x) : (mix K ks k).set k x = mix K ks (k + 1) := by
 have h3 : (K.take k).length = k := by simp; omega
 rw [mix, mix, List.set_append_right _ _ (by omega), h3, Nat.sub_self, List.take_add_one, hx, List.append_assoc]
 congr 1
 obtain ⟨y, hy⟩ : ∃ y, ks[k]? = some y := ⟨_, List.getElem?_eq_getElem (by omega)⟩
 have h5 : ks.drop k = y :: ks.drop (k + 1) := by
  rw [List.getElem?_eq_some_iff] at hy
  obtain ⟨h6, h7⟩ := hy
  rw [← h7, List.drop_eq_getElem_cons h6]
 rw [h5]
 rfl
theorem mix_full {K ks : List Nat} {n : Nat} (h1 : K.length = n) (h2 : ks.length = n) : mix K ks n = K := by
 rw [mix, ← h1, List.take_length, h1, ← h2, List.drop_length, List.append_nil]
theorem cut_of {w : World} {g o : Nat} {k : IntKind} {cs : List Nat} {i x : Nat} (h : Cut w g o (ints k cs)) (hx : cs[i]? = some x) (y : Nat) : Cut (w.setCell ⟨g, o + i, none⟩ (.int k (y : Int))) g o (ints k (cs.set i y)) := by
 rw [← ints_set]
 exact h.set (ints_get hx) _
theorem P64_lt : ∀ p ∈ P64, p < 65536 := by decide
def MakePost (g : Nat) (vs : List Value) (w : World) (e : Ending) (w' : World) : Prop :=
 e = .returned (.tuple #[]) ∧ Cut w' g 0 [.bool true] ∧ Cut w' g 1 (ints .u32 K64) ∧ Cut w' g 65 (ints .u32 H8) ∧ Cut w' g 73 vs ∧ w.grownBy w' (some g)
set_option maxRecDepth 100000 in
set_option maxHeartbeats 1600000 in
theorem make_any (g : Nat) (ks hs : List Nat) (vs : List Value) (w : World) (h0 : Cut w g 0 [.bool false]) (h1 : Cut w g 1 (ints .u32 ks)) (h2 : Cut w g 65 (ints .u32 hs)) (h3 : Cut w g 73 vs) (hk : ks.length = 64) (hh : hs.length = 8) :
  Calls Tryz.prog 120 #[.pointer (some ⟨g, 0, none⟩)] w (MakePost g vs w) := by
 have HK := Lib.hid hk
 have HH := Lib.hid hh
 clear hk hh
 have hc0 := h0.cell (i := 0) rfl
 go_enter Tryz.func120, Tryz.ntmps120
 go_wp2_with fail
 refine (primes_any _).mono ?_
 rintro e w1 ⟨rfl, hb1⟩
 replace h0 := h0.below hb1
 replace h1 := h1.below hb1
 replace h2 := h2.below hb1
 replace h3 := h3.below hb1
 have hgr := only_of_below hb1 (some g)
 have hPl := Lib.hid (show P64.length = 64 from rfl)
 clear hc0
 obtain ⟨PP, hPP⟩ : ∃ PP, PP = P64 := ⟨_, rfl⟩
 rw [← hPP] at hPl ⊢
 have HPP := Lib.hid hPP
 clear hPP
 go_wp2_with (first | (refine wpList_store_whl rfl 199 (.tmp 2) (.tmp 10) rfl w1.heap.size .u64 199 (List.replicate 64 0) PP rfl rfl (whl_new _ _ _ rfl) hPl.out size_64u64 ?_; intro w2 hw2 hg2 hs2; clear hs2) | (refine wpList_load_whl rfl 199 (.tmp 2) rfl w1.heap.size rfl .u64 _ PP hw2 _ Tryz.underlying199 rfl (by rw [hPl.out]; exact size_64u64) ?_))
 have hb12 : Below w1.heap.size w1 w2 := below_only ((Below.refl _ _).alloc (Nat.le_refl _) _) hg2 (by simp) (Nat.le_refl _)
 have hne : g ≠ w1.heap.size := Nat.ne_of_lt h0.lt
 replace h0 := h0.below hb12
 replace h1 := h1.below hb12
 replace h2 := h2.below hb12
 replace h3 := h3.below hb12
 have hgr2 : w.grownBy w2 (some g) := only_trans hgr (only_of_below hb12 _)
 clear hgr hg2 hb12 hb1
 obtain ⟨g2, hg2⟩ : ∃ g2, g2 = w1.heap.size := ⟨_, rfl⟩
 rw [← hg2] at hne hw2 ⊢
 clear hg2
 go_loopw [12] (fun s wr => ∃ k : Nat, s = .int .i64 (k : Int) ∧ k ≤ 64 ∧ Cut wr g 0 [.bool false] ∧ Cut wr g 1 (ints .u32 (mix K64 ks k)) ∧ Cut wr g 65 (ints .u32 hs) ∧ Cut wr g 73 vs ∧ Whl .u64 199 wr g2 PP ∧ w.grownBy wr (some g)) (fun s _ => 64 - (intOf s).toNat)
 case atStart => exact ⟨0, rfl, by omega, h0, h1, h2, h3, hw2, hgr2⟩
 case round =>
  clear h0 h1 h2 h3 hw2 hgr2
  obtain ⟨k, rfl, hk, h0, h1, h2, h3, hw2, hgr2⟩ := hrel
  by_cases hlt : k < 64
  ·obtain ⟨p, hp⟩ := get_of_lt (xs := PP) (i := k) (by rw [hPl.out]; exact hlt)
   have hmem : p ∈ P64 := by rw [← HPP.out]; exact List.mem_of_getElem? hp
   have hcu := cuS_pos p hmem
   have hpb : p < 65536 := P64_lt p hmem
   have hidx := fun w => index_64 w PP k p hPl.out hp
   have hKk := Lib.hid (show K64[k]? = some ((cuS p - 1) % 4294967296) by rw [K64, List.getElem?_map, ← HPP.out, hp]; rfl)
   obtain ⟨z, hz⟩ := mix_at K64_length HK.out hlt
   have q1 := h1.cell (ints_get hz)
   have q2 := h1.frozen (ints_get hz)
   have hgl : g < wr.heap.size := h0.lt
   have hgn : ¬ g = wr.heap.size := Nat.ne_of_lt h0.lt
   have i1 : (0 : Int) ≤ (k : Int) := by omega
   have i2 : (k : Int) < 64 := by omega
   generalize hKv : (cuS p - 1) % 4294967296 = v at *
   have HZ := Lib.hid hz
   clear hp hz hmem
   go_wp2_with fail
   go_region_with (first | (go_at_call 148; refine (cube_any p _ hpb hcu.1 hcu.2).mono ?_; rintro e w3 ⟨rfl, rfl⟩; rw [hKv]))
   go_wp2_with fail
   go_roundw
   case rel =>
    refine ⟨k + 1, by go_num, by omega, ?_, ?_, ?_, ?_, ?_, ?_⟩
    ·exact ((h0.apart (p := ⟨g, 1 + k, none⟩) (Or.inr (Or.inr (by simp))) _).alloc _).drew
    ·have h := cut_of h1 HZ.out v
     rw [mix_set K64_length HK.out hlt hKk.out] at h
     exact (h.alloc _).drew
    ·exact ((h2.apart (p := ⟨g, 1 + k, none⟩) (Or.inr (Or.inl (by show 1 + k < 65; omega))) _).alloc _).drew
    ·exact ((h3.apart (p := ⟨g, 1 + k, none⟩) (Or.inr (Or.inl (by show 1 + k < 73; omega))) _).alloc _).drew
    ·exact ((hw2.far (p := ⟨g, 1 + k, none⟩) (Ne.symm hne) _).alloc _).drewN 1
    ·exact only_drew (only_alloc (only_set hgr2 (p := ⟨g, 1 + k, none⟩) (Or.inl rfl) _) _)
   case measure => simp [intOf]; omega
  ·have h64 : k = 64 := by omega
   rw [h64, mix_full K64_length HK.out] at h1
   have hge : ((k : Int) < 64) = False := by simp; omega
   clear h64
   obtain ⟨k64, rfl⟩ : ∃ j, j = k := ⟨_, rfl⟩
   go_wp2_with fail
   go_loopw [24] (fun s wr => ∃ k : Nat, s = .int .i64 (k : Int) ∧ k ≤ 8 ∧ Cut wr g 0 [.bool false] ∧ Cut wr g 1 (ints .u32 K64) ∧ Cut wr g 65 (ints .u32 (mix H8 hs k)) ∧ Cut wr g 73 vs ∧ Whl .u64 199 wr g2 PP ∧ w.grownBy wr (some g)) (fun s _ => 8 - (intOf s).toNat)
   case atStart => exact ⟨0, rfl, by omega, h0, h1, h2, h3, hw2, hgr2⟩
   case round =>
    clear h0 h1 h2 h3 hw2 hgr2
    obtain ⟨k, rfl, hk, h0, h1, h2, h3, hw2, hgr2⟩ := hrel
    by_cases hlt : k < 8
    ·obtain ⟨p, hp⟩ := get_of_lt (xs := PP) (i := k) (by rw [hPl.out]; omega)
     have hmem : p ∈ P64 := by rw [← HPP.out]; exact List.mem_of_getElem? hp
     have hcu := sqS_pos p hmem
     have hpb : p < 65536 := P64_lt p hmem
     have q0 := hw2.blk.cell hp
     have hKk := Lib.hid (show H8[k]? = some ((sqS p - 1) % 4294967296) by rw [H8, List.getElem?_map, List.getElem?_take, if_pos hlt, ← HPP.out, hp]; rfl)
     obtain ⟨z, hz⟩ := mix_at H8_length HH.out hlt
     have q1 := h2.cell (ints_get hz)
     have q2 := h2.frozen (ints_get hz)
     have hgl : g < wr.heap.size := h0.lt
     have hgn : ¬ g = wr.heap.size := Nat.ne_of_lt h0.lt
     have i1 : (0 : Int) ≤ (k : Int) := by omega
     have i2 : (k : Int) < 8 := by omega
     have i3 : (k : Int) < 64 := by omega
     generalize hKv : (sqS p - 1) % 4294967296 = v at *
     have HZ := Lib.hid hz
     clear hp hz hmem
     go_wp2_with fail
     go_region_with (first | (go_at_call 149; refine (square_any p _ hpb hcu.1 hcu.2).mono ?_; rintro e w3 ⟨rfl, rfl⟩; rw [hKv]))
     go_wp2_with fail
     go_roundw
     case rel =>
      refine ⟨k + 1, by go_num, by omega, ?_, ?_, ?_, ?_, ?_, ?_⟩
      ·exact ((h0.apart (p := ⟨g, 65 + k, none⟩) (Or.inr (Or.inr (by simp; omega))) _).alloc _).drew
      ·exact ((h1.apart (p := ⟨g, 65 + k, none⟩) (Or.inr (Or.inr (by rw [ints_length, K64_length]; show 65 ≤ 65 + k; omega))) _).alloc _).drew
      ·have h := cut_of h2 HZ.out v
       rw [mix_set H8_length HH.out hlt hKk.out] at h
       exact (h.alloc _).drew
      ·exact ((h3.apart (p := ⟨g, 65 + k, none⟩) (Or.inr (Or.inl (by show 65 + k < 73; omega))) _).alloc _).drew
      ·exact ((hw2.far (p := ⟨g, 65 + k, none⟩) (Ne.symm hne) _).alloc _).drewN 1
      ·exact only_drew (only_alloc (only_set hgr2 (p := ⟨g, 65 + k, none⟩) (Or.inl rfl) _) _)
     case measure => simp [intOf]; omega
    ·have h8 : k = 8 := by omega
     rw [h8, mix_full H8_length HH.out] at h2
     have hge2 : ((k : Int) < 8) = False := by simp; omega
     have q1 := h0.cell (i := 0) rfl
     have q2 := h0.frozen (i := 0) rfl
     clear h8
     go_wp2_with fail
     go_end0
     refine ⟨rfl, ?_, ?_, ?_, ?_, ?_⟩
     ·exact h0.set (i := 0) rfl (.bool true)
     ·exact h1.apart (p := ⟨g, 0, none⟩) (Or.inr (Or.inl (by simp))) _
     ·exact h2.apart (p := ⟨g, 0, none⟩) (Or.inr (Or.inl (by simp))) _
     ·exact h3.apart (p := ⟨g, 0, none⟩) (Or.inr (Or.inl (by simp))) _
     ·exact only_set hgr2 (p := ⟨g, 0, none⟩) (Or.inl rfl) _
end Go.Proofs.YtchaahnhpeoomaaGreat
namespace Go.Proofs.YtchaahnhpeoomaaGreat
set_option linter.unusedVariables false
open Go.RowKit
theorem blocks_add (h M : List Nat) (q k : Nat) : blocks h M (q + k) = blocks (blocks h M q) (M.drop (64 * q)) k := by
 induction k with
 | zero => rfl
 | succ k ih => rw [← Nat.add_assoc, blocks, blocks, ih, List.drop_drop, Nat.mul_add]
theorem blocks_pre (h m b : List Nat) (q : Nat) (hq : 64 * q ≤ m.length) : blocks h (m ++ b) q = blocks h m q := by
 induction q with
 | zero => rfl
 | succ q ih =>
  rw [blocks, blocks, ih (by omega), List.drop_append_of_le_length (by omega), List.take_append_of_le_length (by simp; omega)]
theorem compress_length (h b : List Nat) : (compress h b).length = 8 := by simp [compress]
theorem compress_lim (h b : List Nat) : Lim 4294967296 (compress h b) := by
 intro x hx
 obtain ⟨i, _, rfl⟩ := List.mem_map.1 hx
 exact Nat.mod_lt _ (by decide)
theorem blocks_ok {h : List Nat} (h8 : h.length = 8) (hl : Lim 4294967296 h) (M : List Nat) (k : Nat) : (blocks h M k).length = 8 ∧ Lim 4294967296 (blocks h M k) := by
 cases k with
 | zero => exact ⟨h8, hl⟩
 | succ k => exact ⟨compress_length _ _, compress_lim _ _⟩
def hashed (m : List Nat) : List Nat := blocks H8 m (m.length / 64)
def left (m : List Nat) : List Nat := m.drop (64 * (m.length / 64))
theorem left_length (m : List Nat) : (left m).length = m.length % 64 := by simp [left]; omega
theorem hashed_ok (m : List Nat) : (hashed m).length = 8 ∧ Lim 4294967296 (hashed m) := blocks_ok H8_length H8_lim m _
theorem hashed_append (m b : List Nat) : hashed (m ++ b) = blocks (hashed m) (left m ++ b) ((left m ++ b).length / 64) := by
 have h1 : (m ++ b).length / 64 = m.length / 64 + (left m ++ b).length / 64 := by
  rw [List.length_append, List.length_append, left_length]
  omega
 have h2 : 64 * (m.length / 64) ≤ m.length := by omega
 rw [hashed, h1, blocks_add, blocks_pre _ _ _ _ h2, List.drop_append_of_le_length h2]
 rfl
theorem left_append (m b : List Nat) : left (m ++ b) = (left m ++ b).drop (64 * ((left m ++ b).length / 64)) := by
 have h1 : (m ++ b).length / 64 = m.length / 64 + (left m ++ b).length / 64 := by
  rw [List.length_append, List.length_append, left_length]
  omega
 have h2 : 64 * (m.length / 64) ≤ m.length := by omega
 rw [left, h1, Nat.mul_add, ← List.drop_drop, List.drop_append_of_le_length h2]
 rfl
theorem left_lim {m : List Nat} (h : Lim 256 m) : Lim 256 (left m) := h.drop _
theorem padding_length (n : Nat) : (n + (padding n).length) % 64 = 0 := by
 simp [padding, be64]
 omega
theorem digest_eq (m : List Nat) : digest m = outBytes (hashed (m ++ padding m.length)) := rfl
end Go.Proofs.YtchaahnhpeoomaaGreat
namespace Go.Proofs.YtchaahnhpeoomaaGreat
set_option linter.unusedVariables false
set_option linter.unusedSimpArgs false
set_option maxRecDepth 20000
open Go.RowKit
def ClonePost (xs : List Nat) (w : World) (e : Ending) (w' : World) : Prop :=
 ∃ A c, e = .returned (.slice A xs.length c) ∧ w'.ownsRow w.heap.size 5 1 (.slice A xs.length c) xs.length (ints .u8 xs) ∧ Below w.heap.size w w'
theorem row_form {w : World} {B : Nat} {e : TypeId} {k : IntKind} {v : Value} {n : Nat} {xs : List Nat} (h : w.ownsRow B e 1 v n (ints k xs)) : ∃ A c, v = .slice A n c ∧ n = xs.length ∧ n ≤ c ∧ c ≤ maxLen ∧ Rd k w A xs := by
 obtain ⟨A, c, h1, h2, h3, h4, h5⟩ := Own.of_row h
 exact ⟨A, c, h1, h2, h3, h4, h5.rd⟩
set_option maxHeartbeats 400000 in
theorem clone_any (A : Option Addr) (n c : Nat) (xs : List Nat) (w : World) (hn : n = xs.length) (hl : n ≤ 1099511627776) (hx : Rd .u8 w A xs) :
  Calls Tryz.prog 93 #[.slice A n c] w (ClonePost xs w) := by
 subst hn
 rcases A with _ | ad
 ·have h0 : xs = [] := by
   rcases hx with h | ⟨b, o, h, _⟩
   ·exact h
   ·cases h
  subst h0
  have hq := fun w => Lib.run_eql_slice_nil (P := Tryz.prog) w 22 5 none 0 c 0 0 Tryz.underlying22
  go_enter Tryz.func93, Tryz.ntmps93
  go_wp2_with fail
  go_ret
  exact ⟨none, 0, rfl, World.ownsRow_nil _ _ _ _, Below.refl _ _⟩
 ·have hq := fun w => Lib.run_eql_slice_nil (P := Tryz.prog) w 22 5 (some ad) xs.length c 0 0 Tryz.underlying22
  go_enter Tryz.func93, Tryz.ntmps93
  go_wp2_with (at_builtin; refine wpList_append_ints _ rfl (.tmp 5) (.tmp 6) _ rfl w.heap.size 5 .u8 1 Tryz.underlying22 info_u8 _ 0 [] rfl (World.ownsRow_made w #[] 0 (Nat.le_refl _) (Nat.zero_le _) rfl) _ _ _ xs rfl rfl (hx.alloc _) ?_ ?_ ?_ ?_)
  ·simp only [maxLen]; omega
  ·omega
  ·simp
  ·intro v' w1 hown hgrow _
   obtain ⟨A', c', rfl, _⟩ := row_form hown
   go_wp2_with fail
   go_ret
   exact ⟨A', c', rfl, hown, below_only ((Below.refl _ _).alloc (Nat.le_refl _) _) (show (w.alloc _).grownBy w1 (some w.heap.size) from hgrow) (by simp) (Nat.le_refl _)⟩
def MstN (w : World) (g : Nat) (v : Value) (m : List Nat) (z : Nat) : Prop :=
 Cut w g 0 [.bool true] ∧ Cut w g 1 (ints .u32 K64) ∧ Cut w g 65 (ints .u32 (hashed m)) ∧ Cut w g 73 [v, .int .u64 (z : Int)] ∧ w.ownsRow 0 5 1 v (m.length % 64) (ints .u8 (left m)) ∧ v.ownBlock ≠ some g ∧ Lim 256 m ∧ m.length ≤ 2199023255552 ∧ z ≤ m.length
def Zst (w : World) (g : Nat) : Prop := ∃ ks hs, Cut w g 0 [.bool false] ∧ Cut w g 1 (ints .u32 ks) ∧ Cut w g 65 (ints .u32 hs) ∧ Cut w g 73 [.slice none 0 0, .int .u64 0] ∧ ks.length = 64 ∧ hs.length = 8
def StN (w : World) (g : Nat) (v : Value) (m : List Nat) (z : Nat) : Prop := MstN w g v m z ∨ (Zst w g ∧ v = .slice none 0 0 ∧ m = [] ∧ z = 0)
theorem MstN.keep {w w' : World} {g : Nat} {v : Value} {m : List Nat} {z : Nat} (h : MstN w g v m z) (hs : w.heap.size ≤ w'.heap.size) (hg : w'.heap[g]? = w.heap[g]?) (hv : ∀ j, v.ownBlock = some j → w'.heap[j]? = w.heap[j]?) : MstN w' g v m z := by
 obtain ⟨h0, h1, h2, h3, h4, h5⟩ := h
 refine ⟨h0.keep hs hg, h1.keep hs hg, h2.keep hs hg, h3.keep hs hg, ⟨h4.1, ?_⟩, h5⟩
 rcases h4.2 with hn | ⟨b, cap, cur, rfl, hb, hgg, rest⟩
 ·exact .inl hn
 ·exact .inr ⟨b, cap, cur, rfl, hb, (hv b rfl).trans hgg, rest⟩
theorem Zst.keep {w w' : World} {g : Nat} (h : Zst w g) (hs : w.heap.size ≤ w'.heap.size) (hg : w'.heap[g]? = w.heap[g]?) : Zst w' g := by
 obtain ⟨ks, hs', h0, h1, h2, h3, h4⟩ := h
 exact ⟨ks, hs', h0.keep hs hg, h1.keep hs hg, h2.keep hs hg, h3.keep hs hg, h4⟩
theorem StN.keep {w w' : World} {g : Nat} {v : Value} {m : List Nat} {z : Nat} (h : StN w g v m z) (hs : w.heap.size ≤ w'.heap.size) (hg : w'.heap[g]? = w.heap[g]?) (hv : ∀ j, v.ownBlock = some j → w'.heap[j]? = w.heap[j]?) : StN w' g v m z := by
 rcases h with h | ⟨h, h1⟩
 ·exact .inl (h.keep hs hg hv)
 ·exact .inr ⟨h.keep hs hg, h1⟩
theorem MstN.lt {w : World} {g : Nat} {v : Value} {m : List Nat} {z : Nat} (h : MstN w g v m z) : g < w.heap.size := h.1.lt
theorem StN.lt {w : World} {g : Nat} {v : Value} {m : List Nat} {z : Nat} (h : StN w g v m z) : g < w.heap.size := by
 rcases h with h | ⟨⟨ks, hs, h0, _⟩, _⟩
 ·exact h.lt
 ·exact h0.lt
theorem StN.own_lt {w : World} {g : Nat} {v : Value} {m : List Nat} {z : Nat} (h : StN w g v m z) : ∀ j, v.ownBlock = some j → j < w.heap.size := by
 rcases h with h | ⟨_, rfl, _, _⟩
 ·exact fun j hj => (h.2.2.2.2.1.lt j hj).2
 ·intro j hj
  cases hj
theorem StN.below {w w' : World} {g : Nat} {v : Value} {m : List Nat} {z : Nat} (h : StN w g v m z) (hb : Below w.heap.size w w') : StN w' g v m z :=
 h.keep hb.size (hb.block g h.lt) fun j hj => hb.block j (h.own_lt j hj)
def Mst (w : World) (g : Nat) (v : Value) (m : List Nat) : Prop := MstN w g v m m.length
def St (w : World) (g : Nat) (v : Value) (m : List Nat) : Prop := StN w g v m m.length
theorem cut_parts {w : World} {g : Nat} {t : TypeId} {C : List Value} (pre vs post : List Value) (h : w.heap[g]? = some (.cells C.toArray t (0, 0))) (hC : C = pre ++ vs ++ post) : Cut w g pre.length vs := by
 subst hC
 refine Cut.of_heap h fun i v hv => ?_
 have hi : i < vs.length := (List.getElem?_eq_some_iff.1 hv).1
 rw [List.getElem?_toArray, List.append_assoc, List.getElem?_append_right (by omega), Nat.add_sub_cancel_left, List.getElem?_append_left hi]
 exact hv
theorem wpList_build0 {P : Program} {ops : Array Oper} {rest : List Oper} {o : Oper} {a : Act} {w : World} {Q : Exit → Act → World → Prop} (hg : o.guard = none) (t : TypeId) (ho : o.op = .build t #[]) (C : Array Value) (hC : P.built t [] = some C)
  (h : wpList P ops Q rest (a.put o.dst (.agg C)) w) : wpList P ops Q (o :: rest) a w :=
 wpList_build hg t #[] ho (by simp [hC]) (by simpa [hC] using h)
def zeroCells : List Value := [.bool false] ++ ints .u32 (List.replicate 64 0) ++ ints .u32 (List.replicate 8 0) ++ [.slice none 0 0, .int .u64 0]
theorem zst_new (w : World) (t : TypeId) (C : Array Value) (h : C = zeroCells.toArray) : Zst (w.alloc (.cells C t)) w.heap.size := by
 subst h
 have h := heap_alloc_new w (.cells zeroCells.toArray t)
 refine ⟨List.replicate 64 0, List.replicate 8 0, ?_, ?_, ?_, ?_, by simp, by simp⟩
 ·exact cut_parts [] [.bool false] (ints .u32 (List.replicate 64 0) ++ ints .u32 (List.replicate 8 0) ++ [.slice none 0 0, .int .u64 0]) h (by unfold zeroCells; simp only [List.append_assoc, List.nil_append])
 ·exact cut_parts [.bool false] (ints .u32 (List.replicate 64 0)) (ints .u32 (List.replicate 8 0) ++ [.slice none 0 0, .int .u64 0]) h (by unfold zeroCells; simp only [List.append_assoc])
 ·have h9 := cut_parts ([.bool false] ++ ints .u32 (List.replicate 64 0)) (ints .u32 (List.replicate 8 0)) [.slice none 0 0, .int .u64 0] h rfl
  rwa [show ([Value.bool false] ++ ints .u32 (List.replicate 64 0)).length = 65 from rfl] at h9
 ·have h9 := cut_parts ([.bool false] ++ ints .u32 (List.replicate 64 0) ++ ints .u32 (List.replicate 8 0)) [.slice none 0 0, .int .u64 0] [] h (by unfold zeroCells; simp only [List.append_nil])
  rwa [show ([Value.bool false] ++ ints .u32 (List.replicate 64 0) ++ ints .u32 (List.replicate 8 0)).length = 73 from rfl] at h9
theorem built_state : Tryz.prog.built 182 [] = some zeroCells.toArray := by kernel_rfl
def MadePost (g : Nat) (v : Value) (m : List Nat) (z : Nat) (w : World) (e : Ending) (w' : World) : Prop := e = .returned (.tuple #[]) ∧ MstN w' g v m z ∧ w.grownBy w' (some g)
set_option maxHeartbeats 400000 in
theorem made_any (g : Nat) (v : Value) (m : List Nat) (z : Nat) (w : World) (h : StN w g v m z) : Calls Tryz.prog 120 #[.pointer (some ⟨g, 0, none⟩)] w (MadePost g v m z w) := by
 rcases h with h | ⟨⟨ks, hs, h0, h1, h2, h3, h4, h5⟩, rfl, rfl, rfl⟩
 ·have hc := h.1.cell (i := 0) rfl
  have H := Lib.hid h
  clear h
  go_enter Tryz.func120, Tryz.ntmps120
  go_wp2_with fail
  go_end0
  exact ⟨rfl, H.out, only_refl _ _⟩
 ·refine (make_any g ks hs _ w h0 h1 h2 h3 h4 h5).mono ?_
  rintro e w' ⟨rfl, k0, k1, k2, k3, k4⟩
  exact ⟨rfl, ⟨k0, k1, k2, k3, World.ownsRow_nil _ _ _ _, (by intro h; cases h), Lim.nil _, (by simp), Nat.le_refl _⟩, k4⟩
def NewPost (w : World) (e : Ending) (w' : World) : Prop := ∃ g v, e = .returned (.pointer (some ⟨g, 0, none⟩)) ∧ w.heap.size ≤ g ∧ v = .slice none 0 0 ∧ Mst w' g v [] ∧ Below w.heap.size w w'
set_option maxRecDepth 100000 in
set_option maxHeartbeats 800000 in
theorem new_any (w : World) : Calls Tryz.prog 84 #[] w (NewPost w) := by
 obtain ⟨C, hC, hZ⟩ : ∃ C, Tryz.prog.built 182 [] = some C ∧ Zst (w.alloc (.cells C 182)) w.heap.size := ⟨_, built_state, zst_new w _ _ rfl⟩
 go_enter Tryz.func84, Tryz.ntmps84
 go_wp2_with (refine wpList_build0 rfl 182 rfl C hC ?_)
 refine (made_any _ (.slice none 0 0) [] 0 _ (.inr ⟨hZ, rfl, rfl, rfl⟩)).mono ?_
 rintro e w1 ⟨rfl, h1, h2⟩
 go_wp2_with fail
 go_ret
 exact ⟨w.heap.size, _, rfl, Nat.le_refl _, rfl, h1, below_only ((Below.refl _ _).alloc (Nat.le_refl _) _) h2 (by simp) (Nat.le_refl _)⟩
end Go.Proofs.YtchaahnhpeoomaaGreat
