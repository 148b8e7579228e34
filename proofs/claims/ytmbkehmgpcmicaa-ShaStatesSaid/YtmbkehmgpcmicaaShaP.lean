/-
  SHA-256 in plain numbers: the words of the round, the roots and the primes as they are searched for. No condition.
-/
import Derived.Test.YtmbkehmgpcmicaaBase
namespace Go.Proofs.Ytmbkehmgpcmicaa
set_option linter.unusedVariables false
open Go.RowKit

/-! ### The search for roots -/
/-- Halving: the least number for which something holds. -/
def searchN (f : Nat → Bool) : Nat → Nat → Nat → Nat
  | 0, lo, _ => lo
  | k + 1, lo, hi => if lo < hi then (if f (lo + (hi - lo) / 2) then searchN f k lo (lo + (hi - lo) / 2) else searchN f k (lo + (hi - lo) / 2 + 1) hi) else lo
theorem searchN_done (f : Nat → Bool) (k : Nat) {lo hi : Nat} (h : hi ≤ lo) : searchN f k lo hi = lo := by
  cases k with
  | zero => rfl
  | succ k => rw [searchN, if_neg (by omega)]
theorem searchN_yes {f : Nat → Bool} {k lo hi m : Nat} (h : lo < hi) (hm : m = lo + (hi - lo) / 2) (hf : f m = true) : searchN f (k + 1) lo hi = searchN f k lo m := by
  subst hm
  rw [searchN, if_pos h, if_pos hf]
theorem searchN_no {f : Nat → Bool} {k lo hi m : Nat} (h : lo < hi) (hm : m = lo + (hi - lo) / 2) (hf : f m = false) : searchN f (k + 1) lo hi = searchN f k (m + 1) hi := by
  subst hm
  rw [searchN, if_pos h, hf]
  rfl
/-- Halving as the reference does it. -/
def rootN (f : Nat → Bool) : Nat → Nat → Nat → Nat
  | 0, lo, _ => lo
  | k + 1, lo, hi => if 1 < hi - lo then (if f ((lo + hi) / 2) then rootN f k lo ((lo + hi) / 2) else rootN f k ((lo + hi) / 2) hi) else lo
theorem rootN_done (f : Nat → Bool) (k : Nat) {lo hi : Nat} (h : hi - lo ≤ 1) : rootN f k lo hi = lo := by
  cases k with
  | zero => rfl
  | succ k => rw [rootN, if_neg (by omega)]
theorem rootN_yes {f : Nat → Bool} {k lo hi m : Nat} (h : 1 < hi - lo) (hm : m = (lo + hi) / 2) (hf : f m = true) : rootN f (k + 1) lo hi = rootN f k lo m := by
  subst hm
  rw [rootN, if_pos h, if_pos hf]
theorem rootN_no {f : Nat → Bool} {k lo hi m : Nat} (h : 1 < hi - lo) (hm : m = (lo + hi) / 2) (hf : f m = false) : rootN f (k + 1) lo hi = rootN f k m hi := by
  subst hm
  rw [rootN, if_pos h, hf]
  rfl
def sqF (p x : Nat) : Bool := decide (p * 18446744073709551616 < x * x)
def cuF (p x : Nat) : Bool := decide (p * 79228162514264337593543950336 < x * x * x)
def sqS (p : Nat) : Nat := searchN (sqF p) 38 0 137438953472
def cuS (p : Nat) : Nat := searchN (cuF p) 38 0 137438953472

/-! ### The primes -/
/-- The primes among the first k numbers from 2 on. -/
def primeRun : Nat → List Nat
  | 0 => []
  | k + 1 => if (primeRun k).any (fun q => (k + 2) % q == 0) then primeRun k else primeRun k ++ [k + 2]
theorem primeRun_mono (k j : Nat) : (primeRun k).length ≤ (primeRun (k + j)).length := by
  induction j with
  | zero => exact Nat.le_refl _
  | succ j ih =>
    refine Nat.le_trans ih ?_
    rw [← Nat.add_assoc, primeRun]
    split
    · exact Nat.le_refl _
    · simp
theorem primeRun_bd (k : Nat) : ∀ q ∈ primeRun k, 2 ≤ q ∧ q < k + 2 := by
  induction k with
  | zero => intro q h; cases h
  | succ k ih =>
    intro q h
    rw [primeRun] at h
    split at h
    · have := ih q h; omega
    · rcases List.mem_append.1 h with h | h
      · have := ih q h; omega
      · rw [List.mem_singleton] at h; omega
def P64 : List Nat := [2, 3, 5, 7, 11, 13, 17, 19, 23, 29, 31, 37, 41, 43, 47, 53, 59, 61, 67, 71, 73, 79, 83, 89, 97, 101, 103, 107, 109, 113, 127, 131, 137, 139, 149, 151, 157, 163, 167, 173, 179, 181, 191, 193, 197, 199, 211, 223, 227, 229, 233, 239, 241, 251, 257, 263, 269, 271, 277, 281, 283, 293, 307, 311]
theorem primeRun_310 : primeRun 310 = P64 := by decide +kernel
theorem primeRun_309 : (primeRun 309).length = 63 := by decide +kernel
theorem primeRun_18 : primeRun 18 = P64.take 8 := by decide +kernel
theorem primeRun_17 : (primeRun 17).length = 7 := by decide +kernel

/-! ### The constants -/
def K64 : List Nat := P64.map fun p => (cuS p - 1) % 4294967296
def H8 : List Nat := (P64.take 8).map fun p => (sqS p - 1) % 4294967296
theorem cuS_pos : ∀ p ∈ P64, 1 ≤ cuS p ∧ cuS p ≤ 137438953472 := by decide +kernel
theorem sqS_pos : ∀ p ∈ P64, 1 ≤ sqS p ∧ sqS p ≤ 137438953472 := by decide +kernel
theorem K64_ref : P64.map (fun p => rootN (cuF p) 38 0 137438953472 % 4294967296) = K64 := by decide +kernel
theorem H8_ref : (P64.take 8).map (fun p => rootN (sqF p) 38 0 137438953472 % 4294967296) = H8 := by decide +kernel
theorem K64_length : K64.length = 64 := by simp [K64, P64]
theorem H8_length : H8.length = 8 := by simp [H8, P64]
theorem K64_lim : Lim 4294967296 K64 := by
  intro x hx
  obtain ⟨p, _, rfl⟩ := List.mem_map.1 hx
  exact Nat.mod_lt _ (by decide)
theorem H8_lim : Lim 4294967296 H8 := by
  intro x hx
  obtain ⟨p, _, rfl⟩ := List.mem_map.1 hx
  exact Nat.mod_lt _ (by decide)

/-! ### The words of a round -/
def rotr (x n : Nat) : Nat := x / 2 ^ n ||| x * 2 ^ (32 - n) % 4294967296
def addw (a b : Nat) : Nat := (a + b) % 4294967296
def sig0 (x : Nat) : Nat := rotr x 7 ^^^ rotr x 18 ^^^ x / 8
def sig1 (x : Nat) : Nat := rotr x 17 ^^^ rotr x 19 ^^^ x / 1024
def Sig0 (a : Nat) : Nat := rotr a 2 ^^^ rotr a 13 ^^^ rotr a 22
def Sig1 (e : Nat) : Nat := rotr e 6 ^^^ rotr e 11 ^^^ rotr e 25
def chw (e f g : Nat) : Nat := (e &&& f) ^^^ ((4294967295 ^^^ e) &&& g)
def maj (a b c : Nat) : Nat := (a &&& b) ^^^ (a &&& c) ^^^ (b &&& c)
def expand (a x c y : Nat) : Nat := addw (addw (addw a (sig0 x)) c) (sig1 y)
def oneW (h e f g k w : Nat) : Nat := addw (addw (addw (addw h (Sig1 e)) (chw e f g)) k) w
def twoW (a b c : Nat) : Nat := addw (Sig0 a) (maj a b c)
/-- The four bytes at a place, as a word. -/
def be32 (b : List Nat) (i : Nat) : Nat := ((b.getD i 0 * 256 + b.getD (i + 1) 0) * 256 + b.getD (i + 2) 0) * 256 + b.getD (i + 3) 0
/-- The words of a block: sixteen of its own, and t more. -/
def sched (b : List Nat) : Nat → List Nat
  | 0 => (List.range 16).map fun i => be32 b (4 * i)
  | t + 1 => sched b t ++ [expand ((sched b t).getD t 0) ((sched b t).getD (t + 1) 0) ((sched b t).getD (t + 9) 0) ((sched b t).getD (t + 14) 0)]
def step8 : List Nat → Nat → Nat → List Nat
  | [a, b, c, d, e, f, g, h], k, w => [addw (oneW h e f g k w) (twoW a b c), a, b, c, addw d (oneW h e f g k w), e, f, g]
  | v, _, _ => v
/-- The eight words behind t rounds. -/
def rounds8 (h ks ws : List Nat) : Nat → List Nat
  | 0 => h
  | t + 1 => step8 (rounds8 h ks ws t) (ks.getD t 0) (ws.getD t 0)
/-- The eight words behind a block. -/
def compress (h b : List Nat) : List Nat := (List.range 8).map fun i => addw (h.getD i 0) ((rounds8 h K64 (sched b 48) 64).getD i 0)
/-- The eight words behind n blocks. -/
def blocks (h m : List Nat) : Nat → List Nat
  | 0 => h
  | n + 1 => compress (blocks h m n) ((m.drop (64 * n)).take 64)
/-- Eight bytes of a number, the highest first. -/
def be64 (n : Nat) : List Nat := (List.range 8).map fun i => n / 2 ^ (56 - 8 * i) % 256
/-- What is put behind so many bytes. -/
def padding (n : Nat) : List Nat := 128 :: List.replicate ((119 - n % 64) % 64) 0 ++ be64 (8 * n % 18446744073709551616)
def outBytes (h : List Nat) : List Nat := (List.range 32).map fun i => h.getD (i / 4) 0 / 2 ^ (24 - 8 * (i % 4)) % 256
/-- The sum. -/
def digest (m : List Nat) : List Nat := outBytes (blocks H8 (m ++ padding m.length) ((m ++ padding m.length).length / 64))
theorem digest_abc : digest [97, 98, 99] = [186, 120, 22, 191, 143, 1, 207, 234, 65, 65, 64, 222, 93, 174, 34, 35, 176, 3, 97, 163, 150, 23, 122, 156, 180, 16, 255, 97, 242, 0, 21, 173] := by decide +kernel
theorem digest_length (m : List Nat) : (digest m).length = 32 := by simp [digest, outBytes]
theorem digest_lim (m : List Nat) : Lim 256 (digest m) := by
  intro x hx
  obtain ⟨p, _, rfl⟩ := List.mem_map.1 hx
  exact Nat.mod_lt _ (by decide)
end Go.Proofs.Ytmbkehmgpcmicaa
