/-
  How many bits a number has, its bytes, and which of two lists' numbers is above, in the program's words and in the reference's.
-/
import Derived.Test.YtfclpieijbgodaaNatD
namespace Go.Proofs.Ytfclpieijbgodaa
set_option linter.unusedVariables false
set_option linter.unusedSimpArgs false
open Go.RowKit

/-- How many bits, of a list that may be no number. -/
def bitsOf (xs : List Nat) : Int := if isRight xs = true then (nbits (val xs) : Int) else -1
theorem bitsOf_right {xs : List Nat} (h : isRight xs = true) : bitsOf xs = (nbits (val xs) : Int) := by simp [bitsOf, h]
theorem bitsOf_not {xs : List Nat} (h : isRight xs = false) : bitsOf xs = -1 := by simp [bitsOf, h]
theorem nbits_limb {x : Nat} (h : x < 4294967296) : nbits x ≤ 32 := (nbits_le_iff x 32).2 (by omega)
theorem last_pos {xs : List Nat} {x : Nat} (h : isRight xs = true) (hx : xs[xs.length - 1]? = some x) : x ≠ 0 := by
  simp [isRight] at h
  rintro rfl
  exact h.2 (by rw [List.getLast?_eq_getElem?]; exact hx)

set_option maxHeartbeats 400000 in
theorem bits_any (A : Option Addr) (n c : Nat) (xs : List Nat) (w : World) (hn : n = xs.length) (hl : n ≤ 70000) (hx : Rd .u32 w A xs) (lx : Lim 4294967296 xs) :
    Calls Try.prog 54 #[.slice A n c] w fun e w' => e = .returned (.int .i64 (bitsOf xs)) ∧ w = w' := by
  subst hn
  cases hr : isRight xs with
  | false =>
    have HB := Lib.hid (bitsOf_not hr)
    go_enter Try.func54, Try.ntmps54
    go_wp2_with (go_at_call 55; refine (right_any A _ c xs _ rfl (by omega) hx).mono ?_; rintro e w' ⟨rfl, rfl⟩)
    go_ret
    exact ⟨by rw [HB.out]; rfl, rfl⟩
  | true =>
    have hlen := isRight_len hr
    by_cases h0 : xs.length = 0
    · have h1 : ((xs.length : Int) == 0) = true := by simpa using h0
      have he : xs = [] := List.eq_nil_of_length_eq_zero h0
      have HB := Lib.hid (show bitsOf xs = 0 by rw [bitsOf_right hr, he]; rfl)
      have HZ := Lib.hid h0
      clear h0 he
      go_enter Try.func54, Try.ntmps54
      go_wp2_with (go_at_call 55; refine (right_any A _ c xs _ rfl (by omega) hx).mono ?_; rintro e w' ⟨rfl, rfl⟩)
      go_ret
      exact ⟨by rw [HB.out]; rfl, rfl⟩
    · have h1 : ((xs.length : Int) == 0) = false := by simpa using h0
      obtain ⟨x, hgx⟩ := get_of_lt (xs := xs) (i := xs.length - 1) (by omega)
      obtain ⟨b, o, rfl, hbw, hc⟩ := hx.pos hgx
      have hcell := hc _ x hgx
      have hxb := lx.get hgx
      have hne := last_pos hr hgx
      have HB := Lib.hid (show bitsOf xs = ((32 * (xs.length - 1) + nbits x : Nat) : Int) by rw [bitsOf_right hr, nbits_val lx hgx hne])
      have HE := Lib.hid (bitLen_nbits x (by omega))
      have hnb := nbits_limb hxb
      clear hc hgx hne
      go_enter Try.func54, Try.ntmps54
      go_wp2_with fail
      refine (right_any _ _ c xs _ rfl (by omega) hx).mono ?_
      rintro e w' ⟨rfl, rfl⟩
      go_wp2_with fail
      refine (Try.bits_Len32 x _ (by omega) (by omega)).mono ?_
      rintro e w' ⟨rfl, rfl⟩
      simp only [Int.toNat_natCast]
      rw [HE.out]
      go_wp2_with fail
      go_ret
      exact ⟨ret_int (by rw [HB.out]; go_num), rfl⟩

set_option maxHeartbeats 400000 in
theorem refBits_any (A : Option Addr) (n c : Nat) (xs : List Nat) (w : World) (hn : n = xs.length) (hl : n ≤ 70000) (hx : Rd .u32 w A xs) (lx : Lim 4294967296 xs) :
    Calls Try.prog 82 #[.slice A n c] w fun e w' => e = .returned (.int .i64 (bitsOf xs)) ∧ w = w' := by
  subst hn
  cases hr : isRight xs with
  | false =>
    have HB := Lib.hid (bitsOf_not hr)
    go_enter Try.func82, Try.ntmps82
    go_wp2_with (go_at_call 58; refine (refRight_any A _ c xs _ rfl (by omega) hx).mono ?_; rintro e w' ⟨rfl, rfl⟩)
    go_ret
    exact ⟨by rw [HB.out]; rfl, rfl⟩
  | true =>
    have hlen := isRight_len hr
    by_cases h0 : xs.length = 0
    · have h1 : ((xs.length : Int) == 0) = true := by simpa using h0
      have he : xs = [] := List.eq_nil_of_length_eq_zero h0
      have HB := Lib.hid (show bitsOf xs = 0 by rw [bitsOf_right hr, he]; rfl)
      have HZ := Lib.hid h0
      clear h0 he
      go_enter Try.func82, Try.ntmps82
      go_wp2_with (go_at_call 58; refine (refRight_any A _ c xs _ rfl (by omega) hx).mono ?_; rintro e w' ⟨rfl, rfl⟩)
      go_ret
      exact ⟨by rw [HB.out]; rfl, rfl⟩
    · have h1 : ((xs.length : Int) == 0) = false := by simpa using h0
      obtain ⟨x, hgx⟩ := get_of_lt (xs := xs) (i := xs.length - 1) (by omega)
      obtain ⟨b, o, rfl, hbw, hc⟩ := hx.pos hgx
      have hcell := hc _ x hgx
      have hxb := lx.get hgx
      have hne := last_pos hr hgx
      have HB := Lib.hid (show bitsOf xs = ((32 * (xs.length - 1) + nbits x : Nat) : Int) by rw [bitsOf_right hr, nbits_val lx hgx hne])
      have hnb := nbits_limb hxb
      clear hc hgx hne
      go_enter Try.func82, Try.ntmps82
      go_wp2_with fail
      refine (refRight_any _ _ c xs _ rfl (by omega) hx).mono ?_
      rintro e w' ⟨rfl, rfl⟩
      go_wp2_with fail
      go_loop [3, 4] (fun a t => ∃ m z : Nat, a = .int .i64 m ∧ t = .int .u32 z ∧ z < 4294967296 ∧ m ≤ 32 * 256 ∧ Hid (m + nbits z = 32 * (xs.length - 1) + nbits x)) (fun _ t => (intOf t).toNat)
      case atStart => exact ⟨32 * (xs.length - 1), x, by go_num, rfl, hxb, by omega, rfl⟩
      case round =>
        obtain ⟨m, z, rfl, rfl, hz, hm, hs⟩ := hrel
        by_cases hz0 : z = 0
        · subst hz0
          have HS := Lib.hid (show m = 32 * (xs.length - 1) + nbits x by have := hs.out; simpa [nbits] using this)
          go_wp2_with fail
          go_ret
          exact ⟨ret_int (by rw [HB.out, ← HS.out]), rfl⟩
        · have hzp : 0 < z := by omega
          have hm2 : m + 1 ≤ 32 * 256 := by
            have := hs.out
            have := nbits_pos hz0
            omega
          have HS := Lib.hid (show m + 1 + nbits (z / 2) = 32 * (xs.length - 1) + nbits x by have := hs.out; rw [nbits_half hz0] at this; omega)
          go_wp2_with fail
          go_round
          case rel => exact ⟨m + 1, z / 2, by go_num, by first | rfl | go_num, by omega, hm2, HS.out⟩
          case measure => simp [intOf] <;> omega

set_option maxHeartbeats 400000 in
theorem cmpAny_any (A B : Option Addr) (n m c d : Nat) (xs ys : List Nat) (w : World) (hn : n = xs.length) (hm : m = ys.length) (hl : n ≤ 70000) (hl' : m ≤ 70000) (hx : Rd .u32 w A xs) (hy : Rd .u32 w B ys) (lx : Lim 4294967296 xs) (ly : Lim 4294967296 ys) :
    Calls Try.prog 27 #[.slice A n c, .slice B m d] w (Quiet (.int .i64 (if isRight xs = true ∧ isRight ys = true then cmpN (val xs) (val ys) else 0)) w) := by
  subst hn
  subst hm
  cases h1 : isRight xs with
  | false =>
    have HP := Lib.hid (show (if (false = true) ∧ isRight ys = true then cmpN (val xs) (val ys) else (0 : Int)) = 0 by simp)
    generalize (if (false = true) ∧ isRight ys = true then cmpN (val xs) (val ys) else (0 : Int)) = r at *
    go_enter Try.func27, Try.ntmps27
    go_wp2_with fail
    refine (right_any _ _ c xs _ rfl (by omega) hx).mono ?_
    rintro e w' ⟨rfl, rfl⟩
    go_wp2_with fail
    go_ret
    exact Quiet.mk0 (congrArg (Value.int .i64) HP.out.symm)
  | true =>
    cases h2 : isRight ys with
    | false =>
      have HP := Lib.hid (show (if (true = true) ∧ (false = true) then cmpN (val xs) (val ys) else (0 : Int)) = 0 by simp)
      generalize (if (true = true) ∧ (false = true) then cmpN (val xs) (val ys) else (0 : Int)) = r at *
      go_enter Try.func27, Try.ntmps27
      go_wp2_with fail
      refine (right_any _ _ c xs _ rfl (by omega) hx).mono ?_
      rintro e w' ⟨rfl, rfl⟩
      go_wp2_with fail
      refine (right_any _ _ d ys _ rfl (by omega) hy).mono ?_
      rintro e w' ⟨rfl, rfl⟩
      go_wp2_with fail
      go_ret
      exact Quiet.mk0 (congrArg (Value.int .i64) HP.out.symm)
    | true =>
      have HP := Lib.hid (show (if (true = true) ∧ (true = true) then cmpN (val xs) (val ys) else (0 : Int)) = cmpN (val xs) (val ys) by simp)
      generalize (if (true = true) ∧ (true = true) then cmpN (val xs) (val ys) else (0 : Int)) = r at *
      have c1 := isRight_canon lx h1
      have c2 := isRight_canon ly h2
      go_enter Try.func27, Try.ntmps27
      go_wp2_with fail
      refine (right_any _ _ c xs _ rfl (by omega) hx).mono ?_
      rintro e w' ⟨rfl, rfl⟩
      go_wp2_with fail
      refine (right_any _ _ d ys _ rfl (by omega) hy).mono ?_
      rintro e w' ⟨rfl, rfl⟩
      go_wp2_with fail
      refine (cmp_any _ _ _ _ c d xs ys _ rfl rfl hl hl' hx hy c1 c2).mono ?_
      rintro e w' ⟨rfl, q, rfl⟩
      go_wp2_with fail
      go_ret
      exact Quiet.mk (congrArg (Value.int .i64) HP.out.symm) _
set_option maxHeartbeats 400000 in
theorem refCmpAny_any (A B : Option Addr) (n m c d : Nat) (xs ys : List Nat) (w : World) (hn : n = xs.length) (hm : m = ys.length) (hl : n ≤ 70000) (hl' : m ≤ 70000) (hx : Rd .u32 w A xs) (hy : Rd .u32 w B ys) (lx : Lim 4294967296 xs) (ly : Lim 4294967296 ys) :
    Calls Try.prog 28 #[.slice A n c, .slice B m d] w (Quiet (.int .i64 (if isRight xs = true ∧ isRight ys = true then cmpN (val xs) (val ys) else 0)) w) := by
  subst hn
  subst hm
  cases h1 : isRight xs with
  | false =>
    have HP := Lib.hid (show (if (false = true) ∧ isRight ys = true then cmpN (val xs) (val ys) else (0 : Int)) = 0 by simp)
    generalize (if (false = true) ∧ isRight ys = true then cmpN (val xs) (val ys) else (0 : Int)) = r at *
    go_enter Try.func28, Try.ntmps28
    go_wp2_with fail
    refine (refRight_any _ _ c xs _ rfl (by omega) hx).mono ?_
    rintro e w' ⟨rfl, rfl⟩
    go_wp2_with fail
    go_ret
    exact Quiet.mk0 (congrArg (Value.int .i64) HP.out.symm)
  | true =>
    cases h2 : isRight ys with
    | false =>
      have HP := Lib.hid (show (if (true = true) ∧ (false = true) then cmpN (val xs) (val ys) else (0 : Int)) = 0 by simp)
      generalize (if (true = true) ∧ (false = true) then cmpN (val xs) (val ys) else (0 : Int)) = r at *
      go_enter Try.func28, Try.ntmps28
      go_wp2_with fail
      refine (refRight_any _ _ c xs _ rfl (by omega) hx).mono ?_
      rintro e w' ⟨rfl, rfl⟩
      go_wp2_with fail
      refine (refRight_any _ _ d ys _ rfl (by omega) hy).mono ?_
      rintro e w' ⟨rfl, rfl⟩
      go_wp2_with fail
      go_ret
      exact Quiet.mk0 (congrArg (Value.int .i64) HP.out.symm)
    | true =>
      have HP := Lib.hid (show (if (true = true) ∧ (true = true) then cmpN (val xs) (val ys) else (0 : Int)) = cmpN (val xs) (val ys) by simp)
      generalize (if (true = true) ∧ (true = true) then cmpN (val xs) (val ys) else (0 : Int)) = r at *
      have c1 := isRight_canon lx h1
      have c2 := isRight_canon ly h2
      go_enter Try.func28, Try.ntmps28
      go_wp2_with fail
      refine (refRight_any _ _ c xs _ rfl (by omega) hx).mono ?_
      rintro e w' ⟨rfl, rfl⟩
      go_wp2_with fail
      refine (refRight_any _ _ d ys _ rfl (by omega) hy).mono ?_
      rintro e w' ⟨rfl, rfl⟩
      go_wp2_with fail
      refine (refcmp_any _ _ _ _ c d xs ys _ rfl rfl hl hl' hx hy c1 c2).mono ?_
      rintro e w' ⟨rfl, q, rfl⟩
      go_wp2_with fail
      go_ret
      exact Quiet.mk (congrArg (Value.int .i64) HP.out.symm) _

/-- What Octets answers: the bytes, and the error. -/
def octsOf (xs : List Nat) (n : Int) : List Nat × Int :=
  if isRight xs = true ∧ 0 ≤ n ∧ n ≤ 1024 then (if (nbits (val xs) : Int) ≤ 8 * n then (octs n.toNat (val xs), 0) else ([], 10)) else ([], 1)

theorem oct_step (x k : Nat) : ((x : Int) / 2 ^ (8 * (k % 4)) % 256) = ((x / 2 ^ (8 * (k % 4)) % 256 : Nat) : Int) := by simp

set_option maxHeartbeats 400000 in
theorem octets_any_ok (A : Option Addr) (m c : Nat) (xs : List Nat) (n : Nat) (w : World) (hm : m = xs.length) (hl : m ≤ 70000) (hx : Rd .u32 w A xs) (lx : Lim 4294967296 xs) (hr : isRight xs = true) (hn : n ≤ 1024) (hb : nbits (val xs) ≤ 8 * n) :
    Calls Try.prog 53 #[.slice A m c, .int .i64 (n : Int)] w (Gives2 .u8 (octs n (val xs)) 0 w) := by
  subst hm
  have hlen := isRight_len hr
  have HB := Lib.hid (bitsOf_right hr)
  go_enter Try.func53, Try.ntmps53
  go_wp2_with fail
  refine (right_any _ _ c xs _ rfl (by omega) hx).mono ?_
  rintro e w' ⟨rfl, rfl⟩
  go_wp2_with fail
  refine (bits_any _ _ c xs _ rfl (by omega) hx lx).mono ?_
  rintro e w' ⟨rfl, rfl⟩
  rw [HB.out]
  go_wp2_with (at_make; refine wpList_make_ints _ rfl _ _ _ rfl .u8 5 1 Try.underlying50 info_u8 _ _ n _ _ rfl rfl (by omega) (by omega) (by omega) (by omega) ?_; intro g w1 hg hw1 hs1 hb1)
  have hgl : w.heap.size ≤ g := by rw [hg.out]; exact Nat.le_refl _
  go_loopw [7] (fun t wr => ∃ k : Nat, t = .int .i64 k ∧ k ≤ n ∧ k ≤ 4 * xs.length ∧ Blk .u8 wr g (octTo xs n k) ∧ Below w.heap.size w wr) (fun t _ => n - (intOf t).toNat)
  case atStart => exact ⟨0, rfl, Nat.zero_le _, Nat.zero_le _, hw1.blk, hb1⟩
  case round =>
    obtain ⟨k, rfl, hk, hk2, hbr, hbel⟩ := hrel
    by_cases hlt : k < n
    · by_cases hlt2 : k < 4 * xs.length
      · obtain ⟨x, hgx⟩ := get_of_lt (xs := xs) (i := k / 4) (by omega)
        obtain ⟨b, o, rfl, hbw, hcl⟩ := ((hx.below hbel).pos hgx)
        have hcell := hcl _ x hgx
        have hdl : n - 1 - k < (octTo xs n k).length := by rw [octTo_length]; omega
        obtain ⟨y, hgy⟩ := get_of_lt hdl
        have hcx := hbr.cell hgy
        have hfx := hbr.frozen hgy
        have hxb := lx.get hgx
        have HS := Lib.hid (octTo_succ (n := n) hgx)
        have HY := Lib.hid hgy
        clear hcl hgx hgy
        go_wp2
        go_roundw
        case rel =>
          refine ⟨k + 1, by go_num, by omega, by omega, ?_, hbel.setCell hgl _⟩
          rw [oct_step, HS.out]
          exact hbr.set HY.out _
        case measure => simp [intOf] <;> omega
      · have HE := Lib.hid (octTo_octs lx (show k = min n (4 * xs.length) by omega))
        go_wp2
        go_ret2
        rw [HE.out] at hbr
        exact ⟨_, n, by rw [octs_length]; rfl, by rw [octs_length]; exact Nat.le_refl _, by simp only [maxLen]; omega, Own.of_blk hbr hgl, hbel⟩
    · have HE := Lib.hid (octTo_octs lx (show k = min n (4 * xs.length) by omega))
      go_wp2
      go_ret2
      rw [HE.out] at hbr
      exact ⟨_, n, by rw [octs_length]; rfl, by rw [octs_length]; exact Nat.le_refl _, by simp only [maxLen]; omega, Own.of_blk hbr hgl, hbel⟩
set_option maxHeartbeats 400000 in
theorem octets_any_big (A : Option Addr) (m c : Nat) (xs : List Nat) (n : Nat) (w : World) (hm : m = xs.length) (hl : m ≤ 70000) (hx : Rd .u32 w A xs) (lx : Lim 4294967296 xs) (hr : isRight xs = true) (hn : n ≤ 1024) (hb : 8 * n < nbits (val xs)) (hnb : nbits (val xs) ≤ 70000) :
    Calls Try.prog 53 #[.slice A m c, .int .i64 (n : Int)] w (Gives2 .u8 [] 10 w) := by
  subst hm
  have hlen := isRight_len hr
  have HB := Lib.hid (bitsOf_right hr)
  go_enter Try.func53, Try.ntmps53
  go_wp2_with fail
  refine (right_any _ _ c xs _ rfl (by omega) hx).mono ?_
  rintro e w' ⟨rfl, rfl⟩
  go_wp2_with fail
  refine (bits_any _ _ c xs _ rfl (by omega) hx lx).mono ?_
  rintro e w' ⟨rfl, rfl⟩
  rw [HB.out]
  go_wp2_with fail
  go_ret2
  exact ⟨none, 0, rfl, Nat.le_refl _, Nat.zero_le _, Own.nil _ _ _ _, Below.refl _ _⟩
set_option maxHeartbeats 400000 in
theorem octets_any_arg (A : Option Addr) (m c : Nat) (xs : List Nat) (n : Int) (w : World) (hm : m = xs.length) (hl : m ≤ 70000) (hx : Rd .u32 w A xs) (h : isRight xs = false ∨ n < 0 ∨ 1024 < n) :
    Calls Try.prog 53 #[.slice A m c, .int .i64 n] w (Gives2 .u8 [] 1 w) := by
  subst hm
  cases hr : isRight xs with
  | false =>
    clear h
    go_enter Try.func53, Try.ntmps53
    go_wp2_with fail
    refine (right_any _ _ c xs _ rfl (by omega) hx).mono ?_
    rintro e w' ⟨rfl, rfl⟩
    go_wp2_with fail
    go_ret2
    exact ⟨none, 0, rfl, Nat.le_refl _, Nat.zero_le _, Own.nil _ _ _ _, Below.refl _ _⟩
  | true =>
    rw [hr] at h
    rcases (show n < 0 ∨ 1024 < n by simpa using h) with h1 | h1
    all_goals
      clear h
      go_enter Try.func53, Try.ntmps53
      go_wp2_with fail
      refine (right_any _ _ c xs _ rfl (by omega) hx).mono ?_
      rintro e w' ⟨rfl, rfl⟩
      go_wp2_with fail
      go_ret2
      exact ⟨none, 0, rfl, Nat.le_refl _, Nat.zero_le _, Own.nil _ _ _ _, Below.refl _ _⟩
set_option maxHeartbeats 400000 in
theorem refOctets_any_ok (A : Option Addr) (m c : Nat) (xs : List Nat) (n : Nat) (w : World) (hm : m = xs.length) (hl : m ≤ 70000) (hx : Rd .u32 w A xs) (lx : Lim 4294967296 xs) (hr : isRight xs = true) (hn : n ≤ 1024) (hb : nbits (val xs) ≤ 8 * n) :
    Calls Try.prog 90 #[.slice A m c, .int .i64 (n : Int)] w (Gives2 .u8 (octs n (val xs)) 0 w) := by
  subst hm
  have hlen := isRight_len hr
  have HB := Lib.hid (bitsOf_right hr)
  go_enter Try.func90, Try.ntmps90
  go_wp2_with fail
  refine (refRight_any _ _ c xs _ rfl (by omega) hx).mono ?_
  rintro e w' ⟨rfl, rfl⟩
  go_wp2_with fail
  refine (refBits_any _ _ c xs _ rfl (by omega) hx lx).mono ?_
  rintro e w' ⟨rfl, rfl⟩
  rw [HB.out]
  go_wp2_with (at_make; refine wpList_make_ints _ rfl _ _ _ rfl .u8 5 1 Try.underlying50 info_u8 _ _ n _ _ rfl rfl (by omega) (by omega) (by omega) (by omega) ?_; intro g w1 hg hw1 hs1 hb1)
  have hgl : w.heap.size ≤ g := by rw [hg.out]; exact Nat.le_refl _
  go_loopw [7] (fun t wr => ∃ k : Nat, t = .int .i64 k ∧ k ≤ n ∧ k ≤ 4 * xs.length ∧ Blk .u8 wr g (octTo xs n k) ∧ Below w.heap.size w wr) (fun t _ => n - (intOf t).toNat)
  case atStart => exact ⟨0, rfl, Nat.zero_le _, Nat.zero_le _, hw1.blk, hb1⟩
  case round =>
    obtain ⟨k, rfl, hk, hk2, hbr, hbel⟩ := hrel
    by_cases hlt : k < n
    · by_cases hlt2 : k < 4 * xs.length
      · obtain ⟨x, hgx⟩ := get_of_lt (xs := xs) (i := k / 4) (by omega)
        obtain ⟨b, o, rfl, hbw, hcl⟩ := ((hx.below hbel).pos hgx)
        have hcell := hcl _ x hgx
        have hdl : n - 1 - k < (octTo xs n k).length := by rw [octTo_length]; omega
        obtain ⟨y, hgy⟩ := get_of_lt hdl
        have hcx := hbr.cell hgy
        have hfx := hbr.frozen hgy
        have hxb := lx.get hgx
        have HS := Lib.hid (octTo_succ (n := n) hgx)
        have HY := Lib.hid hgy
        clear hcl hgx hgy
        go_wp2
        go_roundw
        case rel =>
          refine ⟨k + 1, by go_num, by omega, by omega, ?_, hbel.setCell hgl _⟩
          rw [oct_step, HS.out]
          exact hbr.set HY.out _
        case measure => simp [intOf] <;> omega
      · have HE := Lib.hid (octTo_octs lx (show k = min n (4 * xs.length) by omega))
        go_wp2
        go_ret2
        rw [HE.out] at hbr
        exact ⟨_, n, by rw [octs_length]; rfl, by rw [octs_length]; exact Nat.le_refl _, by simp only [maxLen]; omega, Own.of_blk hbr hgl, hbel⟩
    · have HE := Lib.hid (octTo_octs lx (show k = min n (4 * xs.length) by omega))
      go_wp2
      go_ret2
      rw [HE.out] at hbr
      exact ⟨_, n, by rw [octs_length]; rfl, by rw [octs_length]; exact Nat.le_refl _, by simp only [maxLen]; omega, Own.of_blk hbr hgl, hbel⟩
set_option maxHeartbeats 400000 in
theorem refOctets_any_big (A : Option Addr) (m c : Nat) (xs : List Nat) (n : Nat) (w : World) (hm : m = xs.length) (hl : m ≤ 70000) (hx : Rd .u32 w A xs) (lx : Lim 4294967296 xs) (hr : isRight xs = true) (hn : n ≤ 1024) (hb : 8 * n < nbits (val xs)) (hnb : nbits (val xs) ≤ 70000) :
    Calls Try.prog 90 #[.slice A m c, .int .i64 (n : Int)] w (Gives2 .u8 [] 10 w) := by
  subst hm
  have hlen := isRight_len hr
  have HB := Lib.hid (bitsOf_right hr)
  go_enter Try.func90, Try.ntmps90
  go_wp2_with fail
  refine (refRight_any _ _ c xs _ rfl (by omega) hx).mono ?_
  rintro e w' ⟨rfl, rfl⟩
  go_wp2_with fail
  refine (refBits_any _ _ c xs _ rfl (by omega) hx lx).mono ?_
  rintro e w' ⟨rfl, rfl⟩
  rw [HB.out]
  go_wp2_with fail
  go_ret2
  exact ⟨none, 0, rfl, Nat.le_refl _, Nat.zero_le _, Own.nil _ _ _ _, Below.refl _ _⟩
set_option maxHeartbeats 400000 in
theorem refOctets_any_arg (A : Option Addr) (m c : Nat) (xs : List Nat) (n : Int) (w : World) (hm : m = xs.length) (hl : m ≤ 70000) (hx : Rd .u32 w A xs) (h : isRight xs = false ∨ n < 0 ∨ 1024 < n) :
    Calls Try.prog 90 #[.slice A m c, .int .i64 n] w (Gives2 .u8 [] 1 w) := by
  subst hm
  cases hr : isRight xs with
  | false =>
    clear h
    go_enter Try.func90, Try.ntmps90
    go_wp2_with fail
    refine (refRight_any _ _ c xs _ rfl (by omega) hx).mono ?_
    rintro e w' ⟨rfl, rfl⟩
    go_wp2_with fail
    go_ret2
    exact ⟨none, 0, rfl, Nat.le_refl _, Nat.zero_le _, Own.nil _ _ _ _, Below.refl _ _⟩
  | true =>
    rw [hr] at h
    rcases (show n < 0 ∨ 1024 < n by simpa using h) with h1 | h1
    all_goals
      clear h
      go_enter Try.func90, Try.ntmps90
      go_wp2_with fail
      refine (refRight_any _ _ c xs _ rfl (by omega) hx).mono ?_
      rintro e w' ⟨rfl, rfl⟩
      go_wp2_with fail
      go_ret2
      exact ⟨none, 0, rfl, Nat.le_refl _, Nat.zero_le _, Own.nil _ _ _ _, Below.refl _ _⟩
end Go.Proofs.Ytfclpieijbgodaa
