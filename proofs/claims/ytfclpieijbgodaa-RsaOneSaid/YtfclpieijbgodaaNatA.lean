/-
  What the small functions on limbs do: which lists are numbers, cutting noughts off, comparing, and whether two lists are the same.
-/
import Derived.Test.YtfclpieijbgodaaNum
import Derived.Test.YtfclpieijbgodaaProg
import Derived.WalkKit
import Derived.WalkSpells
import Derived.BigQuiet
import Derived.Deep.QuietTactic
namespace Go.Proofs.Ytfclpieijbgodaa
set_option linter.unusedVariables false
set_option linter.unusedSimpArgs false
open Go.RowKit

set_option maxHeartbeats 400000 in
theorem right_any (A : Option Addr) (n c : Nat) (xs : List Nat) (w : World) (hn : n = xs.length) (hl : n ≤ 9223372036854775807) (hx : Rd .u32 w A xs) :
    Calls Try.prog 55 #[.slice A n c] w fun e w' => e = .returned (.bool (isRight xs)) ∧ w = w' := by
  subst hn
  by_cases h1 : xs.length ≤ 256
  · by_cases h2 : xs.length = 0
    · have h3 : ((xs.length : Int) == 0) = true := by simpa using h2
      have h4 : isRight xs = true := by
        have : xs = [] := List.eq_nil_of_length_eq_zero h2
        simp [isRight, this]
      have H4 := Lib.hid h4
      have H2 := Lib.hid h2
      clear h4 h2
      go_enter Try.func55, Try.ntmps55
      go_wp2
      go_ret
      exact ⟨ret_bool H4.out.symm, rfl⟩
    · have h3 : ((xs.length : Int) == 0) = false := by simpa using h2
      obtain ⟨x, hgx⟩ := get_of_lt (xs := xs) (i := xs.length - 1) (by omega)
      obtain ⟨b, o, rfl, hbw, hc⟩ := hx.pos hgx
      have hcell := hc _ x hgx
      have h4 : isRight xs = ((x : Int) != 0) := by
        have e : xs.getLast? = some x := by rw [List.getLast?_eq_getElem?]; exact hgx
        simp only [isRight, h1, e, decide_true, Bool.true_and]
        rw [Bool.eq_iff_iff]
        simp
      have H4 := Lib.hid h4
      clear h4 hc hgx
      go_enter Try.func55, Try.ntmps55
      go_wp2
      go_ret
      exact ⟨ret_bool H4.out.symm, rfl⟩
  · have h4 : isRight xs = false := by simp [isRight, h1]
    have H4 := Lib.hid h4
    clear h4
    go_enter Try.func55, Try.ntmps55
    go_wp2
    go_ret
    exact ⟨ret_bool H4.out.symm, rfl⟩
set_option maxHeartbeats 400000 in
theorem refRight_any (A : Option Addr) (n c : Nat) (xs : List Nat) (w : World) (hn : n = xs.length) (hl : n ≤ 9223372036854775807) (hx : Rd .u32 w A xs) :
    Calls Try.prog 58 #[.slice A n c] w fun e w' => e = .returned (.bool (isRight xs)) ∧ w = w' := by
  subst hn
  by_cases h1 : xs.length ≤ 256
  · by_cases h2 : xs.length = 0
    · have h3 : ((xs.length : Int) == 0) = true := by simpa using h2
      have h4 : isRight xs = true := by
        have : xs = [] := List.eq_nil_of_length_eq_zero h2
        simp [isRight, this]
      have H4 := Lib.hid h4
      have H2 := Lib.hid h2
      clear h4 h2
      go_enter Try.func58, Try.ntmps58
      go_wp2
      go_ret
      exact ⟨ret_bool H4.out.symm, rfl⟩
    · have h3 : ((xs.length : Int) == 0) = false := by simpa using h2
      obtain ⟨x, hgx⟩ := get_of_lt (xs := xs) (i := xs.length - 1) (by omega)
      obtain ⟨b, o, rfl, hbw, hc⟩ := hx.pos hgx
      have hcell := hc _ x hgx
      have h4 : isRight xs = ((x : Int) != 0) := by
        have e : xs.getLast? = some x := by rw [List.getLast?_eq_getElem?]; exact hgx
        simp only [isRight, h1, e, decide_true, Bool.true_and]
        rw [Bool.eq_iff_iff]
        simp
      have H4 := Lib.hid h4
      clear h4 hc hgx
      go_enter Try.func58, Try.ntmps58
      go_wp2
      go_ret
      exact ⟨ret_bool H4.out.symm, rfl⟩
  · have h4 : isRight xs = false := by simp [isRight, h1]
    have H4 := Lib.hid h4
    clear h4
    go_enter Try.func58, Try.ntmps58
    go_wp2
    go_ret
    exact ⟨ret_bool H4.out.symm, rfl⟩

set_option maxHeartbeats 400000 in
theorem vast_any (A B : Option Addr) (n m c d : Nat) (w : World) (hn : n ≤ 9223372036854775807) (hm : m ≤ 9223372036854775807) :
    Calls Try.prog 15 #[.slice A n c, .slice B m d] w fun e w' => e = .returned (.bool (decide (300 < n) || decide (300 < m))) ∧ w = w' := by
  by_cases h1 : 300 < n
  · go_enter Try.func15, Try.ntmps15
    go_wp2
    go_ret
    exact ⟨rfl, rfl⟩
  · go_enter Try.func15, Try.ntmps15
    go_wp2
    go_ret
    exact ⟨ret_bool (by simp only [show ((300 : Int) < (n : Int)) ↔ 300 < n from by omega, show ((300 : Int) < (m : Int)) ↔ 300 < m from by omega]), rfl⟩

def TrimPost (A : Option Addr) (n : Nat) (xs : List Nat) (w : World) (e : Ending) (w' : World) : Prop := ∃ m, e = .returned (.slice A m m) ∧ m ≤ n ∧ Hid (xs.take m = limbs (val xs)) ∧ w = w'

set_option maxHeartbeats 400000 in
theorem trim_any (A : Option Addr) (n c : Nat) (xs : List Nat) (w : World) (hn : n = xs.length) (hc : n ≤ c) (hl : c ≤ 9223372036854775807) (hx : Rd .u32 w A xs) (lx : Lim 4294967296 xs) :
    Calls Try.prog 63 #[.slice A n c] w (TrimPost A n xs w) := by
  subst hn
  go_enter Try.func63, Try.ntmps63
  go_wp2
  go_loop [3] (fun t => ∃ k : Nat, t = .int .i64 k ∧ k ≤ xs.length ∧ Hid (∀ i x, k ≤ i → xs[i]? = some x → x = 0)) (fun t => (intOf t).toNat)
  case atStart => exact ⟨xs.length, rfl, Nat.le_refl _, fun i x hi hg => by have := (List.getElem?_eq_some_iff.1 hg).1; omega⟩
  case round =>
    obtain ⟨k, rfl, hk, h0⟩ := hrel
    rcases Nat.eq_zero_or_pos k with rfl | hp
    · go_wp2
      go_ret
      exact ⟨0, rfl, Nat.zero_le _, take_limbs lx (Nat.zero_le _) h0.out (.inl rfl), rfl⟩
    · obtain ⟨x, hgx⟩ := get_of_lt (xs := xs) (i := k - 1) (by omega)
      obtain ⟨b, o, rfl, hbw, hcl⟩ := hx.pos hgx
      have hcell := hcl _ x hgx
      have HG := Lib.hid hgx
      clear hcl hgx
      by_cases hx0 : x = 0
      · subst hx0
        go_wp2
        go_round
        case rel => exact ⟨k - 1, by go_num, by omega, fun i x hi hg => by
          rcases Nat.lt_or_ge i k with h | h
          · obtain rfl : i = k - 1 := by omega
            have := HG.out
            rw [this] at hg
            injection hg with hg
            exact hg.symm
          · exact h0.out i x h hg⟩
        case measure => simp [intOf]; omega
      · have hx1 : ((x : Int) == 0) = false := by simpa using hx0
        go_wp2
        go_ret
        exact ⟨k, rfl, hk, take_limbs lx hk h0.out (.inr (by rw [HG.out]; simpa using hx0)), rfl⟩
end Go.Proofs.Ytfclpieijbgodaa
