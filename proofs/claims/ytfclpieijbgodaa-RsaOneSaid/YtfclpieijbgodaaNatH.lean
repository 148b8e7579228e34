/-
  nat.shift and nat.digit: a number times a power of two, and one digit of a quotient.
-/
import Derived.Test.YtfclpieijbgodaaNatG
namespace Go.Proofs.Ytfclpieijbgodaa
set_option linter.unusedVariables false
set_option linter.unusedSimpArgs false
open Go.RowKit

theorem shl_bound {a k : Nat} (ha : a < 4294967296) (hk : k < 32) : (a : Int) * 2 ^ k ≤ 18446744073709551615 := by
  have h1 : (2 : Nat) ^ k ≤ 2 ^ 31 := Nat.pow_le_pow_right (by omega) (by omega)
  have h2 : a * 2 ^ k ≤ 4294967295 * 2 ^ 31 := Nat.mul_le_mul (by omega) h1
  have h3 : ((a * 2 ^ k : Nat) : Int) ≤ 18446744073709551615 := by omega
  simpa using h3
theorem shift_or (z a k : Nat) (hz : z < 4294967296) : bits .or .u32 (z : Int) ((a : Int) * 2 ^ k % 4294967296) = ((z ||| (a * 2 ^ k % 4294967296) : Nat) : Int) := by
  have e : ((a : Int) * 2 ^ k % 4294967296) = ((a * 2 ^ k % 4294967296 : Nat) : Int) := by simp
  rw [e]
  exact u32_or_nat _ _ hz (Nat.mod_lt _ (by omega))
theorem shift_div (a k : Nat) : ((a : Int) * 2 ^ k / 4294967296) = ((a * 2 ^ k / 4294967296 : Nat) : Int) := by simp
theorem shiftTo_succ {xs : List Nat} {k i a z : Nat} (ha : xs[i]? = some a) (hz : (shiftTo xs k i)[i]? = some z) :
    shiftTo xs k (i + 1) = ((shiftTo xs k i).set i (z ||| (a * 2 ^ k % 4294967296))).set (i + 1) (a * 2 ^ k / 4294967296) := by
  rw [shiftTo, List.getD_eq_getElem?_getD, List.getD_eq_getElem?_getD, ha, hz]
  rfl

def ShiftPost (xs : List Nat) (k : Nat) (w : World) (e : Ending) (w' : World) : Prop :=
  ∃ g, e = .returned (.slice (some ⟨g, 0, none⟩) (xs.length + 1) (xs.length + 1)) ∧ w.heap.size ≤ g ∧ Blk .u32 w' g (shiftTo xs k xs.length) ∧ Below w.heap.size w w'

set_option maxHeartbeats 800000 in
theorem shift_any (A : Option Addr) (n c k : Nat) (xs : List Nat) (w : World) (hn : n = xs.length) (hl : n ≤ 70000) (hx : Rd .u32 w A xs) (lx : Lim 4294967296 xs) (hk : k < 32) :
    Calls Try.prog 69 #[.slice A n c, .int .i64 (k : Int)] w (ShiftPost xs k w) := by
  subst hn
  go_enter Try.func69, Try.ntmps69
  go_wp2_with (at_make; refine wpList_make_ints _ rfl _ _ _ rfl .u32 33 4 Try.underlying22 info_u32 _ _ (xs.length + 1) _ _ rfl rfl (by omega) (by omega) (by omega) (by omega) ?_; intro g w1 hg hw1 hs1 hb1)
  have hgl : w.heap.size ≤ g := by rw [hg.out]; exact Nat.le_refl _
  go_loopw [15] (fun t wr => ∃ i : Nat, t = .int .i64 i ∧ i ≤ xs.length ∧ Blk .u32 wr g (shiftTo xs k i) ∧ Below w.heap.size w wr) (fun t _ => xs.length - (intOf t).toNat)
  case atStart => exact ⟨0, rfl, Nat.zero_le _, hw1.blk, hb1⟩
  case round =>
    obtain ⟨i, rfl, hi, hbr, hbel⟩ := hrel
    by_cases hlt : i < xs.length
    · obtain ⟨a, hga⟩ := get_of_lt hlt
      obtain ⟨b, o, rfl, hbw, hcl⟩ := ((hx.below hbel).pos hga)
      have hcell := hcl _ a hga
      have hab := lx.get hga
      have hlen := shiftTo_length xs k i
      have hlim := (shiftTo_ok lx (Nat.le_of_lt hk) (Nat.le_of_lt hlt)).2.1
      obtain ⟨z, hz⟩ := get_of_lt (xs := shiftTo xs k i) (i := i) (by omega)
      have hzb := hlim.get hz
      have hcz := hbr.cell hz
      have hfz := hbr.frozen hz
      obtain ⟨z1, hz1⟩ := get_of_lt (xs := shiftTo xs k i) (i := i + 1) (by omega)
      have hcz1 := hbr.cell hz1
      have hfz1 := hbr.frozen hz1
      have HZ := Lib.hid hz
      have HZ1 := Lib.hid hz1
      have HA := Lib.hid hga
      have HL := Lib.hid hlen
      have hak := shl_bound hab hk
      have hak0 : (0 : Int) ≤ (a : Int) * 2 ^ k := Int.mul_nonneg (by omega) (Int.pow_nonneg (by omega))
      have HS := Lib.hid (shiftTo_succ (k := k) hga hz)
      clear hcl hga hz hz1 hlen
      go_wp2
      go_roundw
      case rel =>
        refine ⟨i + 1, by go_num, by omega, ?_, (hbel.setCell hgl _).setCell hgl _⟩
        rw [HS.out, shift_or z a k hzb, shift_div]
        exact (hbr.set HZ.out _).set (by rw [List.getElem?_set_ne (by omega)]; exact HZ1.out) _
      case measure => simp [intOf] <;> omega
    · obtain rfl : i = xs.length := by omega
      go_wp2
      go_ret
      exact ⟨g, rfl, hgl, hbr, hbel⟩
end Go.Proofs.Ytfclpieijbgodaa
