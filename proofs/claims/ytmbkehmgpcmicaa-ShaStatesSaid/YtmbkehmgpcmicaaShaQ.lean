/-
  Plain laws of the sum: blocks of a message that is written in pieces. No condition.
-/
import Derived.Test.YtmbkehmgpcmicaaShaP
namespace Go.Proofs.Ytmbkehmgpcmicaa
set_option linter.unusedVariables false
open Go.RowKit

theorem blocks_add (h M : List Nat) (q k : Nat) : blocks h M (q + k) = blocks (blocks h M q) (M.drop (64 * q)) k := by
  induction k with
  | zero => rfl
  | succ k ih => rw [← Nat.add_assoc, blocks, blocks, ih, List.drop_drop, Nat.mul_add]
theorem blocks_pre (h m b : List Nat) (q : Nat) (hq : 64 * q ≤ m.length) : blocks h (m ++ b) q = blocks h m q := by
  induction q with
  | zero => rfl
  | succ q ih =>
    rw [blocks, blocks, ih (by omega), List.drop_append_of_le_length (by omega), List.take_append_of_le_length (by simp; omega)]
theorem compress_length (h b : List Nat) : (compress h b).length = 8 := by simp [compress]
theorem compress_lim (h b : List Nat) : Lim 4294967296 (compress h b) := by
  intro x hx
  obtain ⟨i, _, rfl⟩ := List.mem_map.1 hx
  exact Nat.mod_lt _ (by decide)
theorem blocks_ok {h : List Nat} (h8 : h.length = 8) (hl : Lim 4294967296 h) (M : List Nat) (k : Nat) : (blocks h M k).length = 8 ∧ Lim 4294967296 (blocks h M k) := by
  cases k with
  | zero => exact ⟨h8, hl⟩
  | succ k => exact ⟨compress_length _ _, compress_lim _ _⟩
/-- The eight words behind the whole blocks of a message; what is left of it. -/
def hashed (m : List Nat) : List Nat := blocks H8 m (m.length / 64)
def left (m : List Nat) : List Nat := m.drop (64 * (m.length / 64))
theorem left_length (m : List Nat) : (left m).length = m.length % 64 := by simp [left]; omega
theorem hashed_ok (m : List Nat) : (hashed m).length = 8 ∧ Lim 4294967296 (hashed m) := blocks_ok H8_length H8_lim m _
theorem hashed_append (m b : List Nat) : hashed (m ++ b) = blocks (hashed m) (left m ++ b) ((left m ++ b).length / 64) := by
  have h1 : (m ++ b).length / 64 = m.length / 64 + (left m ++ b).length / 64 := by
    rw [List.length_append, List.length_append, left_length]
    omega
  have h2 : 64 * (m.length / 64) ≤ m.length := by omega
  rw [hashed, h1, blocks_add, blocks_pre _ _ _ _ h2, List.drop_append_of_le_length h2]
  rfl
theorem left_append (m b : List Nat) : left (m ++ b) = (left m ++ b).drop (64 * ((left m ++ b).length / 64)) := by
  have h1 : (m ++ b).length / 64 = m.length / 64 + (left m ++ b).length / 64 := by
    rw [List.length_append, List.length_append, left_length]
    omega
  have h2 : 64 * (m.length / 64) ≤ m.length := by omega
  rw [left, h1, Nat.mul_add, ← List.drop_drop, List.drop_append_of_le_length h2]
  rfl
theorem left_lim {m : List Nat} (h : Lim 256 m) : Lim 256 (left m) := h.drop _
/-- What has been hashed when the message has been filled up is all of it. -/
theorem padding_length (n : Nat) : (n + (padding n).length) % 64 = 0 := by
  simp [padding, be64]
  omega
theorem digest_eq (m : List Nat) : digest m = outBytes (hashed (m ++ padding m.length)) := rfl
end Go.Proofs.Ytmbkehmgpcmicaa
