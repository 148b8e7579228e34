/-
  The program's rotation of words, and a block's words (schedule).
-/
import Derived.Test.YtmbkehmgpcmicaaShaB
import Derived.Laws.BitsAllLaws
import Derived.StillTailTactics
namespace Go.Proofs.Ytmbkehmgpcmicaa
set_option linter.unusedVariables false
set_option linter.unusedSimpArgs false
open Go.RowKit

theorem rotr_lt (x n : Nat) (hx : x < 4294967296) : rotr x n < 4294967296 := by
  unfold rotr
  exact Nat.or_lt_two_pow (n := 32) (Nat.lt_of_le_of_lt (Nat.div_le_self _ _) hx) (Nat.mod_lt _ (by decide))
theorem shl_cast (x q : Nat) : IntKind.u32.wrap ((x : Int) * (q : Int)) = ((x * q % 4294967296 : Nat) : Int) := by
  rw [IntKind.wrap_u32', Int.natCast_emod, Int.natCast_mul]
  rfl
theorem shr_cast (x q : Nat) : (x : Int) / (q : Int) = ((x / q : Nat) : Int) := (Int.natCast_ediv x q).symm
theorem rotr_or_2 (x : Nat) (hx : x < 4294967296) : bits .or .u32 ((x * 1073741824 % 4294967296 : Nat) : Int) ((x / 4 : Nat) : Int) = ((rotr x 2 : Nat) : Int) := by
  rw [u32_or_nat _ _ (Nat.mod_lt _ (by decide)) (Nat.lt_of_le_of_lt (Nat.div_le_self _ _) hx), Nat.or_comm]
  rfl
set_option maxHeartbeats 400000 in
theorem right_2 (x : Nat) (w : World) (hx : x < 4294967296) :
    Calls Try.prog 37 #[.int .u32 (x : Int), .int .i64 2] w (RetU .u32 (rotr x 2) w) := by
  have hw1 : IntKind.u64.wrap (-2) = 18446744073709551614 := by decide
  have hb : bits .and .u64 18446744073709551614 31 = 30 := by decide
  have h2 : IntKind.u32.wrap ((x : Int) * 1073741824) = ((x * 1073741824 % 4294967296 : Nat) : Int) := shl_cast x 1073741824
  have h3 : (x : Int) / 4 = ((x / 4 : Nat) : Int) := shr_cast x 4
  have h4 := rotr_or_2 x hx
  generalize x * 1073741824 % 4294967296 = A at *
  generalize x / 4 = B at *
  generalize rotr x 2 = R at *
  go_enter Try.func37, Try.ntmps37
  go_wp2
  go_ret
  exact ⟨rfl, rfl⟩
theorem rotr_or_6 (x : Nat) (hx : x < 4294967296) : bits .or .u32 ((x * 67108864 % 4294967296 : Nat) : Int) ((x / 64 : Nat) : Int) = ((rotr x 6 : Nat) : Int) := by
  rw [u32_or_nat _ _ (Nat.mod_lt _ (by decide)) (Nat.lt_of_le_of_lt (Nat.div_le_self _ _) hx), Nat.or_comm]
  rfl
set_option maxHeartbeats 400000 in
theorem right_6 (x : Nat) (w : World) (hx : x < 4294967296) :
    Calls Try.prog 37 #[.int .u32 (x : Int), .int .i64 6] w (RetU .u32 (rotr x 6) w) := by
  have hw1 : IntKind.u64.wrap (-6) = 18446744073709551610 := by decide
  have hb : bits .and .u64 18446744073709551610 31 = 26 := by decide
  have h2 : IntKind.u32.wrap ((x : Int) * 67108864) = ((x * 67108864 % 4294967296 : Nat) : Int) := shl_cast x 67108864
  have h3 : (x : Int) / 64 = ((x / 64 : Nat) : Int) := shr_cast x 64
  have h4 := rotr_or_6 x hx
  generalize x * 67108864 % 4294967296 = A at *
  generalize x / 64 = B at *
  generalize rotr x 6 = R at *
  go_enter Try.func37, Try.ntmps37
  go_wp2
  go_ret
  exact ⟨rfl, rfl⟩
theorem rotr_or_7 (x : Nat) (hx : x < 4294967296) : bits .or .u32 ((x * 33554432 % 4294967296 : Nat) : Int) ((x / 128 : Nat) : Int) = ((rotr x 7 : Nat) : Int) := by
  rw [u32_or_nat _ _ (Nat.mod_lt _ (by decide)) (Nat.lt_of_le_of_lt (Nat.div_le_self _ _) hx), Nat.or_comm]
  rfl
set_option maxHeartbeats 400000 in
theorem right_7 (x : Nat) (w : World) (hx : x < 4294967296) :
    Calls Try.prog 37 #[.int .u32 (x : Int), .int .i64 7] w (RetU .u32 (rotr x 7) w) := by
  have hw1 : IntKind.u64.wrap (-7) = 18446744073709551609 := by decide
  have hb : bits .and .u64 18446744073709551609 31 = 25 := by decide
  have h2 : IntKind.u32.wrap ((x : Int) * 33554432) = ((x * 33554432 % 4294967296 : Nat) : Int) := shl_cast x 33554432
  have h3 : (x : Int) / 128 = ((x / 128 : Nat) : Int) := shr_cast x 128
  have h4 := rotr_or_7 x hx
  generalize x * 33554432 % 4294967296 = A at *
  generalize x / 128 = B at *
  generalize rotr x 7 = R at *
  go_enter Try.func37, Try.ntmps37
  go_wp2
  go_ret
  exact ⟨rfl, rfl⟩
theorem rotr_or_11 (x : Nat) (hx : x < 4294967296) : bits .or .u32 ((x * 2097152 % 4294967296 : Nat) : Int) ((x / 2048 : Nat) : Int) = ((rotr x 11 : Nat) : Int) := by
  rw [u32_or_nat _ _ (Nat.mod_lt _ (by decide)) (Nat.lt_of_le_of_lt (Nat.div_le_self _ _) hx), Nat.or_comm]
  rfl
set_option maxHeartbeats 400000 in
theorem right_11 (x : Nat) (w : World) (hx : x < 4294967296) :
    Calls Try.prog 37 #[.int .u32 (x : Int), .int .i64 11] w (RetU .u32 (rotr x 11) w) := by
  have hw1 : IntKind.u64.wrap (-11) = 18446744073709551605 := by decide
  have hb : bits .and .u64 18446744073709551605 31 = 21 := by decide
  have h2 : IntKind.u32.wrap ((x : Int) * 2097152) = ((x * 2097152 % 4294967296 : Nat) : Int) := shl_cast x 2097152
  have h3 : (x : Int) / 2048 = ((x / 2048 : Nat) : Int) := shr_cast x 2048
  have h4 := rotr_or_11 x hx
  generalize x * 2097152 % 4294967296 = A at *
  generalize x / 2048 = B at *
  generalize rotr x 11 = R at *
  go_enter Try.func37, Try.ntmps37
  go_wp2
  go_ret
  exact ⟨rfl, rfl⟩
theorem rotr_or_13 (x : Nat) (hx : x < 4294967296) : bits .or .u32 ((x * 524288 % 4294967296 : Nat) : Int) ((x / 8192 : Nat) : Int) = ((rotr x 13 : Nat) : Int) := by
  rw [u32_or_nat _ _ (Nat.mod_lt _ (by decide)) (Nat.lt_of_le_of_lt (Nat.div_le_self _ _) hx), Nat.or_comm]
  rfl
set_option maxHeartbeats 400000 in
theorem right_13 (x : Nat) (w : World) (hx : x < 4294967296) :
    Calls Try.prog 37 #[.int .u32 (x : Int), .int .i64 13] w (RetU .u32 (rotr x 13) w) := by
  have hw1 : IntKind.u64.wrap (-13) = 18446744073709551603 := by decide
  have hb : bits .and .u64 18446744073709551603 31 = 19 := by decide
  have h2 : IntKind.u32.wrap ((x : Int) * 524288) = ((x * 524288 % 4294967296 : Nat) : Int) := shl_cast x 524288
  have h3 : (x : Int) / 8192 = ((x / 8192 : Nat) : Int) := shr_cast x 8192
  have h4 := rotr_or_13 x hx
  generalize x * 524288 % 4294967296 = A at *
  generalize x / 8192 = B at *
  generalize rotr x 13 = R at *
  go_enter Try.func37, Try.ntmps37
  go_wp2
  go_ret
  exact ⟨rfl, rfl⟩
theorem rotr_or_17 (x : Nat) (hx : x < 4294967296) : bits .or .u32 ((x * 32768 % 4294967296 : Nat) : Int) ((x / 131072 : Nat) : Int) = ((rotr x 17 : Nat) : Int) := by
  rw [u32_or_nat _ _ (Nat.mod_lt _ (by decide)) (Nat.lt_of_le_of_lt (Nat.div_le_self _ _) hx), Nat.or_comm]
  rfl
set_option maxHeartbeats 400000 in
theorem right_17 (x : Nat) (w : World) (hx : x < 4294967296) :
    Calls Try.prog 37 #[.int .u32 (x : Int), .int .i64 17] w (RetU .u32 (rotr x 17) w) := by
  have hw1 : IntKind.u64.wrap (-17) = 18446744073709551599 := by decide
  have hb : bits .and .u64 18446744073709551599 31 = 15 := by decide
  have h2 : IntKind.u32.wrap ((x : Int) * 32768) = ((x * 32768 % 4294967296 : Nat) : Int) := shl_cast x 32768
  have h3 : (x : Int) / 131072 = ((x / 131072 : Nat) : Int) := shr_cast x 131072
  have h4 := rotr_or_17 x hx
  generalize x * 32768 % 4294967296 = A at *
  generalize x / 131072 = B at *
  generalize rotr x 17 = R at *
  go_enter Try.func37, Try.ntmps37
  go_wp2
  go_ret
  exact ⟨rfl, rfl⟩
theorem rotr_or_18 (x : Nat) (hx : x < 4294967296) : bits .or .u32 ((x * 16384 % 4294967296 : Nat) : Int) ((x / 262144 : Nat) : Int) = ((rotr x 18 : Nat) : Int) := by
  rw [u32_or_nat _ _ (Nat.mod_lt _ (by decide)) (Nat.lt_of_le_of_lt (Nat.div_le_self _ _) hx), Nat.or_comm]
  rfl
set_option maxHeartbeats 400000 in
theorem right_18 (x : Nat) (w : World) (hx : x < 4294967296) :
    Calls Try.prog 37 #[.int .u32 (x : Int), .int .i64 18] w (RetU .u32 (rotr x 18) w) := by
  have hw1 : IntKind.u64.wrap (-18) = 18446744073709551598 := by decide
  have hb : bits .and .u64 18446744073709551598 31 = 14 := by decide
  have h2 : IntKind.u32.wrap ((x : Int) * 16384) = ((x * 16384 % 4294967296 : Nat) : Int) := shl_cast x 16384
  have h3 : (x : Int) / 262144 = ((x / 262144 : Nat) : Int) := shr_cast x 262144
  have h4 := rotr_or_18 x hx
  generalize x * 16384 % 4294967296 = A at *
  generalize x / 262144 = B at *
  generalize rotr x 18 = R at *
  go_enter Try.func37, Try.ntmps37
  go_wp2
  go_ret
  exact ⟨rfl, rfl⟩
theorem rotr_or_19 (x : Nat) (hx : x < 4294967296) : bits .or .u32 ((x * 8192 % 4294967296 : Nat) : Int) ((x / 524288 : Nat) : Int) = ((rotr x 19 : Nat) : Int) := by
  rw [u32_or_nat _ _ (Nat.mod_lt _ (by decide)) (Nat.lt_of_le_of_lt (Nat.div_le_self _ _) hx), Nat.or_comm]
  rfl
set_option maxHeartbeats 400000 in
theorem right_19 (x : Nat) (w : World) (hx : x < 4294967296) :
    Calls Try.prog 37 #[.int .u32 (x : Int), .int .i64 19] w (RetU .u32 (rotr x 19) w) := by
  have hw1 : IntKind.u64.wrap (-19) = 18446744073709551597 := by decide
  have hb : bits .and .u64 18446744073709551597 31 = 13 := by decide
  have h2 : IntKind.u32.wrap ((x : Int) * 8192) = ((x * 8192 % 4294967296 : Nat) : Int) := shl_cast x 8192
  have h3 : (x : Int) / 524288 = ((x / 524288 : Nat) : Int) := shr_cast x 524288
  have h4 := rotr_or_19 x hx
  generalize x * 8192 % 4294967296 = A at *
  generalize x / 524288 = B at *
  generalize rotr x 19 = R at *
  go_enter Try.func37, Try.ntmps37
  go_wp2
  go_ret
  exact ⟨rfl, rfl⟩
theorem rotr_or_22 (x : Nat) (hx : x < 4294967296) : bits .or .u32 ((x * 1024 % 4294967296 : Nat) : Int) ((x / 4194304 : Nat) : Int) = ((rotr x 22 : Nat) : Int) := by
  rw [u32_or_nat _ _ (Nat.mod_lt _ (by decide)) (Nat.lt_of_le_of_lt (Nat.div_le_self _ _) hx), Nat.or_comm]
  rfl
set_option maxHeartbeats 400000 in
theorem right_22 (x : Nat) (w : World) (hx : x < 4294967296) :
    Calls Try.prog 37 #[.int .u32 (x : Int), .int .i64 22] w (RetU .u32 (rotr x 22) w) := by
  have hw1 : IntKind.u64.wrap (-22) = 18446744073709551594 := by decide
  have hb : bits .and .u64 18446744073709551594 31 = 10 := by decide
  have h2 : IntKind.u32.wrap ((x : Int) * 1024) = ((x * 1024 % 4294967296 : Nat) : Int) := shl_cast x 1024
  have h3 : (x : Int) / 4194304 = ((x / 4194304 : Nat) : Int) := shr_cast x 4194304
  have h4 := rotr_or_22 x hx
  generalize x * 1024 % 4294967296 = A at *
  generalize x / 4194304 = B at *
  generalize rotr x 22 = R at *
  go_enter Try.func37, Try.ntmps37
  go_wp2
  go_ret
  exact ⟨rfl, rfl⟩
theorem rotr_or_25 (x : Nat) (hx : x < 4294967296) : bits .or .u32 ((x * 128 % 4294967296 : Nat) : Int) ((x / 33554432 : Nat) : Int) = ((rotr x 25 : Nat) : Int) := by
  rw [u32_or_nat _ _ (Nat.mod_lt _ (by decide)) (Nat.lt_of_le_of_lt (Nat.div_le_self _ _) hx), Nat.or_comm]
  rfl
set_option maxHeartbeats 400000 in
theorem right_25 (x : Nat) (w : World) (hx : x < 4294967296) :
    Calls Try.prog 37 #[.int .u32 (x : Int), .int .i64 25] w (RetU .u32 (rotr x 25) w) := by
  have hw1 : IntKind.u64.wrap (-25) = 18446744073709551591 := by decide
  have hb : bits .and .u64 18446744073709551591 31 = 7 := by decide
  have h2 : IntKind.u32.wrap ((x : Int) * 128) = ((x * 128 % 4294967296 : Nat) : Int) := shl_cast x 128
  have h3 : (x : Int) / 33554432 = ((x / 33554432 : Nat) : Int) := shr_cast x 33554432
  have h4 := rotr_or_25 x hx
  generalize x * 128 % 4294967296 = A at *
  generalize x / 33554432 = B at *
  generalize rotr x 25 = R at *
  go_enter Try.func37, Try.ntmps37
  go_wp2
  go_ret
  exact ⟨rfl, rfl⟩
theorem still_of {f : FuncId} {args : Array Value} {k : IntKind} {n : Nat} {w : World} (h : Calls Try.prog f args w (RetU k n w)) : Calls Try.prog f args w fun e w' => e = .returned (.int k (n : Int)) ∧ w' = w :=
  h.mono fun _ _ ⟨h1, h2⟩ => ⟨h1, h2.symm⟩
theorem wrap_add (a b : Nat) : IntKind.u32.wrap ((a : Int) + (b : Int)) = ((addw a b : Nat) : Int) := by
  rw [IntKind.wrap_u32', addw, Int.natCast_emod, Int.natCast_add]
  rfl
theorem xor_lt {a b : Nat} (ha : a < 4294967296) (hb : b < 4294967296) : a ^^^ b < 4294967296 := Nat.xor_lt_two_pow (n := 32) ha hb
theorem xor_div (a x : Nat) (q : Nat) (ha : a < 4294967296) (hx : x < 4294967296) : bits .xor .u32 (a : Int) ((x : Int) / (q : Int)) = ((a ^^^ x / q : Nat) : Int) := by
  rw [shr_cast]
  exact u32_xor_nat _ _ ha (Nat.lt_of_le_of_lt (Nat.div_le_self _ _) hx)
theorem and_lt {a : Nat} (ha : a < 4294967296) (b : Nat) : a &&& b < 4294967296 := Nat.lt_of_le_of_lt Nat.and_le_left ha
theorem not_cast (e : Nat) (he : e < 4294967296) : bits .xor .u32 IntKind.u32.max (e : Int) = ((4294967295 ^^^ e : Nat) : Int) := u32_xor_nat 4294967295 e (by decide) he
end Go.Proofs.Ytmbkehmgpcmicaa
