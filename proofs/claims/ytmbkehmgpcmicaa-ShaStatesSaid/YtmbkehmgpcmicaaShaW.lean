/-
  The reference's rotation of words, and a block's words (schedule).
-/
import Derived.Test.YtmbkehmgpcmicaaShaV
import Derived.Test.YtmbkehmgpcmicaaShaD
import Derived.Deep.RegionHeld3
namespace Go.Proofs.Ytmbkehmgpcmicaa
set_option linter.unusedVariables false
set_option linter.unusedSimpArgs false
open Go.RowKit

theorem rotr_ro_2 (x : Nat) (hx : x < 4294967296) : bits .or .u32 ((x / 4 : Nat) : Int) ((x * 1073741824 % 4294967296 : Nat) : Int) = ((rotr x 2 : Nat) : Int) := by
  rw [u32_or_nat _ _ (Nat.lt_of_le_of_lt (Nat.div_le_self _ _) hx) (Nat.mod_lt _ (by decide))]
  rfl
set_option maxHeartbeats 400000 in
theorem refRight_2 (x : Nat) (w : World) (hx : x < 4294967296) :
    Calls Try.prog 32 #[.int .u32 (x : Int), .int .u64 2] w (RetU .u32 (rotr x 2) w) := by
  have h2 : IntKind.u32.wrap ((x : Int) * 1073741824) = ((x * 1073741824 % 4294967296 : Nat) : Int) := shl_cast x 1073741824
  have h3 : (x : Int) / 4 = ((x / 4 : Nat) : Int) := shr_cast x 4
  have h4 := rotr_ro_2 x hx
  generalize x * 1073741824 % 4294967296 = A at *
  generalize x / 4 = B at *
  generalize rotr x 2 = R at *
  go_enter Try.func32, Try.ntmps32
  go_wp2
  go_ret
  exact ⟨rfl, rfl⟩
theorem rotr_ro_6 (x : Nat) (hx : x < 4294967296) : bits .or .u32 ((x / 64 : Nat) : Int) ((x * 67108864 % 4294967296 : Nat) : Int) = ((rotr x 6 : Nat) : Int) := by
  rw [u32_or_nat _ _ (Nat.lt_of_le_of_lt (Nat.div_le_self _ _) hx) (Nat.mod_lt _ (by decide))]
  rfl
set_option maxHeartbeats 400000 in
theorem refRight_6 (x : Nat) (w : World) (hx : x < 4294967296) :
    Calls Try.prog 32 #[.int .u32 (x : Int), .int .u64 6] w (RetU .u32 (rotr x 6) w) := by
  have h2 : IntKind.u32.wrap ((x : Int) * 67108864) = ((x * 67108864 % 4294967296 : Nat) : Int) := shl_cast x 67108864
  have h3 : (x : Int) / 64 = ((x / 64 : Nat) : Int) := shr_cast x 64
  have h4 := rotr_ro_6 x hx
  generalize x * 67108864 % 4294967296 = A at *
  generalize x / 64 = B at *
  generalize rotr x 6 = R at *
  go_enter Try.func32, Try.ntmps32
  go_wp2
  go_ret
  exact ⟨rfl, rfl⟩
theorem rotr_ro_7 (x : Nat) (hx : x < 4294967296) : bits .or .u32 ((x / 128 : Nat) : Int) ((x * 33554432 % 4294967296 : Nat) : Int) = ((rotr x 7 : Nat) : Int) := by
  rw [u32_or_nat _ _ (Nat.lt_of_le_of_lt (Nat.div_le_self _ _) hx) (Nat.mod_lt _ (by decide))]
  rfl
set_option maxHeartbeats 400000 in
theorem refRight_7 (x : Nat) (w : World) (hx : x < 4294967296) :
    Calls Try.prog 32 #[.int .u32 (x : Int), .int .u64 7] w (RetU .u32 (rotr x 7) w) := by
  have h2 : IntKind.u32.wrap ((x : Int) * 33554432) = ((x * 33554432 % 4294967296 : Nat) : Int) := shl_cast x 33554432
  have h3 : (x : Int) / 128 = ((x / 128 : Nat) : Int) := shr_cast x 128
  have h4 := rotr_ro_7 x hx
  generalize x * 33554432 % 4294967296 = A at *
  generalize x / 128 = B at *
  generalize rotr x 7 = R at *
  go_enter Try.func32, Try.ntmps32
  go_wp2
  go_ret
  exact ⟨rfl, rfl⟩
theorem rotr_ro_11 (x : Nat) (hx : x < 4294967296) : bits .or .u32 ((x / 2048 : Nat) : Int) ((x * 2097152 % 4294967296 : Nat) : Int) = ((rotr x 11 : Nat) : Int) := by
  rw [u32_or_nat _ _ (Nat.lt_of_le_of_lt (Nat.div_le_self _ _) hx) (Nat.mod_lt _ (by decide))]
  rfl
set_option maxHeartbeats 400000 in
theorem refRight_11 (x : Nat) (w : World) (hx : x < 4294967296) :
    Calls Try.prog 32 #[.int .u32 (x : Int), .int .u64 11] w (RetU .u32 (rotr x 11) w) := by
  have h2 : IntKind.u32.wrap ((x : Int) * 2097152) = ((x * 2097152 % 4294967296 : Nat) : Int) := shl_cast x 2097152
  have h3 : (x : Int) / 2048 = ((x / 2048 : Nat) : Int) := shr_cast x 2048
  have h4 := rotr_ro_11 x hx
  generalize x * 2097152 % 4294967296 = A at *
  generalize x / 2048 = B at *
  generalize rotr x 11 = R at *
  go_enter Try.func32, Try.ntmps32
  go_wp2
  go_ret
  exact ⟨rfl, rfl⟩
theorem rotr_ro_13 (x : Nat) (hx : x < 4294967296) : bits .or .u32 ((x / 8192 : Nat) : Int) ((x * 524288 % 4294967296 : Nat) : Int) = ((rotr x 13 : Nat) : Int) := by
  rw [u32_or_nat _ _ (Nat.lt_of_le_of_lt (Nat.div_le_self _ _) hx) (Nat.mod_lt _ (by decide))]
  rfl
set_option maxHeartbeats 400000 in
theorem refRight_13 (x : Nat) (w : World) (hx : x < 4294967296) :
    Calls Try.prog 32 #[.int .u32 (x : Int), .int .u64 13] w (RetU .u32 (rotr x 13) w) := by
  have h2 : IntKind.u32.wrap ((x : Int) * 524288) = ((x * 524288 % 4294967296 : Nat) : Int) := shl_cast x 524288
  have h3 : (x : Int) / 8192 = ((x / 8192 : Nat) : Int) := shr_cast x 8192
  have h4 := rotr_ro_13 x hx
  generalize x * 524288 % 4294967296 = A at *
  generalize x / 8192 = B at *
  generalize rotr x 13 = R at *
  go_enter Try.func32, Try.ntmps32
  go_wp2
  go_ret
  exact ⟨rfl, rfl⟩
theorem rotr_ro_17 (x : Nat) (hx : x < 4294967296) : bits .or .u32 ((x / 131072 : Nat) : Int) ((x * 32768 % 4294967296 : Nat) : Int) = ((rotr x 17 : Nat) : Int) := by
  rw [u32_or_nat _ _ (Nat.lt_of_le_of_lt (Nat.div_le_self _ _) hx) (Nat.mod_lt _ (by decide))]
  rfl
set_option maxHeartbeats 400000 in
theorem refRight_17 (x : Nat) (w : World) (hx : x < 4294967296) :
    Calls Try.prog 32 #[.int .u32 (x : Int), .int .u64 17] w (RetU .u32 (rotr x 17) w) := by
  have h2 : IntKind.u32.wrap ((x : Int) * 32768) = ((x * 32768 % 4294967296 : Nat) : Int) := shl_cast x 32768
  have h3 : (x : Int) / 131072 = ((x / 131072 : Nat) : Int) := shr_cast x 131072
  have h4 := rotr_ro_17 x hx
  generalize x * 32768 % 4294967296 = A at *
  generalize x / 131072 = B at *
  generalize rotr x 17 = R at *
  go_enter Try.func32, Try.ntmps32
  go_wp2
  go_ret
  exact ⟨rfl, rfl⟩
theorem rotr_ro_18 (x : Nat) (hx : x < 4294967296) : bits .or .u32 ((x / 262144 : Nat) : Int) ((x * 16384 % 4294967296 : Nat) : Int) = ((rotr x 18 : Nat) : Int) := by
  rw [u32_or_nat _ _ (Nat.lt_of_le_of_lt (Nat.div_le_self _ _) hx) (Nat.mod_lt _ (by decide))]
  rfl
set_option maxHeartbeats 400000 in
theorem refRight_18 (x : Nat) (w : World) (hx : x < 4294967296) :
    Calls Try.prog 32 #[.int .u32 (x : Int), .int .u64 18] w (RetU .u32 (rotr x 18) w) := by
  have h2 : IntKind.u32.wrap ((x : Int) * 16384) = ((x * 16384 % 4294967296 : Nat) : Int) := shl_cast x 16384
  have h3 : (x : Int) / 262144 = ((x / 262144 : Nat) : Int) := shr_cast x 262144
  have h4 := rotr_ro_18 x hx
  generalize x * 16384 % 4294967296 = A at *
  generalize x / 262144 = B at *
  generalize rotr x 18 = R at *
  go_enter Try.func32, Try.ntmps32
  go_wp2
  go_ret
  exact ⟨rfl, rfl⟩
theorem rotr_ro_19 (x : Nat) (hx : x < 4294967296) : bits .or .u32 ((x / 524288 : Nat) : Int) ((x * 8192 % 4294967296 : Nat) : Int) = ((rotr x 19 : Nat) : Int) := by
  rw [u32_or_nat _ _ (Nat.lt_of_le_of_lt (Nat.div_le_self _ _) hx) (Nat.mod_lt _ (by decide))]
  rfl
set_option maxHeartbeats 400000 in
theorem refRight_19 (x : Nat) (w : World) (hx : x < 4294967296) :
    Calls Try.prog 32 #[.int .u32 (x : Int), .int .u64 19] w (RetU .u32 (rotr x 19) w) := by
  have h2 : IntKind.u32.wrap ((x : Int) * 8192) = ((x * 8192 % 4294967296 : Nat) : Int) := shl_cast x 8192
  have h3 : (x : Int) / 524288 = ((x / 524288 : Nat) : Int) := shr_cast x 524288
  have h4 := rotr_ro_19 x hx
  generalize x * 8192 % 4294967296 = A at *
  generalize x / 524288 = B at *
  generalize rotr x 19 = R at *
  go_enter Try.func32, Try.ntmps32
  go_wp2
  go_ret
  exact ⟨rfl, rfl⟩
theorem rotr_ro_22 (x : Nat) (hx : x < 4294967296) : bits .or .u32 ((x / 4194304 : Nat) : Int) ((x * 1024 % 4294967296 : Nat) : Int) = ((rotr x 22 : Nat) : Int) := by
  rw [u32_or_nat _ _ (Nat.lt_of_le_of_lt (Nat.div_le_self _ _) hx) (Nat.mod_lt _ (by decide))]
  rfl
set_option maxHeartbeats 400000 in
theorem refRight_22 (x : Nat) (w : World) (hx : x < 4294967296) :
    Calls Try.prog 32 #[.int .u32 (x : Int), .int .u64 22] w (RetU .u32 (rotr x 22) w) := by
  have h2 : IntKind.u32.wrap ((x : Int) * 1024) = ((x * 1024 % 4294967296 : Nat) : Int) := shl_cast x 1024
  have h3 : (x : Int) / 4194304 = ((x / 4194304 : Nat) : Int) := shr_cast x 4194304
  have h4 := rotr_ro_22 x hx
  generalize x * 1024 % 4294967296 = A at *
  generalize x / 4194304 = B at *
  generalize rotr x 22 = R at *
  go_enter Try.func32, Try.ntmps32
  go_wp2
  go_ret
  exact ⟨rfl, rfl⟩
theorem rotr_ro_25 (x : Nat) (hx : x < 4294967296) : bits .or .u32 ((x / 33554432 : Nat) : Int) ((x * 128 % 4294967296 : Nat) : Int) = ((rotr x 25 : Nat) : Int) := by
  rw [u32_or_nat _ _ (Nat.lt_of_le_of_lt (Nat.div_le_self _ _) hx) (Nat.mod_lt _ (by decide))]
  rfl
set_option maxHeartbeats 400000 in
theorem refRight_25 (x : Nat) (w : World) (hx : x < 4294967296) :
    Calls Try.prog 32 #[.int .u32 (x : Int), .int .u64 25] w (RetU .u32 (rotr x 25) w) := by
  have h2 : IntKind.u32.wrap ((x : Int) * 128) = ((x * 128 % 4294967296 : Nat) : Int) := shl_cast x 128
  have h3 : (x : Int) / 33554432 = ((x / 33554432 : Nat) : Int) := shr_cast x 33554432
  have h4 := rotr_ro_25 x hx
  generalize x * 128 % 4294967296 = A at *
  generalize x / 33554432 = B at *
  generalize rotr x 25 = R at *
  go_enter Try.func32, Try.ntmps32
  go_wp2
  go_ret
  exact ⟨rfl, rfl⟩

theorem getD_get {s : List Nat} {j : Nat} (h : j < s.length) : s[j]? = some (s.getD j 0) := by
  rw [List.getD_eq_getElem?_getD, List.getElem?_eq_getElem h]
  rfl
theorem word_parts (x0 x1 x2 x3 : Nat) (h0 : x0 < 256) (h1 : x1 < 256) (h2 : x2 < 256) (h3 : x3 < 256) :
    IntKind.u32.wrap ((x0 : Int) * 16777216) = ((x0 * 16777216 : Nat) : Int) ∧ IntKind.u32.wrap ((x1 : Int) * 65536) = ((x1 * 65536 : Nat) : Int) ∧ IntKind.u32.wrap ((x2 : Int) * 256) = ((x2 * 256 : Nat) : Int) ∧
    bits .or .u32 ((x0 * 16777216 : Nat) : Int) ((x1 * 65536 : Nat) : Int) = ((x0 * 16777216 + x1 * 65536 : Nat) : Int) ∧ bits .or .u32 ((x0 * 16777216 + x1 * 65536 : Nat) : Int) ((x2 * 256 : Nat) : Int) = ((x0 * 16777216 + x1 * 65536 + x2 * 256 : Nat) : Int) ∧
    bits .or .u32 ((x0 * 16777216 + x1 * 65536 + x2 * 256 : Nat) : Int) (x3 : Int) = ((((x0 * 256 + x1) * 256 + x2) * 256 + x3 : Nat) : Int) := by
  refine ⟨?_, ?_, ?_, ?_, ?_, ?_⟩
  · rw [IntKind.wrap_u32']; omega
  · rw [IntKind.wrap_u32']; omega
  · rw [IntKind.wrap_u32']; omega
  · rw [u32_or_nat _ _ (by omega) (by omega), show x0 * 16777216 = x0 * 2 ^ 24 by omega, Nat.or_comm]
    have := Nat.shiftLeft_add_eq_or_of_lt (show x1 * 65536 < 2 ^ 24 by omega) x0
    rw [Nat.shiftLeft_eq] at this
    rw [Nat.or_comm, ← this]
  · rw [u32_or_nat _ _ (by omega) (by omega), show x0 * 16777216 + x1 * 65536 = (x0 * 256 + x1) * 2 ^ 16 by omega]
    have := Nat.shiftLeft_add_eq_or_of_lt (show x2 * 256 < 2 ^ 16 by omega) (x0 * 256 + x1)
    rw [Nat.shiftLeft_eq] at this
    rw [← this]
  · rw [u32_or_nat _ _ (by omega) (by omega), show x0 * 16777216 + x1 * 65536 + x2 * 256 = ((x0 * 256 + x1) * 256 + x2) * 2 ^ 8 by omega]
    have := Nat.shiftLeft_add_eq_or_of_lt (show x3 < 2 ^ 8 by omega) ((x0 * 256 + x1) * 256 + x2)
    rw [Nat.shiftLeft_eq] at this
    rw [← this]

theorem word_parts2 (x0 x1 x2 x3 : Nat) (h0 : x0 < 256) (h1 : x1 < 256) (h2 : x2 < 256) (h3 : x3 < 256) :
    #[Value.int .u32 (bits .or .u32 (bits .or .u32 (bits .or .u32 (IntKind.u32.wrap (IntKind.u32.wrap (x0 : Int) * 16777216)) (IntKind.u32.wrap (IntKind.u32.wrap (x1 : Int) * 65536))) (IntKind.u32.wrap (IntKind.u32.wrap (x2 : Int) * 256))) (IntKind.u32.wrap (x3 : Int)))]
      = (ints .u32 [((x0 * 256 + x1) * 256 + x2) * 256 + x3]).toArray := by
  obtain ⟨p1, p2, p3, p4, p5, p6⟩ := word_parts x0 x1 x2 x3 h0 h1 h2 h3
  have c : ∀ x : Nat, x < 256 → IntKind.u32.wrap (x : Int) = (x : Int) := fun x h => by rw [IntKind.wrap_u32']; omega
  rw [c x0 h0, c x1 h1, c x2 h2, c x3 h3, p1, p2, p3, p4, p5, p6]
  rfl
theorem expand_form (va vx vc vy : Nat) (hx : vx < 4294967296) (hy : vy < 4294967296) :
    #[Value.int .u32 (IntKind.u32.wrap (IntKind.u32.wrap (IntKind.u32.wrap ((va : Int) + bits .xor .u32 (bits .xor .u32 ((rotr vx 7 : Nat) : Int) ((rotr vx 18 : Nat) : Int)) ((vx : Int) / 8)) + (vc : Int)) + bits .xor .u32 (bits .xor .u32 ((rotr vy 17 : Nat) : Int) ((rotr vy 19 : Nat) : Int)) ((vy : Int) / 1024)))]
      = (ints .u32 [expand va vx vc vy]).toArray := by
  have e1 : bits .xor .u32 ((rotr vx 7 : Nat) : Int) ((rotr vx 18 : Nat) : Int) = ((rotr vx 7 ^^^ rotr vx 18 : Nat) : Int) := u32_xor_nat _ _ (rotr_lt _ _ hx) (rotr_lt _ _ hx)
  have e2 : bits .xor .u32 ((rotr vx 7 ^^^ rotr vx 18 : Nat) : Int) ((vx : Int) / 8) = ((sig0 vx : Nat) : Int) := xor_div _ _ 8 (xor_lt (rotr_lt _ _ hx) (rotr_lt _ _ hx)) hx
  have e3 : bits .xor .u32 ((rotr vy 17 : Nat) : Int) ((rotr vy 19 : Nat) : Int) = ((rotr vy 17 ^^^ rotr vy 19 : Nat) : Int) := u32_xor_nat _ _ (rotr_lt _ _ hy) (rotr_lt _ _ hy)
  have e4 : bits .xor .u32 ((rotr vy 17 ^^^ rotr vy 19 : Nat) : Int) ((vy : Int) / 1024) = ((sig1 vy : Nat) : Int) := xor_div _ _ 1024 (xor_lt (rotr_lt _ _ hy) (rotr_lt _ _ hy)) hy
  have e5 := wrap_add va (sig0 vx)
  have e6 := wrap_add (addw va (sig0 vx)) vc
  have e7 : IntKind.u32.wrap (((addw (addw va (sig0 vx)) vc : Nat) : Int) + ((sig1 vy : Nat) : Int)) = ((expand va vx vc vy : Nat) : Int) := wrap_add _ _
  rw [e1, e2, e3, e4, e5, e6, e7]
  rfl
theorem below_row {w wr w5 : World} {o : Obj} {e : TypeId} {v : Value} {n : Nat} {xs : List Value} (hbel : Below w.heap.size w wr) (hown : wr.ownsRow w.heap.size e 1 v n xs) (hg : (wr.drew.alloc o).grownBy w5 v.ownBlock) : Below w.heap.size w w5 :=
  ((below_drewN hbel 1).alloc (below_drewN hbel 1).size o).grown hg (by have := hbel.size; show w.heap.size ≤ (wr.alloc o).heap.size; simp; omega) (fun k hk => (hown.lt k hk).1)
section
variable {P : Program} {w : World}
theorem run_append_keep (B : Nat) (t ty e : TypeId) (k : IntKind) (bytes : Nat) (ht : P.underlying t = some (.slice e)) (hinfo : (P.info? e).map (fun i => (i.zero, i.size, i.bytes)) = some (some (.int k 0), 1, bytes))
    (g n cap : Nat) (xs : List Nat) (hown : w.ownsRow B e 1 (.slice (some ⟨g, 0, none⟩) n cap) n (ints k xs)) (A : Option Addr) (m c : Nat) (ys : List Nat) (hm : m = ys.length) (hr : Rd k w A ys)
    (h63 : n + m ≤ maxLen) (hbytes : (n + m) * bytes ≤ 140737488355328) {v' : Value} {w' : World} (hrun : (Builtin.append_ #[t, t] ty #[.slice (some ⟨g, 0, none⟩) n cap, .slice A m c]).run P w = .ok v' w')
    (h2 : w'.ownsRow B e 1 v' (n + m) (ints k (xs ++ ys))) : ∀ j u, (ints k xs)[j]? = some u → w'.cell? ⟨g, j, none⟩ = some u := by
  intro j u hu
  obtain ⟨i, hi, hzz⟩ := Option.map_eq_some_iff.1 hinfo
  simp only [Prod.mk.injEq] at hzz
  obtain ⟨hz, hs, hb⟩ := hzz
  have hadd : (⟨g, 0, none⟩ : Addr).add j = ⟨g, j, none⟩ := by unfold Addr.add; split <;> simp_all
  have hold : w.cell? ⟨g, j, none⟩ = some u := by rw [← hadd]; exact hown.cells rfl j u hu
  rcases Nat.eq_zero_or_pos ys.length with h0 | hp
  · obtain rfl : ys = [] := List.eq_nil_of_length_eq_zero h0
    obtain rfl : m = 0 := hm
    have hnew : v'.ownBlock = some g → w'.cell? ⟨g, j, none⟩ = some u := fun h => by
      rw [← hadd]
      exact h2.cells h j u (by simpa using hu)
    rcases A with _ | ad
    · rcases hown.2 with ⟨h, _⟩ | ⟨g', cap', cur, hv, hbg, hg, hnc, hcm, hcs, htake⟩
      · cases h
      · cases hv
        simp [Builtin.append_, run_underlying ht, sizeOf, typeInfo, hi, Builtin.lenOf, Builtin.firstCells, hnc, storeCells] at hrun
        obtain ⟨rfl, rfl⟩ := hrun
        exact hold
    · rcases hown.2 with ⟨h, _⟩ | ⟨g', cap', cur, hv, hbg, hg, hnc, hcm, hcs, htake⟩
      · cases h
      · cases hv
        have hr2 := run_append_room (P := P) w t ty e i ht hi g n cap cur hg ad 0 c [] (by simp) (by simp) (by simp) (by omega) (by rw [hcs, hs]; simpa using hnc)
        rw [hr2] at hrun
        injection hrun with h3 h4
        exact hnew (by rw [← h3]; rfl)
  · obtain ⟨ad, rfl, hcells⟩ := rd_cells hr hp
    have hnl : (ints k ys).length = m * i.size := by rw [ints_length, hs]; omega
    rcases hown.2 with ⟨h, _⟩ | ⟨g', cap', cur, hv, hbg, hg, hnc, hcm, hcs, htake⟩
    · cases h
    · cases hv
      by_cases hroom : n + m ≤ cap
      · have hfit : n * i.size + (ints k ys).length ≤ cur.size := by rw [hnl, hcs, hs, ← Nat.add_mul]; exact Nat.mul_le_mul_right _ hroom
        have hr2 := run_append_room (P := P) w t ty e i ht hi g n cap cur hg ad m c (ints k ys) hnl hcells (ints_one k ys) hroom hfit
        rw [hr2] at hrun
        injection hrun with h3 h4
        rw [← hadd]
        refine h2.cells (by rw [← h3]; rfl) j u ?_
        rw [← ints_append, List.getElem?_append_left (List.getElem?_eq_some_iff.1 hu).1]
        exact hu
      · have hr2 := run_append_grow (P := P) w t ty e i _ ht hi hz ⟨g, 0, none⟩ n cap (ints k xs) (by rw [hs]; exact hown.1) (hown.cells (g := g) rfl) ad m c (ints k ys) hnl hcells (by omega) (by simp only [maxLen] at h63; omega) (growslice_fits (by omega) (by rw [hb]; exact hbytes))
        rw [hr2] at hrun
        injection hrun with h3 h4
        rw [← h4]
        exact (World.cell?_of_block (w := w) (a := ⟨g, j, none⟩) (Below.heap_alloc w.drew _ g (Array.getElem?_eq_some_iff.1 hg).1)).trans hold
theorem step_append_ints {ops : Array Oper} {o : Oper} {a : Act} {K : Act → World → Prop} {Q : Exit → Act → World → Prop} {E : Prop} (hgd : o.guard = none) (s x : Operand) (t : TypeId)
    (ho : o.op = .call { callee := .builtin .append, args := #[s, x], argTypes := #[t, t] })
    (B : Nat) (e : TypeId) (k : IntKind) (bytes : Nat) (ht : P.underlying t = some (.slice e)) (hinfo : (P.info? e).map (fun i => (i.zero, i.size, i.bytes)) = some (some (.int k 0), 1, bytes))
    (v : Value) (n : Nat) (xs : List Nat) (hs : a.eval s = v) (hown : w.ownsRow B e 1 v n (ints k xs)) (A : Option Addr) (m c : Nat) (ys : List Nat) (hx : a.eval x = .slice A m c) (hm : m = ys.length) (hr : Rd k w A ys)
    (h63 : n + m ≤ maxLen) (hbytes : (n + m) * bytes ≤ 140737488355328) (hbase : B ≤ w.heap.size)
    (h : ∀ A' c' w', w'.ownsRow B e 1 (.slice A' (n + m) c') (n + m) (ints k (xs ++ ys)) → w.grownBy w' v.ownBlock → (∀ g cap, v = .slice (some ⟨g, 0, none⟩) n cap → ∀ j u, (ints k xs)[j]? = some u → w'.cell? ⟨g, j, none⟩ = some u) → K (a.put o.dst (.slice A' (n + m) c')) w') :
    if Region.wanted o (yielded ops a.tmps) = true then Oper.wp P o a w K Q else E := by
  have hw : Region.wanted o (yielded ops a.tmps) = true := by simp [Region.wanted, hgd]
  rw [if_pos hw]
  obtain ⟨v', w', hrun, h2, h3, h4⟩ := run_append_ints (P := P) w B t o.type e k bytes ht hinfo v n xs hown A m c ys hm hr h63 hbytes hbase
  have h5 : ∀ g cap, v = .slice (some ⟨g, 0, none⟩) n cap → ∀ j u, (ints k xs)[j]? = some u → w'.cell? ⟨g, j, none⟩ = some u := by
    rintro g cap rfl
    exact run_append_keep B t o.type e k bytes ht hinfo g n cap xs hown A m c ys hm hr h63 hbytes hrun h2
  obtain ⟨A', c', rfl, -⟩ := Own.of_row h2
  unfold Oper.wp execOp
  simp only [ho, resolve, invoke, builtin, Sem.run_bind, Sem.run_pure, Result.andThen_ok, List.map_toArray, List.map_cons, List.map_nil, hs, hx, hrun]
  exact h _ _ _ h2 h3 h5
end
set_option maxRecDepth 100000 in
set_option maxHeartbeats 1600000 in
theorem refSched_any (A : Option Addr) (c : Nat) (b : List Nat) (w : World) (hb : Rd .u8 w A b) (hl : b.length = 64) (lb : Lim 256 b) :
    Calls Try.prog 31 #[.slice A 64 c] w (Gives .u32 (sched b 48) w) := by
  have HL := Lib.hid hl
  obtain ⟨bb, o, rfl, hbw, hcell⟩ : ∃ bb o, A = some ⟨bb, o, none⟩ ∧ bb < w.heap.size ∧ ∀ (i x : Nat), b[i]? = some x → w.cell? ⟨bb, o + i, none⟩ = some (.int .u8 (x : Int)) := by
    obtain ⟨x, hx⟩ := get_of_lt (xs := b) (i := 0) (by omega)
    exact hb.pos hx
  have HC := Lib.hid hcell
  clear hl hb hcell
  go_enter Try.func31, Try.ntmps31
  go_wp2_with fail
  go_loopw [3, 4] (fun s t wr => ∃ (i : Nat) (A : Option Addr) (c : Nat), s = .slice A i c ∧ t = .int .i64 (i : Int) ∧ i ≤ 16 ∧ wr.ownsRow w.heap.size 32 1 (.slice A i c) i (ints .u32 (words b i)) ∧ Below w.heap.size w wr) (fun _ t _ => 16 - (intOf t).toNat)
  case atStart => exact ⟨0, none, 0, rfl, rfl, by omega, World.ownsRow_nil _ _ _ _, Below.refl _ _⟩
  case round =>
    obtain ⟨i, A2, c2, rfl, rfl, hi, hown, hbel⟩ := hrel
    by_cases hlt : i < 16
    · skip
      obtain ⟨k0, hk0⟩ : ∃ k, k = 4 * i := ⟨_, rfl⟩
      obtain ⟨k1, hk1⟩ : ∃ k, k = k0 + 1 := ⟨_, rfl⟩
      obtain ⟨k2, hk2⟩ : ∃ k, k = k0 + 2 := ⟨_, rfl⟩
      obtain ⟨k3, hk3⟩ : ∃ k, k = k0 + 3 := ⟨_, rfl⟩
      obtain ⟨x0, g0⟩ := get_of_lt (xs := b) (i := k0) (by rw [HL.out]; omega)
      obtain ⟨x1, g1⟩ := get_of_lt (xs := b) (i := k1) (by rw [HL.out]; omega)
      obtain ⟨x2, g2⟩ := get_of_lt (xs := b) (i := k2) (by rw [HL.out]; omega)
      obtain ⟨x3, g3⟩ := get_of_lt (xs := b) (i := k3) (by rw [HL.out]; omega)
      have p6 := word_parts2 x0 x1 x2 x3 (lb.get g0) (lb.get g1) (lb.get g2) (lb.get g3)
      have hbe : ((x0 * 256 + x1) * 256 + x2) * 256 + x3 = be32 b k0 := by rw [be32, ← hk1, ← hk2, ← hk3]; simp [List.getD_eq_getElem?_getD, g0, g1, g2, g3]
      rw [hbe] at p6
      have hbnd : be32 b k0 < 4294967296 := be32_lt lb _
      have hws := words_succ b i
      rw [← hk0] at hws
      have HW := Lib.hid hws
      clear hws
      have q0 := (hbel.cell (p := ⟨bb, o + k0, none⟩) hbw).trans (HC.out _ _ g0)
      have q1 := (hbel.cell (p := ⟨bb, o + (k1), none⟩) hbw).trans (HC.out _ _ g1)
      have q2 := (hbel.cell (p := ⟨bb, o + (k2), none⟩) hbw).trans (HC.out _ _ g2)
      have q3 := (hbel.cell (p := ⟨bb, o + (k3), none⟩) hbw).trans (HC.out _ _ g3)
      have b0 := lb.get g0
      have b1 := lb.get g1
      have b2 := lb.get g2
      have b3 := lb.get g3
      have e0 : IntKind.i64.wrap (4 * (i : Int)) = (k0 : Int) := by rw [IntWalk.i64_in _ (by omega)]; omega
      have e1 : IntKind.i64.wrap ((k0 : Int) + 1) = (k1 : Int) := by rw [IntWalk.i64_in _ (by omega)]; omega
      have e2 : IntKind.i64.wrap ((k0 : Int) + 2) = (k2 : Int) := by rw [IntWalk.i64_in _ (by omega)]; omega
      have e3 : IntKind.i64.wrap ((k0 : Int) + 3) = (k3 : Int) := by rw [IntWalk.i64_in _ (by omega)]; omega
      have l0 : (k0 : Int) < 64 := by omega
      have m0 : (0 : Int) ≤ (k0 : Int) := by omega
      have m1 : (0 : Int) ≤ (k1 : Int) := by omega
      have m2 : (0 : Int) ≤ (k2 : Int) := by omega
      have m3 : (0 : Int) ≤ (k3 : Int) := by omega
      have l1 : (k1 : Int) < 64 := by omega
      have l2 : (k2 : Int) < 64 := by omega
      have l3 : (k3 : Int) < 64 := by omega
      clear g0 g1 g2 g3 hbe hk0 hk1 hk2 hk3
      generalize be32 b k0 = r at *
      go_wp2_with fail
      have hS : ∀ w', Below w.heap.size w w' → (w'.cell? ⟨bb, o + k0, none⟩ = some (.int .u8 (x0 : Int)) ∧ w'.cell? ⟨bb, o + k1, none⟩ = some (.int .u8 (x1 : Int)) ∧ w'.cell? ⟨bb, o + k2, none⟩ = some (.int .u8 (x2 : Int)) ∧ w'.cell? ⟨bb, o + k3, none⟩ = some (.int .u8 (x3 : Int))) := fun w' h =>
        ⟨(h.cell (p := ⟨bb, o + k0, none⟩) hbw).trans ((hbel.cell (p := ⟨bb, o + k0, none⟩) hbw).symm.trans q0), (h.cell (p := ⟨bb, o + k1, none⟩) hbw).trans ((hbel.cell (p := ⟨bb, o + k1, none⟩) hbw).symm.trans q1), (h.cell (p := ⟨bb, o + k2, none⟩) hbw).trans ((hbel.cell (p := ⟨bb, o + k2, none⟩) hbw).symm.trans q2), (h.cell (p := ⟨bb, o + k3, none⟩) hbw).trans ((hbel.cell (p := ⟨bb, o + k3, none⟩) hbw).symm.trans q3)⟩
      have hv := Lib.hid p6
      clear p6
      go_region_held3 (fun w' => w'.cell? ⟨bb, o + k0, none⟩ = some (.int .u8 (x0 : Int)) ∧ w'.cell? ⟨bb, o + k1, none⟩ = some (.int .u8 (x1 : Int)) ∧ w'.cell? ⟨bb, o + k2, none⟩ = some (.int .u8 (x2 : Int)) ∧ w'.cell? ⟨bb, o + k3, none⟩ = some (.int .u8 (x3 : Int)))
        (first | go_keep | exact hS _ hbr5)
        ((refine step_append_ints (by rfl) _ _ _ (by rfl) w.heap.size 32 .u32 4 Try.underlying51 info_u32 (.slice A2 i c2) i (words b i) (by rfl) (hown.alloc _) _ 1 1 [r] (by rfl) (by rfl) (Rd.of_all (blk_lit wr [r] _ hv.out)) (by simp only [maxLen]; omega) (by omega) (by have := hbel.size; simp; omega) ?_; intro A5 c5 w5 hown5 hgrow5 hkp5; have hbr5 := below_row hbel hown hgrow5))
      have hown6 : w5.ownsRow w.heap.size 32 1 (.slice A5 (i + 1) c5) (i + 1) (ints .u32 (words b (i + 1))) := by rw [HW.out]; exact hown5
      have hbr5 := below_row hbel hown hgrow5
      clear hS hv HW q0 q1 q2 q3 hown5
      go_wp2_with fail
      go_roundw
      case rel => exact ⟨i + 1, A5, c5, rfl, by go_num, hlt, hown6, hbr5⟩
      case measure => simp [intOf]; omega
    · obtain rfl : i = 16 := by omega
      have hs0 : words b 16 = sched b 0 := rfl
      rw [hs0] at hown
      clear hs0
      go_wp2_with fail
      rw [show ((16 : Nat) : Int) = 16 from rfl]
      go_loopw [3, 5] (fun s t wr => ∃ (i : Nat) (A : Option Addr) (c : Nat), s = .slice A i c ∧ t = .int .i64 (i : Int) ∧ 16 ≤ i ∧ i ≤ 64 ∧ wr.ownsRow w.heap.size 32 1 (.slice A i c) i (ints .u32 (sched b (i - 16))) ∧ Below w.heap.size w wr) (fun _ t _ => 64 - (intOf t).toNat)
      case atStart => exact ⟨16, A2, c2, rfl, rfl, by omega, by omega, hown, hbel⟩
      case round =>
        clear hown hbel
        obtain ⟨i, A3, c3, rfl, rfl, hi1, hi2, hown, hbel⟩ := hrel
        by_cases hlt2 : i < 64
        · obtain ⟨A', c', he, -, -, -, hO⟩ := Own.of_row hown
          injection he with he1 _ he2
          subst he1
          subst he2
          clear hO
          obtain ⟨s, hs⟩ : ∃ s, s = sched b (i - 16) := ⟨_, rfl⟩
          have hsl : s.length = i := by rw [hs, sched_length]; omega
          have hs1 := Lib.hid (show sched b (i + 1 - 16) = s ++ [expand (s.getD (i - 16) 0) (s.getD (i - 15) 0) (s.getD (i - 7) 0) (s.getD (i - 2) 0)] by rw [hs, show i + 1 - 16 = (i - 16) + 1 from by omega, sched, show i - 16 + 1 = i - 15 from by omega, show i - 16 + 9 = i - 7 from by omega, show i - 16 + 14 = i - 2 from by omega])
          have hsb : Lim 4294967296 s := by rw [hs]; exact sched_lim lb _
          rw [← hs] at hown
          clear hs
          have ha := getD_get (s := s) (j := i - 16) (by omega)
          have hxx := getD_get (s := s) (j := i - 15) (by omega)
          have hcc := getD_get (s := s) (j := i - 7) (by omega)
          have hyy := getD_get (s := s) (j := i - 2) (by omega)
          have hla := getD_lt (by decide) hsb (i - 16)
          have hlx := getD_lt (by decide) hsb (i - 15)
          have hlc := getD_lt (by decide) hsb (i - 7)
          have hly := getD_lt (by decide) hsb (i - 2)
          have HS := Lib.hid hsl
          generalize s.getD (i - 16) 0 = va at *
          generalize s.getD (i - 15) 0 = vx at *
          generalize s.getD (i - 7) 0 = vc at *
          generalize s.getD (i - 2) 0 = vy at *
          obtain ⟨b3, cap3, he3⟩ : ∃ b3 cap3, Value.slice A3 i c3 = .slice (some ⟨b3, 0, none⟩) i cap3 := by
            rcases hown.2 with ⟨_, h0⟩ | ⟨g, cap, cur, hv, _⟩
            · omega
            · exact ⟨g, cap, hv⟩
          injection he3 with he3 _ he4
          subst he3
          subst he4
          have hc3 : ∀ (j x : Nat), s[j]? = some x → wr.cell? ⟨b3, j, none⟩ = some (.int .u32 (x : Int)) := fun j x h => by
            have h2 := hown.cells (g := b3) rfl j _ (ints_get h)
            have h3 : (⟨b3, 0, none⟩ : Addr).add j = ⟨b3, j, none⟩ := by unfold Addr.add; split <;> simp_all
            rwa [h3] at h2
          have h1 := hc3 _ _ ha
          have h2 := hc3 _ _ hxx
          have h3 := hc3 _ _ hcc
          have h4 := hc3 _ _ hyy
          have hk1 := Lib.hid (ints_get (k := .u32) ha)
          have hk3 := Lib.hid (ints_get (k := .u32) hcc)
          clear hc3 ha hxx hcc hyy hsl
          go_wp2_with fail
          have hlt80 : (i : Int) < 64 := by omega
          have e8 : IntKind.i64.wrap ((i : Int) - 16) = (i : Int) - 16 := IntWalk.i64_in _ (by omega)
          have e9 : IntKind.i64.wrap ((i : Int) - 7) = (i : Int) - 7 := IntWalk.i64_in _ (by omega)
          have e10 : ((i : Int) - 16).toNat = i - 16 := by omega
          have e11 : ((i : Int) - 7).toNat = i - 7 := by omega
          have i1 : (0 : Int) ≤ (i : Int) - 16 := by omega
          have i2 : (0 : Int) ≤ (i : Int) - 7 := by omega
          have i3 : (i : Int) - 16 < (i : Int) := by omega
          have i4 : (i : Int) - 7 < (i : Int) := by omega
          have i5 : (16 : Int) ≤ (i : Int) := by omega
          have i6 : (7 : Int) ≤ (i : Int) := by omega
          clear h2 h4
          have hv := Lib.hid (expand_form va vx vc vy hlx hly)
          go_region_held3 (fun w' => w'.cell? ⟨b3, i - 16, none⟩ = some (.int .u32 (va : Int)) ∧ w'.cell? ⟨b3, i - 7, none⟩ = some (.int .u32 (vc : Int)))
            (first | go_keep | exact ⟨hkp5 b3 c3 rfl _ _ hk1.out, hkp5 b3 c3 rfl _ _ hk3.out⟩)
            (first
              | (go_at_call 32; (with_reducible refine (refRight_7 vx _ hlx).mono ?_); rintro e w' ⟨rfl, rfl⟩)
              | (go_at_call 32; (with_reducible refine (refRight_18 vx _ hlx).mono ?_); rintro e w' ⟨rfl, rfl⟩)
              | (go_at_call 32; (with_reducible refine (refRight_17 vy _ hly).mono ?_); rintro e w' ⟨rfl, rfl⟩)
              | (go_at_call 32; (with_reducible refine (refRight_19 vy _ hly).mono ?_); rintro e w' ⟨rfl, rfl⟩)
              | (refine step_append_ints (by rfl) _ _ _ (by rfl) w.heap.size 32 .u32 4 Try.underlying51 info_u32 (.slice (some ⟨b3, 0, none⟩) i c3) i s (by rfl) (hown.alloc _) _ 1 1 [expand va vx vc vy] (by rfl) (by rfl) (Rd.of_all (blk_lit wr [expand va vx vc vy] _ hv.out)) (by simp only [maxLen]; omega) (by omega) (by have := hbel.size; simp; omega) ?_; intro A5 c5 w5 hown5 hgrow5 hkp5; have hbr5 := below_row hbel hown hgrow5))
          have hown6 : w5.ownsRow w.heap.size 32 1 (.slice A5 (i + 1) c5) (i + 1) (ints .u32 (sched b (i + 1 - 16))) := by rw [hs1.out]; exact hown5
          have hbr5 := below_row hbel hown hgrow5
          clear hkp5 hv hown5 hk1 hk3 h1 h3 e8 e9 e10 e11 i1 i2 i3 i4 i5 i6
          go_wp2_with fail
          go_roundw
          case rel => exact ⟨i + 1, A5, c5, rfl, by go_num, by omega, by omega, hown6, hbr5⟩
          case measure => simp [intOf]; omega
        · obtain rfl : i = 64 := by omega
          obtain ⟨A', c', he, -, hle, hcm, hO⟩ := Own.of_row hown
          injection he with he1 _ he2
          subst he1
          subst he2
          have hml := Lib.hid (sched_length b 48)
          go_wp2_with fail
          go_ret
          exact ⟨A3, c3, by rw [hml.out]; rfl, by rw [hml.out]; exact hle, hcm, hO, hbel⟩
end Go.Proofs.Ytmbkehmgpcmicaa
