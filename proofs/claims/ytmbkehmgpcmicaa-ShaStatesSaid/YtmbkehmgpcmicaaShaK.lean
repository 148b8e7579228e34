/-
  sha.Sum, sha.Same, no state, and the anchor of the statements (works).
-/
import Derived.Test.YtmbkehmgpcmicaaShaJ
import Derived.ChangeKeysEq
namespace Go.Proofs.Ytmbkehmgpcmicaa
set_option linter.unusedVariables false
set_option linter.unusedSimpArgs false
open Go.RowKit

/-! ### Arrays of 32 bytes that are the same -/
theorem eqItems_same (xs : List Nat) (w : World) : ∀ is : List Nat, (∀ i ∈ is, i < xs.length) → (Op.eqItems 9999 5 (Try.prog.cellsOf 5) (ints .u8 xs).toArray (ints .u8 xs).toArray is).run Try.prog w = .ok true w
  | [], _ => by simp [Op.eqItems]
  | i :: is, h => by
    have hi := h i (by simp)
    have ih := eqItems_same xs w is (fun j hj => h j (by simp [hj]))
    have hc : Try.prog.cellsOf 5 = 1 := by kernel_rfl
    have h4 : ∀ w, (isAgg 5).run Try.prog w = .ok false w := fun w => by kernel_rfl
    have h5 := ints_get (k := .u8) (List.getElem?_eq_getElem hi)
    have hp : (Go.part 5 (ints .u8 xs).toArray (i * Try.prog.cellsOf 5)).run Try.prog w = .ok (.int .u8 (xs[i] : Int)) w := by
      rw [hc, Nat.mul_one]
      simp [Go.part, Sem.run_bind, h4, Result.andThen, h5]
    have he : (Op.equalIn 9999 5 (.int .u8 (xs[i] : Int)) (.int .u8 (xs[i] : Int))).run Try.prog w = .ok true w := by
      have := run_equalIn_int (P := Try.prog) (w := w) 9998 5 .u8 .u8 (xs[i] : Int) (xs[i] : Int) Try.underlying5
      rw [this]
      simp
    simp only [Op.eqItems, Sem.run_bind, hp, he, Result.andThen_ok]
    simpa using ih
theorem eql_same (xs : List Nat) (hl : xs.length = 32) (w : World) : (binOp .eql 25 (.agg (ints .u8 xs).toArray) (.agg (ints .u8 xs).toArray)).run Try.prog w = .ok (.bool true) w := by
  obtain ⟨i, hi⟩ : ∃ i, Try.prog.info? 5 = some i := info_of_underlying Try.underlying5
  have h := run_equalIn_array (P := Try.prog) (w := w) 9999 (ints .u8 xs).toArray (ints .u8 xs).toArray Try.underlying25 hi
  rw [eqItems_same xs w _ (fun j hj => by rw [hl]; simpa using hj)] at h
  rw [run_eql_struct, h]
  rfl
theorem neq_same (xs : List Nat) (hl : xs.length = 32) (w : World) : (binOp .neq 25 (.agg (ints .u8 xs).toArray) (.agg (ints .u8 xs).toArray)).run Try.prog w = .ok (.bool false) w := by
  obtain ⟨i, hi⟩ : ∃ i, Try.prog.info? 5 = some i := info_of_underlying Try.underlying5
  have h := run_equalIn_array (P := Try.prog) (w := w) 9999 (ints .u8 xs).toArray (ints .u8 xs).toArray Try.underlying25 hi
  rw [eqItems_same xs w _ (fun j hj => by rw [hl]; simpa using hj)] at h
  rw [run_neq_struct, h]
  rfl

/-! ### sha.Sum -/
set_option maxRecDepth 100000 in
set_option maxHeartbeats 800000 in
theorem shaSum_any (A : Option Addr) (n c : Nat) (b : List Nat) (w : World) (hn : n = b.length) (hl : n ≤ 1099511627776) (hb : Rd .u8 w A b) (lb : Lim 256 b) :
    Calls Try.prog 14 #[.slice A n c] w (GivesArr .u8 (digest b) w) := by
  subst hn
  obtain ⟨D, hD⟩ : ∃ D, D = digest b := ⟨_, rfl⟩
  have hDl := Lib.hid (show D.length = 32 by rw [hD]; exact digest_length b)
  rw [← hD]
  have HD := Lib.hid hD
  clear hD
  go_enter Try.func14, Try.ntmps14
  go_wp2_with fail
  have hw2 : Whl .u8 25 (w.alloc (.cells (ints .u8 (List.replicate 32 0)).toArray 25)) w.heap.size (List.replicate 32 0) := whl_new0 w _
  have hba : Below w.heap.size w (w.alloc (.cells (ints .u8 (List.replicate 32 0)).toArray 25)) := (Below.refl _ _).alloc (Nat.le_refl _) _
  change Calls _ _ _ (w.alloc (.cells (ints .u8 (List.replicate 32 0)).toArray 25)) _
  generalize w.alloc (.cells (ints .u8 (List.replicate 32 0)).toArray 25) = wa at *
  refine (new_any _).mono ?_
  have hltw := hw2.lt
  rintro e w1 ⟨g, v, rfl, hg, rfl, hM, hb1⟩
  replace hw2 := hw2.below hb1
  have hwg : w.heap.size < g := Nat.lt_of_lt_of_le hltw hg
  have hra : Rd .u8 w1 A b := (hb.below hba).below hb1
  have hbel : Below w.heap.size w w1 := hba.trans (hb1.mono hba.size)
  clear hba hb1
  go_wp2_with fail
  refine (write_any g (.slice none 0 0) A b.length c [] b 0 _ (.inl hM) rfl hra lb (Off.new hb (by omega)) (by simp; omega)).mono ?_
  rintro e w2 ⟨rfl, v2, hM2, hbut, _⟩
  replace hw2 := hw2.keep (hbut.2.2.2.2 _ hw2.lt (by
    rintro (h | h)
    · omega
    · cases h))
  have hbel2 : Below w.heap.size w w2 := But.below hbel hbut hbel.size (by
    intro k hk
    rcases hk with rfl | hk
    · omega
    · cases hk)
  rw [List.nil_append, Nat.zero_add] at hM2
  clear hM hbut hra hbel
  go_wp2_with fail
  refine (stateSum_any g v2 b _ (.inl hM2) hl).mono ?_
  rintro e w3 ⟨he, hM3, hg3⟩
  rw [← HD.out] at he
  subst he
  replace hw2 := hw2.grown hg3 (by simp; omega)
  have hbel3 := below_only hbel2 hg3 hbel2.size (by omega)
  clear hM2 hM3 hg3 hbel2
  go_wp2_with (refine wpList_store_whl rfl 25 (.tmp 2) (.tmp 9) rfl w.heap.size .u8 _ (List.replicate 32 0) D rfl rfl hw2 hDl.out size_32u8 ?_; intro w7 hw7 hg7 hs7)
  exact bodyPost_ret (v := .agg (ints .u8 D).toArray) (results_whl rfl _ _ w.heap.size .u8 _ D _ rfl hw7 Try.underlying25 rfl (by rw [hDl.out]; exact size_32u8)) rfl ⟨by rw [HD.out], below_only hbel3 hg7 hbel3.size (Nat.le_refl _)⟩

/-! ### No state -/
def Done (w : World) (e : Ending) (w' : World) : Prop := e = .returned (.tuple #[]) ∧ w = w'
theorem writeNil_any (b : Value) (w : World) : Calls Try.prog 20 #[.pointer none, b] w (Done w) := by
  go_enter Try.func20, Try.ntmps20
  go_wp2_with fail
  exact bodyPost_ret (results_none rfl _ _ _) rfl ⟨rfl, rfl⟩
set_option maxRecDepth 100000 in
theorem sumNil_any (w : World) : Calls Try.prog 18 #[.pointer none] w (GivesArr .u8 (List.replicate 32 0) w) := by
  go_enter Try.func18, Try.ntmps18
  go_wp2_with (first | (refine wpList_load_whl rfl 25 (.tmp 2) rfl w.heap.size rfl .u8 25 (List.replicate 32 0) (whl_new _ _ _ rfl) _ Try.underlying25 rfl size_32u8 ?_) | (refine wpList_store_whl rfl 25 (.tmp 2) (.tmp 9) rfl w.heap.size .u8 25 (List.replicate 32 0) (List.replicate 32 0) rfl rfl (whl_new _ _ _ rfl) rfl size_32u8 ?_; intro w7 hw7 hg7 hs7))
  exact bodyPost_ret (v := .agg (ints .u8 (List.replicate 32 0)).toArray) (results_whl rfl _ _ w.heap.size .u8 _ (List.replicate 32 0) _ rfl hw7 Try.underlying25 rfl size_32u8) rfl ⟨rfl, below_only ((Below.refl _ _).alloc (Nat.le_refl _) _) hg7 (by simp) (Nat.le_refl _)⟩

/-! ### sha.Same -/
theorem or_zero {u v : Nat} : (u ||| v = 0) ↔ u = 0 ∧ v = 0 := Nat.or_eq_zero_iff
theorem xor_zero {x y : Nat} : (x ^^^ y = 0) ↔ x = y := by
  constructor
  · intro h
    have : x ^^^ (x ^^^ y) = x ^^^ 0 := by rw [h]
    rw [← Nat.xor_assoc, Nat.xor_self, Nat.zero_xor, Nat.xor_zero] at this
    exact this.symm
  · rintro rfl
    exact Nat.xor_self x
set_option maxHeartbeats 800000 in
theorem shaSame_le (A B : Option Addr) (n m c d : Nat) (xs ys : List Nat) (w : World) (hn : n = xs.length) (hm : m = ys.length) (hl : n ≤ 1099511627776) (hl' : m ≤ 1099511627776) (hx : Rd .u8 w A xs) (hy : Rd .u8 w B ys) (lx : Lim 256 xs) (ly : Lim 256 ys) (hle : xs.length ≤ ys.length) :
    Calls Try.prog 22 #[.slice A n c, .slice B m d] w (Quiet (.bool (decide (xs = ys))) w) := by
  subst hn
  subst hm
  go_enter Try.func22, Try.ntmps22
  go_wp2_with fail
  go_loopw [5, 12] (fun u s wr => ∃ k q v : Nat, u = .int .u8 (v : Int) ∧ s = .int .i64 (k : Int) ∧ k ≤ xs.length ∧ v < 256 ∧ Hid (v = 0 ↔ xs.take k = ys.take k) ∧ wr = w.drewN q) (fun u s _ => xs.length - (intOf s).toNat)
  case atStart => exact ⟨0, 0, 0, rfl, rfl, Nat.zero_le _, by decide, by simp [Hid], rfl⟩
  case round =>
    obtain ⟨k, q, v, rfl, rfl, hk, hv, h0, rfl⟩ := hrel
    by_cases hlt : k < xs.length
    · obtain ⟨x, hgx⟩ := get_of_lt (xs := xs) (i := k) (by omega)
      obtain ⟨y, hgy⟩ := get_of_lt (xs := ys) (i := k) (by omega)
      obtain ⟨b, o, hA, _, hcx⟩ := hx.pos hgx
      obtain ⟨b2, o2, hB, _, hcy⟩ := hy.pos hgy
      have q1 : w.cell? ⟨b, o + k, none⟩ = some (.int .u8 (x : Int)) := hcx _ _ hgx
      have q2 : w.cell? ⟨b2, o2 + k, none⟩ = some (.int .u8 (y : Int)) := hcy _ _ hgy
      have f1 := u8_xor_nat x y (lx.get hgx) (ly.get hgy)
      have f2 := u8_or_nat v (x ^^^ y) hv (Nat.xor_lt_two_pow (n := 8) (lx.get hgx) (ly.get hgy))
      have hv2 : v ||| (x ^^^ y) < 256 := Nat.or_lt_two_pow (n := 8) hv (Nat.xor_lt_two_pow (n := 8) (lx.get hgx) (ly.get hgy))
      have HN := Lib.hid (show (v ||| (x ^^^ y)) = 0 ↔ xs.take (k + 1) = ys.take (k + 1) by
        rw [or_zero, xor_zero, h0.out, List.take_add_one, List.take_add_one, hgx, hgy]
        constructor
        · rintro ⟨h1, rfl⟩; rw [h1]
        · intro h
          have := List.append_inj' h rfl
          exact ⟨this.1, by simpa using this.2⟩)
      have hk1 : k < xs.length := by omega
      have hk2 : k < ys.length := by omega
      generalize v ||| (x ^^^ y) = z at *
      generalize x ^^^ y = t at *
      subst hA
      subst hB
      clear hgx hgy hcx hcy
      go_wp2_with fail
      go_quiet (fail)
      go_wp2_with fail
      go_roundw
      case rel => exact ⟨k + 1, q + nq, z, rfl, by go_num, by omega, hv2, HN, rfl⟩
      case measure => simp [intOf] <;> omega
    · obtain rfl : k = xs.length := by omega
      have hres := Lib.hid (show (v = 0 ∧ xs.length = ys.length) ↔ xs = ys by
        rw [h0.out]
        constructor
        · rintro ⟨h1, h2⟩
          rwa [List.take_of_length_le (by omega), List.take_of_length_le (by omega)] at h1
        · rintro rfl
          exact ⟨rfl, rfl⟩)
      by_cases hv0 : v = 0
      · have hz : ((v : Int) == 0) = true := by simp [hv0]
        have hz2 := Lib.hid hv0
        clear hv0
        go_wp2_with fail
        go_ret
        exact Quiet.mk (congrArg Value.bool (show ((xs.length : Int) == (ys.length : Int)) = decide (xs = ys) by rw [Bool.eq_iff_iff]; simp only [beq_iff_eq, decide_eq_true_eq]; rw [← hres.out]; have := hz2.out; omega)) _
      · have hz : ((v : Int) == 0) = false := by simp; omega
        have hz2 := Lib.hid hv0
        clear hv0
        go_wp2_with fail
        go_ret
        exact Quiet.mk (congrArg Value.bool (show false = decide (xs = ys) by rw [Bool.eq_iff_iff, decide_eq_true_eq, ← hres.out]; have := hz2.out; simp [this])) _
set_option maxHeartbeats 800000 in
theorem shaSame_gt (A B : Option Addr) (n m c d : Nat) (xs ys : List Nat) (w : World) (hn : n = xs.length) (hm : m = ys.length) (hl : n ≤ 1099511627776) (hl' : m ≤ 1099511627776) (hx : Rd .u8 w A xs) (hy : Rd .u8 w B ys) (lx : Lim 256 xs) (ly : Lim 256 ys) (hle : ys.length < xs.length) :
    Calls Try.prog 22 #[.slice A n c, .slice B m d] w (Quiet (.bool (decide (xs = ys))) w) := by
  subst hn
  subst hm
  go_enter Try.func22, Try.ntmps22
  go_wp2_with fail
  go_loopw [5, 12] (fun u s wr => ∃ k q v : Nat, u = .int .u8 (v : Int) ∧ s = .int .i64 (k : Int) ∧ k ≤ ys.length ∧ v < 256 ∧ Hid (v = 0 ↔ xs.take k = ys.take k) ∧ wr = w.drewN q) (fun u s _ => ys.length - (intOf s).toNat)
  case atStart => exact ⟨0, 0, 0, rfl, rfl, Nat.zero_le _, by decide, by simp [Hid], rfl⟩
  case round =>
    obtain ⟨k, q, v, rfl, rfl, hk, hv, h0, rfl⟩ := hrel
    by_cases hlt : k < ys.length
    · obtain ⟨x, hgx⟩ := get_of_lt (xs := xs) (i := k) (by omega)
      obtain ⟨y, hgy⟩ := get_of_lt (xs := ys) (i := k) (by omega)
      obtain ⟨b, o, hA, _, hcx⟩ := hx.pos hgx
      obtain ⟨b2, o2, hB, _, hcy⟩ := hy.pos hgy
      have q1 : w.cell? ⟨b, o + k, none⟩ = some (.int .u8 (x : Int)) := hcx _ _ hgx
      have q2 : w.cell? ⟨b2, o2 + k, none⟩ = some (.int .u8 (y : Int)) := hcy _ _ hgy
      have f1 := u8_xor_nat x y (lx.get hgx) (ly.get hgy)
      have f2 := u8_or_nat v (x ^^^ y) hv (Nat.xor_lt_two_pow (n := 8) (lx.get hgx) (ly.get hgy))
      have hv2 : v ||| (x ^^^ y) < 256 := Nat.or_lt_two_pow (n := 8) hv (Nat.xor_lt_two_pow (n := 8) (lx.get hgx) (ly.get hgy))
      have HN := Lib.hid (show (v ||| (x ^^^ y)) = 0 ↔ xs.take (k + 1) = ys.take (k + 1) by
        rw [or_zero, xor_zero, h0.out, List.take_add_one, List.take_add_one, hgx, hgy]
        constructor
        · rintro ⟨h1, rfl⟩; rw [h1]
        · intro h
          have := List.append_inj' h rfl
          exact ⟨this.1, by simpa using this.2⟩)
      have hk1 : k < xs.length := by omega
      have hk2 : k < ys.length := by omega
      generalize v ||| (x ^^^ y) = z at *
      generalize x ^^^ y = t at *
      subst hA
      subst hB
      clear hgx hgy hcx hcy
      go_wp2_with fail
      go_quiet (fail)
      go_wp2_with fail
      go_roundw
      case rel => exact ⟨k + 1, q + nq, z, rfl, by go_num, by omega, hv2, HN, rfl⟩
      case measure => simp [intOf] <;> omega
    · obtain rfl : k = ys.length := by omega
      have hres := Lib.hid (show (v = 0 ∧ xs.length = ys.length) ↔ xs = ys by
        rw [h0.out]
        constructor
        · rintro ⟨h1, h2⟩
          rwa [List.take_of_length_le (by omega), List.take_of_length_le (by omega)] at h1
        · rintro rfl
          exact ⟨rfl, rfl⟩)
      by_cases hv0 : v = 0
      · have hz : ((v : Int) == 0) = true := by simp [hv0]
        have hz2 := Lib.hid hv0
        clear hv0
        go_wp2_with fail
        go_ret
        exact Quiet.mk (congrArg Value.bool (show ((xs.length : Int) == (ys.length : Int)) = decide (xs = ys) by rw [Bool.eq_iff_iff]; simp only [beq_iff_eq, decide_eq_true_eq]; rw [← hres.out]; have := hz2.out; omega)) _
      · have hz : ((v : Int) == 0) = false := by simp; omega
        have hz2 := Lib.hid hv0
        clear hv0
        go_wp2_with fail
        go_ret
        exact Quiet.mk (congrArg Value.bool (show false = decide (xs = ys) by rw [Bool.eq_iff_iff, decide_eq_true_eq, ← hres.out]; have := hz2.out; simp [this])) _
theorem shaSame_any (A B : Option Addr) (n m c d : Nat) (xs ys : List Nat) (w : World) (hn : n = xs.length) (hm : m = ys.length) (hl : n ≤ 1099511627776) (hl' : m ≤ 1099511627776) (hx : Rd .u8 w A xs) (hy : Rd .u8 w B ys) (lx : Lim 256 xs) (ly : Lim 256 ys) :
    Calls Try.prog 22 #[.slice A n c, .slice B m d] w (Quiet (.bool (decide (xs = ys))) w) := by
  rcases Nat.lt_or_ge ys.length xs.length with h | h
  · exact shaSame_gt A B n m c d xs ys w hn hm hl hl' hx hy lx ly h
  · exact shaSame_le A B n m c d xs ys w hn hm hl hl' hx hy lx ly h
end Go.Proofs.Ytmbkehmgpcmicaa
