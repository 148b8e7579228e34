/-
  The program's first 64 primes: primes, with slices.ContainsFunc and IndexFunc over its closure.
-/
import Derived.Test.YtmbkehmgpcmicaaShaA
import Derived.Test.YtmbkehmgpcmicaaArr
namespace Go.Proofs.Ytmbkehmgpcmicaa
set_option linter.unusedVariables false
set_option linter.unusedSimpArgs false
open Go.RowKit

theorem info_u64 : (Try.prog.info? 35).map (fun i => (i.zero, i.size, i.bytes)) = some (some (.int .u64 0), 1, 8) := by kernel_rfl
theorem size_64u64 : (Try.prog.info? 60).map (·.size) = some 64 := by kernel_rfl

theorem divFn_any (p q b : Nat) (w : World) (hb : Box w b (.int .u64 (p : Int))) (hp : p < 65536) (hq : q < 65536) (hq0 : 1 ≤ q) :
    Calls Try.prog 41 #[.int .u64 (q : Int), .pointer (some ⟨b, 0, none⟩)] w (RetB (p % q == 0) w) := by
  obtain ⟨x1, x2, x3⟩ := hb
  have hz : ((q : Int) == 0) = false := by simp; omega
  have hm : ((p : Int) % (q : Int)) = ((p % q : Nat) : Int) := by simp
  have hml : p % q < q := Nat.mod_lt _ hq0
  generalize p % q = r at *
  go_enter Try.func41, Try.ntmps41
  go_wp2_with fail
  go_ret
  exact ⟨ret_bool (by rw [Bool.eq_iff_iff]; simp), rfl⟩

def AnyPost (b : Bool) (w : World) (e : Ending) (w' : World) : Prop := ∃ n : Int, e = .returned (.int .i64 n) ∧ Hid ((0 ≤ n ∧ n < 65536) ∧ b = true ∨ n = -1 ∧ b = false) ∧ w = w'
set_option maxHeartbeats 400000 in
theorem index_any (A : Option Addr) (n c : Nat) (xs : List Nat) (p b : Nat) (w : World) (hb : Box w b (.int .u64 (p : Int))) (hp : p < 65536) (hn : n = xs.length) (hl : n ≤ 64) (hx : Rd .u64 w A xs) (h1 : ∀ q ∈ xs, 1 ≤ q ∧ q < 65536) :
    Calls Try.prog 47 #[.slice A n c, .func (.func 41) #[] #[.pointer (some ⟨b, 0, none⟩)]] w (AnyPost (xs.any (fun q => p % q == 0)) w) := by
  subst hn
  have H1 := Lib.hid h1
  clear h1
  go_enter Try.func47, Try.ntmps47
  go_wp2_with fail
  go_loop [8] (fun t => ∃ k : Nat, t = .int .i64 (k : Int) ∧ k ≤ xs.length ∧ Hid ((xs.take k).any (fun q => p % q == 0) = false)) (fun t => xs.length - (intOf t).toNat)
  case atStart => exact ⟨0, rfl, Nat.zero_le _, by simp [Hid]⟩
  case round =>
    obtain ⟨k, rfl, hk, h0⟩ := hrel
    by_cases hlt : k < xs.length
    · obtain ⟨x, hgx⟩ := get_of_lt hlt
      obtain ⟨bb, o, rfl, hbw, hc⟩ := hx.pos hgx
      have hcell := hc _ x hgx
      obtain ⟨hq1, hq2⟩ := H1.out x (List.mem_of_getElem? hgx)
      have HT := Lib.hid (show xs.take (k + 1) = xs.take k ++ [x] by rw [List.take_add_one, hgx]; rfl)
      have HG := Lib.hid hgx
      clear hc hgx
      cases hF : (p % x == 0) with
      | true =>
        have HF := Lib.hid hF
        clear hF
        go_wp2_with fail
        refine (divFn_any p x b _ hb hp hq2 hq1).mono ?_
        rw [HF.out]
        rintro e w' ⟨rfl, rfl⟩
        go_wp2_with fail
        go_ret
        exact ⟨_, rfl, .inl ⟨by omega, List.any_eq_true.2 ⟨x, List.mem_of_getElem? HG.out, HF.out⟩⟩, rfl⟩
      | false =>
        have HF := Lib.hid hF
        clear hF
        go_wp2_with fail
        refine (divFn_any p x b _ hb hp hq2 hq1).mono ?_
        rw [HF.out]
        rintro e w' ⟨rfl, rfl⟩
        go_wp2_with fail
        go_round
        case rel => exact ⟨k + 1, by go_num, by omega, by rw [HT.out, List.any_append, h0.out]; show (_ || _) = false; simp [HF.out]⟩
        case measure => simp [intOf]; omega
    · obtain rfl : k = xs.length := by omega
      go_wp2_with fail
      go_ret
      exact ⟨_, rfl, .inr ⟨rfl, by rw [← h0.out, List.take_length]⟩, rfl⟩
theorem contains_any (A : Option Addr) (n c : Nat) (xs : List Nat) (p b : Nat) (w : World) (hb : Box w b (.int .u64 (p : Int))) (hp : p < 65536) (hn : n = xs.length) (hl : n ≤ 64) (hx : Rd .u64 w A xs) (h1 : ∀ q ∈ xs, 1 ≤ q ∧ q < 65536) :
    Calls Try.prog 40 #[.slice A n c, .func (.func 41) #[] #[.pointer (some ⟨b, 0, none⟩)]] w (RetB (xs.any (fun q => p % q == 0)) w) := by
  have h := index_any A n c xs p b w hb hp hn hl hx h1
  generalize xs.any (fun q => p % q == 0) = r at *
  clear hn h1
  go_enter Try.func40, Try.ntmps40
  go_wp2_with fail
  refine h.mono ?_
  rintro e w' ⟨m, rfl, hm, rfl⟩
  rcases hm.out with ⟨⟨h2, h3⟩, rfl⟩ | ⟨rfl, rfl⟩
  · go_wp2_with fail
    go_ret
    exact ⟨ret_bool (by simp [h2]), rfl⟩
  · go_wp2_with fail
    go_ret
    exact ⟨ret_bool (by simp), rfl⟩

/-! ### primes -/
theorem slice_64 (w : World) (a : Addr) (n : Nat) (h : n ≤ 64) : (Instr.sliceAt 60 (.pointer (some a)) none (some (.int .i64 (n : Int))) none).run Try.prog w = .ok (.slice (some a) n 64) w := by
  have h1 : Try.prog.arrayLen 60 = 64 := by kernel_rfl
  have h2 : Try.prog.underlying 60 = some (.array (Try.prog.arrayLen 60) (Try.prog.elem 60)) := by kernel_rfl
  have h3 : ∀ w, (sizeOf (Try.prog.elem 60)).run Try.prog w = .ok 1 w := fun w => by kernel_rfl
  rw [run_sliceAt_array_h w _ a h2 .i64 n (by omega) (by rw [h1]; omega), h3, h1]
  simp [Result.andThen, slicedAt, Addr.add]
def pad (n : Nat) (l : List Nat) : List Nat := l ++ List.replicate (n - l.length) 0
theorem pad_length {n : Nat} {l : List Nat} (h : l.length ≤ n) : (pad n l).length = n := by simp [pad]; omega
theorem pad_take {n : Nat} {l : List Nat} : (pad n l).take l.length = l := by simp [pad]
theorem pad_at {n : Nat} {l : List Nat} (h : l.length < n) : (pad n l)[l.length]? = some 0 := by
  rw [pad, List.getElem?_append_right (Nat.le_refl _), Nat.sub_self, List.getElem?_replicate, if_pos (by omega)]
theorem pad_set {n : Nat} {l : List Nat} (h : l.length < n) (x : Nat) : (pad n l).set l.length x = pad n (l ++ [x]) := by
  rw [pad, pad, List.set_append_right _ _ (Nat.le_refl _), Nat.sub_self]
  obtain ⟨m, hm⟩ : ∃ m, n - l.length = m + 1 := ⟨n - l.length - 1, by omega⟩
  have h2 : n - (l ++ [x]).length = m := by simp; omega
  rw [hm, h2, List.replicate_succ]
  simp
theorem pad_full {n : Nat} {l : List Nat} (h : l.length = n) : pad n l = l := by simp [pad, h]
theorem primeRun_yes {k : Nat} {b : Bool} (h : (primeRun k).any (fun q => (k + 2) % q == 0) = b) : primeRun (k + 1) = if b then primeRun k else primeRun k ++ [k + 2] := by
  rw [primeRun, h]

theorem box_next (wr : World) (b k : Nat) (t : TypeId) (h : wr.heap.size = b + 1 + (k + 1)) : Box (wr.alloc (.cells #[.int .u64 ((k : Int) + 2 + 1)] t)) (b + 1 + (k + 1)) (.int .u64 ((k + 1 + 2 : Nat) : Int)) := by
  have h2 := Box.new wr (.int .u64 ((k + 1 + 2 : Nat) : Int)) t
  rw [h] at h2
  have e : ((k : Int) + 2 + 1) = ((k + 1 + 2 : Nat) : Int) := by omega
  rw [e]
  exact h2
set_option maxRecDepth 100000 in
set_option maxHeartbeats 800000 in
theorem primes_any (w : World) : Calls Try.prog 33 #[] w (GivesArr .u64 P64 w) := by
  go_enter Try.func33, Try.ntmps33
  go_wp2_with fail
  go_loopw [1, 2] (fun t u wr => ∃ k n : Nat, Hid (n = (primeRun k).length) ∧ t = .int .i64 (n : Int) ∧ u = .pointer (some ⟨w.heap.size + 1 + k, 0, none⟩) ∧ k ≤ 310 ∧ n ≤ 64 ∧ wr.heap.size = w.heap.size + 2 + k ∧ Whl .u64 60 wr w.heap.size (pad 64 (primeRun k)) ∧ Box wr (w.heap.size + 1 + k) (.int .u64 ((k + 2 : Nat) : Int)) ∧ Below w.heap.size w wr) (fun t u wr => w.heap.size + 313 - wr.heap.size)
  case atStart =>
    refine ⟨0, 0, rfl, rfl, rfl, Nat.zero_le _, Nat.zero_le _, by simp, ?_, ?_, ((Below.refl _ _).alloc (Nat.le_refl _) _).alloc (by simp) _⟩
    · exact (whl_new w (pad 64 []) _ rfl).alloc _
    · have h := Box.new (w.alloc (.cells (ints .u64 (pad 64 [])).toArray 60)) (.int .u64 2) 35
      rw [World.size_alloc] at h
      exact h
  case round =>
    obtain ⟨k, n, hn, rfl, rfl, hk, hn64, hsz, hw, hb, hbel⟩ := hrel
    have HSZ := Lib.hid hsz
    have hgw : w.heap.size < wr.heap.size := by omega
    clear hsz
    by_cases hlt : n < 64
    · have hsl := fun w' => slice_64 w' ⟨w.heap.size, 0, none⟩ n hn64
      have hk2 : k < 310 := by
        rcases Nat.lt_or_ge k 310 with h | h
        · exact h
        · obtain rfl : k = 310 := by omega
          have h2 := hn.out
          rw [primeRun_310] at h2
          simp [P64] at h2
          omega
      have hrd : Rd .u64 wr (some ⟨w.heap.size, 0, none⟩) (primeRun k) := by
        have h := Rd.of_all (hw.blk.take (primeRun k).length)
        rwa [pad_take] at h
      obtain ⟨x1, x2, x3⟩ := hb
      have hnew := Box.new wr (.int .u64 ((k + 2 : Nat) : Int)) 35
      have hbd : ∀ q ∈ primeRun k, 1 ≤ q ∧ q < 65536 := fun q hq => by have := primeRun_bd k q hq; omega
      have HBD := Lib.hid hbd
      clear hbd hnew
      have hcon := fun (c : Nat) => contains_any (some ⟨w.heap.size, 0, none⟩) n c (primeRun k) (k + 2) (w.heap.size + 1 + k) wr ⟨x1, x2, x3⟩ (by omega) hn.out (by omega) hrd HBD.out
      cases hF : (primeRun k).any (fun q => (k + 2) % q == 0) with
      | true =>
        have HP := Lib.hid (primeRun_yes hF)
        rw [hF] at hcon
        have HC := Lib.hid hcon
        clear hF hcon
        go_wp2_with fail
        refine (HC.out _).mono ?_
        rintro e w' ⟨rfl, rfl⟩
        go_wp2_with fail
        go_roundw
        case rel =>
          refine ⟨k + 1, n, by rw [HP.out]; exact hn.out, rfl, ?_, by omega, hn64, ?_, ?_, ?_, ?_⟩
          · rw [show wr.heap.size = w.heap.size + 1 + (k + 1) from by have := HSZ.out; omega]
          · simp; have := HSZ.out; omega
          · rw [HP.out]; exact hw.alloc _
          · exact box_next wr _ k _ (by have := HSZ.out; omega)
          · exact hbel.alloc hbel.size _
        case measure => simp; have := HSZ.out; omega
      | false =>
        have HP := Lib.hid (primeRun_yes hF)
        rw [hF] at hcon
        have HC := Lib.hid hcon
        have hcz := hw.blk.cell (i := n) (x := 0) (by rw [hn.out]; exact pad_at (by rw [← hn.out]; exact hlt))
        have hfz := hw.blk.frozen (i := n) (x := 0) (by rw [hn.out]; exact pad_at (by rw [← hn.out]; exact hlt))
        clear hF hcon
        go_wp2_with fail
        refine (HC.out _).mono ?_
        rintro e w' ⟨rfl, rfl⟩
        go_wp2_with fail
        go_roundw
        case rel =>
          refine ⟨k + 1, n + 1, by show n + 1 = (primeRun (k + 1)).length; rw [HP.out]; simp; exact hn.out, by go_num, ?_, by omega, hlt, ?_, ?_, ?_, ?_⟩
          · rw [show wr.heap.size = w.heap.size + 1 + (k + 1) from by have := HSZ.out; omega]
          · simp; have := HSZ.out; omega
          · rw [HP.out]
            have h := hw.set n (k + 2)
            rw [hn.out, pad_set (by rw [← hn.out]; exact hlt), ← hn.out] at h
            exact h.alloc _
          · exact box_next (wr.setCell ⟨w.heap.size, n, none⟩ _) _ k _ (by simp; have := HSZ.out; omega)
          · exact (hbel.setCell (p := ⟨w.heap.size, n, none⟩) (Nat.le_refl _) _).alloc (by simpa using hbel.size) _
        case measure => simp; have := HSZ.out; omega
    · have h310 : primeRun k = P64 := by
        rcases Nat.lt_or_ge k 310 with h | h
        · have h2 := primeRun_mono k (309 - k)
          rw [show k + (309 - k) = 309 from by omega, primeRun_309, ← hn.out] at h2
          omega
        · obtain rfl : k = 310 := by omega
          exact primeRun_310
      rw [h310] at hw
      have hpw : pad 64 P64 = P64 := pad_full rfl
      rw [hpw] at hw
      clear hpw h310
      go_wp2_with (first | (refine wpList_load_whl rfl 60 (.tmp 0) rfl w.heap.size rfl .u64 _ P64 hw _ Try.underlying60 rfl size_64u64 ?_) | (refine wpList_store_whl rfl 60 (.tmp 0) (.tmp 18) rfl w.heap.size .u64 _ P64 P64 rfl rfl hw rfl size_64u64 ?_; intro w3 hw3 hg3 hs3; clear hs3))
      exact bodyPost_ret (v := .agg (ints .u64 P64).toArray) (results_whl rfl _ _ w.heap.size .u64 _ P64 _ rfl hw3 Try.underlying60 rfl size_64u64) rfl ⟨rfl, below_only hbel hg3 hbel.size (Nat.le_refl _)⟩
end Go.Proofs.Ytmbkehmgpcmicaa
