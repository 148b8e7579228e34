/-
  What the statements share: copies with room behind them (CopyBytes, Roomy, Kept), and whether bytes are the same (EqBytes); the walk of ShaSame.
-/
import Derived.Test.YtmbkehmgpcmicaaShaL
import Derived.Laws.BytesArg
namespace Go.Proofs.Ytmbkehmgpcmicaa
set_option linter.unusedVariables false
set_option linter.unusedSimpArgs false
open Go.RowKit

/-- The string of these bytes. -/
def bstr (xs : List Nat) : ByteArray := strOfNums (xs.map fun (x : Nat) => (x : Int))
theorem bstr_list (xs : List Nat) : (bstr xs).toList = xs.map fun x => UInt8.ofNat x := by
  unfold bstr strOfNums
  simp [ByteArray.toList_eq]
theorem bstr_eq {xs ys : List Nat} (lx : Lim 256 xs) (ly : Lim 256 ys) : ((bstr xs).toList == (bstr ys).toList) = decide (xs = ys) := by
  rw [Bool.eq_iff_iff, beq_iff_eq, decide_eq_true_eq, bstr_list, bstr_list]
  constructor
  · intro h
    have h2 := congrArg (List.map UInt8.toNat) h
    rw [List.map_map, List.map_map] at h2
    have e : ∀ zs : List Nat, Lim 256 zs → zs.map (UInt8.toNat ∘ fun x => UInt8.ofNat x) = zs := by
      intro zs lz
      refine (List.map_congr_left (g := id) fun x hx => ?_).trans (List.map_id _)
      have := lz x hx
      simp
      omega
    rwa [e xs lx, e ys ly] at h2
  · rintro rfl
    rfl
theorem conv_str (A : Option Addr) (n c : Nat) (xs : List Nat) (w : World) (hn : n = xs.length) (hx : Rd .u8 w A xs) : (convert 22 9 (.slice A n c)).run Try.prog w = .ok (.string (bstr xs)) w := by
  subst hn
  rcases A with _ | ad
  · have h0 : xs = [] := by
      rcases hx with h | ⟨b, o, h, _⟩
      · exact h
      · cases h
    subst h0
    exact run_convert_bytes_nil w 22 5 Try.underlying22 Try.underlying5 _ _ 9 Try.underlying9
  · rcases Nat.eq_zero_or_pos xs.length with h0 | h0
    · have h1 : xs = [] := List.eq_nil_of_length_eq_zero h0
      subst h1
      have h9 := run_bytesToString (P := Try.prog) w ad 0 c [] (by simp [loadCells, loadCellsFrom])
      exact (run_convert_bytes_string w 22 9 5 _ _ _ Try.underlying22 Try.underlying5 Try.underlying9).trans h9
    · obtain ⟨x, hx0⟩ := get_of_lt (xs := xs) (i := 0) h0
      obtain ⟨b, o, he, _, hc⟩ := hx.pos hx0
      injection he with he
      subst he
      refine run_convert_bytes_arg w 22 5 Try.underlying22 Try.underlying5 b o _ _ _ (by simp) (fun i hi => ?_) 9 Try.underlying9
      obtain ⟨y, hy⟩ := get_of_lt hi
      rw [hc i y hy, List.getD_eq_getElem?_getD, List.getElem?_map, hy]
      rfl
theorem eqBytes_any (A B : Option Addr) (n m c d : Nat) (xs ys : List Nat) (w : World) (hn : n = xs.length) (hm : m = ys.length) (hx : Rd .u8 w A xs) (hy : Rd .u8 w B ys) (lx : Lim 256 xs) (ly : Lim 256 ys) :
    Calls Try.prog 21 #[.slice A n c, .slice B m d] w (RetB (decide (xs = ys)) w) := by
  have h1 := conv_str A n c xs w hn hx
  have h2 := conv_str B m d ys w hm hy
  have h3 := Lib.hid (bstr_eq lx ly)
  generalize bstr xs = X at *
  generalize bstr ys = Y at *
  clear hn hm
  go_enter Try.func21, Try.ntmps21
  go_wp2_with fail
  go_ret
  exact ⟨ret_bool h3.out, rfl⟩
set_option maxHeartbeats 400000 in
theorem copyBytes_any (A : Option Addr) (n c : Nat) (xs : List Nat) (w : World) (hn : n = xs.length) (hl : n ≤ 1099511627776) (hx : Rd .u8 w A xs) :
    Calls Try.prog 19 #[.slice A n c] w (ClonePost xs w) := by
  subst hn
  go_enter Try.func19, Try.ntmps19
  go_wp2_with (at_builtin; refine wpList_append_ints _ rfl (.tmp 4) (.tmp 5) _ rfl w.heap.size 5 .u8 1 Try.underlying22 info_u8 _ 0 [] rfl (World.ownsRow_nil _ _ _ _) _ _ _ xs rfl rfl hx ?_ ?_ ?_ ?_)
  · simp only [maxLen]; omega
  · omega
  · exact Nat.le_refl _
  · intro v' w1 hown hgrow
    obtain ⟨A', c', rfl, _⟩ := row_form hown
    go_wp2_with fail
    go_ret
    exact ⟨A', c', rfl, hown, (Below.refl _ _).grown hgrow (Nat.le_refl _) (fun j hj => by cases hj)⟩

def L7 : List Nat := [201, 202, 203, 204, 205, 206, 207]
theorem L7_take (i : Nat) (h : i < 7) : L7.take i ++ [201 + i] = L7.take (i + 1) := by
  have : i = 0 ∨ i = 1 ∨ i = 2 ∨ i = 3 ∨ i = 4 ∨ i = 5 ∨ i = 6 := by omega
  rcases this with rfl | rfl | rfl | rfl | rfl | rfl | rfl <;> rfl
theorem L7_get (i : Nat) (h : i < 7) : L7[i]? = some (201 + i) := by
  have : i = 0 ∨ i = 1 ∨ i = 2 ∨ i = 3 ∨ i = 4 ∨ i = 5 ∨ i = 6 := by omega
  rcases this with rfl | rfl | rfl | rfl | rfl | rfl | rfl <;> rfl
/-- A copy with seven more bytes behind it, in memory of its own. -/
def RoomyPost (xs : List Nat) (w : World) (e : Ending) (w' : World) : Prop :=
  ∃ g c, e = .returned (.slice (some ⟨g, 0, none⟩) xs.length c) ∧ xs.length + 7 ≤ c ∧ c ≤ maxLen ∧ w.heap.size ≤ g ∧ Blk .u8 w' g (xs ++ L7) ∧ Below w.heap.size w w'
set_option maxHeartbeats 800000 in
theorem roomy_any (A : Option Addr) (n c : Nat) (xs : List Nat) (w : World) (hn : n = xs.length) (hl : n ≤ 1099511627776) (hx : Rd .u8 w A xs) :
    Calls Try.prog 13 #[.slice A n c] w (RoomyPost xs w) := by
  subst hn
  go_enter Try.func13, Try.ntmps13
  go_wp2_with fail
  refine (copyBytes_any A xs.length c xs _ rfl hl hx).mono ?_
  rintro e w1 ⟨A1, c1, rfl, hown, hb1⟩
  go_wp2_with fail
  go_loopw [3, 4] (fun s u wr => ∃ (i p : Nat) (A : Option Addr) (c : Nat), s = .slice A p c ∧ u = .int .i64 (i : Int) ∧ i ≤ 7 ∧ Hid (p = xs.length + i) ∧ wr.ownsRow w.heap.size 5 1 (.slice A p c) p (ints .u8 (xs ++ L7.take i)) ∧ Below w.heap.size w wr) (fun s u _ => 7 - (intOf u).toNat)
  case atStart => exact ⟨0, xs.length, A1, c1, rfl, rfl, Nat.zero_le _, rfl, by simpa using hown, hb1⟩
  case round =>
    clear hown hb1
    obtain ⟨i, p, A2, c2, rfl, rfl, hi, hp, hown, hbr⟩ := hrel
    have hpl : p ≤ 1099511627783 := by have := hp.out; omega
    by_cases hlt : i < 7
    · have hv := Lib.hid (show #[Value.int .u8 (201 + (i : Int))] = (ints .u8 [201 + i]).toArray by simp [ints])
      have ht := Lib.hid (L7_take i hlt)
      go_wp2_with (at_builtin; refine wpList_append_ints _ rfl (.tmp 11) (.tmp 15) _ rfl w.heap.size 5 .u8 1 Try.underlying22 info_u8 (.slice A2 p c2) p (xs ++ L7.take i) rfl (hown.alloc _) _ 1 1 [201 + i] rfl rfl (Rd.of_all (blk_lit wr [201 + i] _ hv.out)) (by simp only [maxLen]; omega) (by omega) (by have := hbr.size; simp; omega) ?_; intro v5 w5 hown5 hgrow5 _)
      obtain ⟨A5, c5, rfl, _⟩ := row_form hown5
      have hbr5 : Below w.heap.size w w5 := (hbr.alloc hbr.size _).grown hgrow5 (by have := hbr.size; simp; omega) (fun k hk => (hown.lt k hk).1)
      rw [List.append_assoc, ht.out] at hown5
      go_wp2_with fail
      go_roundw
      case rel => exact ⟨i + 1, p + 1, A5, c5, rfl, by go_num, hlt, by show p + 1 = xs.length + (i + 1); have := hp.out; omega, hown5, hbr5⟩
      case measure => simp [intOf]; omega
    · have hi7 : i = 7 := by omega
      have hp7 := Lib.hid (show p = xs.length + 7 by have := hp.out; omega)
      rw [hi7, show L7.take 7 = L7 from rfl] at hown
      have hge7 : ((i : Int) < 7) = False := by simp; omega
      rcases hown.2 with ⟨he, h0⟩ | ⟨g, cap, cur, he, hg, hblk, hc, hcm, _, htk⟩
      · have := hp7.out
        omega
      · injection he with he1 _ he2
        subst he1
        subst he2
        have hB : Blk .u8 wr g (xs ++ L7) := Blk.of_heap hblk fun j y hy => by
          have h1 := ints_get (k := .u8) hy
          rw [← htk, List.getElem?_take] at h1
          split at h1
          · simpa using h1
          · cases h1
        have hxc : xs.length ≤ c2 := by have := hp7.out; omega
        have hx7 : xs.length + 7 ≤ c2 := by have := hp7.out; omega
        clear hi7 hown hblk htk
        go_wp2_with fail
        go_ret
        exact ⟨g, c2, rfl, hx7, hcm, hg, hB, hbr⟩
set_option maxHeartbeats 800000 in
theorem kept_any (g c : Nat) (B : Option Addr) (n m d : Nat) (xs : List Nat) (w : World) (hn : n = xs.length) (hm : m = xs.length) (hl : n ≤ 1099511627776) (hc : n + 7 ≤ c) (hb : Blk .u8 w g (xs ++ L7)) (hy : Rd .u8 w B xs) (lx : Lim 256 xs) :
    Calls Try.prog 16 #[.slice (some ⟨g, 0, none⟩) n c, .slice B m d] w (RetB true w) := by
  subst hn
  subst hm
  have hr : Rd .u8 w (some ⟨g, 0, none⟩) xs := by
    have := (Rd.of_all hb).take xs.length
    rwa [List.take_left'] at this
    rfl
  go_enter Try.func16, Try.ntmps16
  go_wp2_with fail
  refine (eqBytes_any (some ⟨g, 0, none⟩) B _ _ c d xs xs _ rfl rfl hr hy lx lx).mono ?_
  rw [show decide (xs = xs) = true by simp]
  rintro e w1 ⟨rfl, rfl⟩
  go_wp2_with fail
  go_loop [6] (fun s => ∃ i : Nat, s = .int .i64 (i : Int) ∧ i ≤ 7) (fun s => 7 - (intOf s).toNat)
  case atStart => exact ⟨0, rfl, Nat.zero_le _⟩
  case round =>
    obtain ⟨i, rfl, hi⟩ := hrel
    by_cases hlt : i < 7
    · have hq := hb.cell (i := xs.length + i) (x := 201 + i) (by rw [List.getElem?_append_right (by omega), Nat.add_sub_cancel_left]; exact L7_get i hlt)
      have hq2 : w.cell? ⟨g, xs.length + i, none⟩ = some (.int .u8 (201 + (i : Int))) := by rw [hq]; simp
      clear hq
      go_wp2_with fail
      go_round
      case rel => exact ⟨i + 1, by go_num, by omega⟩
      case measure => simp [intOf]; omega
    · go_wp2_with fail
      go_ret
      exact ⟨rfl, rfl⟩
end Go.Proofs.Ytmbkehmgpcmicaa
