/-
  Bytes as strings, arrays that are the same, an exponent as a number, copies, and whether bytes are the same, by the statements and by the document. Holds for all bytes.
-/
import Derived.Test.YtfclpieijbgodaaRsaD
import Derived.Test.YtfclpieijbgodaaNatT
import Derived.Laws.BytesArg
import Derived.ChangeKeysEq
import Derived.Shelf.Bytes.SlEqualAll
namespace Go.Proofs.Ytfclpieijbgodaa
set_option linter.unusedVariables false
set_option linter.unusedSimpArgs false
open Go.RowKit

/-- It returns this truth; the world is as it was. -/
def RetB (b : Bool) (w : World) (e : Ending) (w' : World) : Prop := e = .returned (.bool b) ∧ w = w'
/-- The string of these bytes. -/
def bstr (xs : List Nat) : ByteArray := strOfNums (xs.map fun (x : Nat) => (x : Int))
theorem bstr_list (xs : List Nat) : (bstr xs).toList = xs.map fun x => UInt8.ofNat x := by
  unfold bstr strOfNums
  simp [ByteArray.toList_eq]
theorem bstr_eq {xs ys : List Nat} (lx : Lim 256 xs) (ly : Lim 256 ys) : ((bstr xs).toList == (bstr ys).toList) = decide (xs = ys) := by
  rw [Bool.eq_iff_iff, beq_iff_eq, decide_eq_true_eq, bstr_list, bstr_list]
  constructor
  · intro h
    have h2 := congrArg (List.map UInt8.toNat) h
    rw [List.map_map, List.map_map] at h2
    have e : ∀ zs : List Nat, Lim 256 zs → zs.map (UInt8.toNat ∘ fun x => UInt8.ofNat x) = zs := by
      intro zs lz
      refine (List.map_congr_left (g := id) fun x hx => ?_).trans (List.map_id _)
      have := lz x hx
      simp
      omega
    rwa [e xs lx, e ys ly] at h2
  · rintro rfl
    rfl
theorem conv_str (A : Option Addr) (n c : Nat) (xs : List Nat) (w : World) (hn : n = xs.length) (hx : Rd .u8 w A xs) : (convert 50 9 (.slice A n c)).run Try.prog w = .ok (.string (bstr xs)) w := by
  subst hn
  rcases A with _ | ad
  · have h0 : xs = [] := by
      rcases hx with h | ⟨b, o, h, _⟩
      · exact h
      · cases h
    subst h0
    exact run_convert_bytes_nil w 50 5 Try.underlying50 Try.underlying5 _ _ 9 Try.underlying9
  · rcases Nat.eq_zero_or_pos xs.length with h0 | h0
    · have h1 : xs = [] := List.eq_nil_of_length_eq_zero h0
      subst h1
      have h9 := run_bytesToString (P := Try.prog) w ad 0 c [] (by simp [loadCells, loadCellsFrom])
      exact (run_convert_bytes_string w 50 9 5 _ _ _ Try.underlying50 Try.underlying5 Try.underlying9).trans h9
    · obtain ⟨x, hx0⟩ := get_of_lt (xs := xs) (i := 0) h0
      obtain ⟨b, o, he, _, hc⟩ := hx.pos hx0
      injection he with he
      subst he
      refine run_convert_bytes_arg w 50 5 Try.underlying50 Try.underlying5 b o _ _ _ (by simp) (fun i hi => ?_) 9 Try.underlying9
      obtain ⟨y, hy⟩ := get_of_lt hi
      rw [hc i y hy, List.getD_eq_getElem?_getD, List.getElem?_map, hy]
      rfl
theorem refSame06_any (A B : Option Addr) (n m c d : Nat) (xs ys : List Nat) (w : World) (hn : n = xs.length) (hm : m = ys.length) (hx : Rd .u8 w A xs) (hy : Rd .u8 w B ys) (lx : Lim 256 xs) (ly : Lim 256 ys) :
    Calls Try.prog 91 #[.slice A n c, .slice B m d] w (RetB (decide (xs = ys)) w) := by
  have h1 := conv_str A n c xs w hn hx
  have h2 := conv_str B m d ys w hm hy
  have h3 := Lib.hid (bstr_eq lx ly)
  generalize bstr xs = X at *
  generalize bstr ys = Y at *
  clear hn hm
  go_enter Try.func91, Try.ntmps91
  go_wp2_with fail
  go_ret
  exact ⟨ret_bool h3.out, rfl⟩
theorem bytesEqual_any (A B : Option Addr) (n m c d : Nat) (xs ys : List Nat) (w : World) (hn : n = xs.length) (hm : m = ys.length) (hx : Rd .u8 w A xs) (hy : Rd .u8 w B ys) (lx : Lim 256 xs) (ly : Lim 256 ys) :
    Calls Try.prog 87 #[.slice A n c, .slice B m d] w (RetB (decide (xs = ys)) w) := by
  refine (Try.bytes_Equal _ _ (xs.map fun (x : Nat) => (x : Int)) (ys.map fun (x : Nat) => (x : Int)) w (conv_str A n c xs w hn hx) (conv_str B m d ys w hm hy)).mono ?_
  rintro e w' ⟨rfl, rfl⟩
  refine ⟨ret_bool ?_, rfl⟩
  rw [← bstr_eq lx ly, bstr_list, bstr_list]
  simp only [Lib.bytesOf, List.map_map]
  rfl

/-! ### Arrays of 32 bytes -/
theorem eqItems_dec (xs ys : List Nat) (w : World) : ∀ is : List Nat, (∀ i ∈ is, i < xs.length) → (∀ i ∈ is, i < ys.length) → (Op.eqItems 9999 5 (Try.prog.cellsOf 5) (ints .u8 xs).toArray (ints .u8 ys).toArray is).run Try.prog w = .ok (is.all fun i => decide (xs[i]? = ys[i]?)) w
  | [], _, _ => by simp [Op.eqItems]
  | i :: is, h, h' => by
    have hi := h i (by simp)
    have hi' := h' i (by simp)
    have ih := eqItems_dec xs ys w is (fun j hj => h j (by simp [hj])) (fun j hj => h' j (by simp [hj]))
    have hc : Try.prog.cellsOf 5 = 1 := by kernel_rfl
    have h4 : ∀ w, (isAgg 5).run Try.prog w = .ok false w := fun w => by kernel_rfl
    have hp : ∀ (zs : List Nat) (hz : i < zs.length), (Go.part 5 (ints .u8 zs).toArray (i * Try.prog.cellsOf 5)).run Try.prog w = .ok (.int .u8 (zs[i] : Int)) w := fun zs hz => by
      have h5 := ints_get (k := .u8) (List.getElem?_eq_getElem hz)
      rw [hc, Nat.mul_one]
      simp [Go.part, Sem.run_bind, h4, Result.andThen, h5]
    have he : (Op.equalIn 9999 5 (.int .u8 (xs[i] : Int)) (.int .u8 (ys[i] : Int))).run Try.prog w = .ok (decide (xs[i]? = ys[i]?)) w := by
      have := run_equalIn_int (P := Try.prog) (w := w) 9998 5 .u8 .u8 (xs[i] : Int) (ys[i] : Int) Try.underlying5
      rw [show decide (xs[i]? = ys[i]?) = ((xs[i] : Int) == (ys[i] : Int)) from by
        rw [Bool.eq_iff_iff]
        simp [List.getElem?_eq_getElem hi, List.getElem?_eq_getElem hi']
        omega]
      exact this
    simp only [Op.eqItems, Sem.run_bind, hp xs hi, hp ys hi', he, Result.andThen_ok]
    by_cases hx : xs[i]? = ys[i]?
    · simpa [hx] using ih
    · simp [hx]
theorem all_eq {xs ys : List Nat} {n : Nat} (hx : xs.length = n) (hy : ys.length = n) : ((List.range n).all fun i => decide (xs[i]? = ys[i]?)) = decide (xs = ys) := by
  rw [Bool.eq_iff_iff, List.all_eq_true, decide_eq_true_eq]
  constructor
  · intro h
    apply List.ext_getElem?
    intro i
    by_cases hi : i < n
    · simpa using h i (by simpa using hi)
    · rw [List.getElem?_eq_none (by omega), List.getElem?_eq_none (by omega)]
  · rintro rfl i _
    simp
theorem eql_dec (xs ys : List Nat) (hl : xs.length = 32) (hl' : ys.length = 32) (w : World) : (binOp .eql 49 (.agg (ints .u8 xs).toArray) (.agg (ints .u8 ys).toArray)).run Try.prog w = .ok (.bool (decide (xs = ys))) w := by
  obtain ⟨i, hi⟩ : ∃ i, Try.prog.info? 5 = some i := info_of_underlying Try.underlying5
  have h := run_equalIn_array (P := Try.prog) (w := w) 9999 (ints .u8 xs).toArray (ints .u8 ys).toArray Try.underlying49 hi
  rw [eqItems_dec xs ys w _ (fun j hj => by rw [hl]; simpa using hj) (fun j hj => by rw [hl']; simpa using hj), all_eq hl hl'] at h
  rw [run_eql_struct, h]
  rfl

/-! ### Numbers of up to 64 bits -/
theorem limbs_u64 {e : Nat} (h : e < 18446744073709551616) : val [e % 4294967296, e / 4294967296] = e := by
  simp only [val]
  omega
set_option maxRecDepth 100000 in
theorem refLimbs_any (e : Nat) (w : World) (he : e < 18446744073709551616) :
    Calls Try.prog 89 #[.int .u64 (e : Int)] w (Gives .u32 (limbs e) w) := by
  have hm := mask32 e he
  have hv := Lib.hid (limbs_u64 he)
  go_enter Try.func89, Try.ntmps89
  go_wp2_with fail
  refine (refTrim_any (some ⟨w.heap.size, 0, none⟩) 2 2 [e % 4294967296, e / 4294967296] _ rfl (by omega) (by omega) (Rd.of_all (blk_lit w [e % 4294967296, e / 4294967296] _ (by simp [ints]))) (fun x hx => by simp at hx; omega)).mono ?_
  rw [hv.out]
  rintro r w1 ⟨A, c, rfl, h1, h2, h3, h4⟩
  go_wp2_with fail
  go_ret
  exact ⟨A, c, rfl, h1, h2, h3.mono (by simp), ((Below.refl _ _).alloc (Nat.le_refl _) _).trans (h4.mono (by simp))⟩
set_option maxRecDepth 10000 in
theorem limbs_any (e : Nat) (w : World) (h0 : 0 < e) (he : e < 18446744073709551616) :
    Calls Try.prog 102 #[.int .u64 (e : Int)] w (Gives .u32 (limbs e) w) := by
  by_cases h : e < 4294967296
  · have hq := Lib.hid (show limbs e = [e] by rw [limbs_pos (by omega), Nat.mod_eq_of_lt h, Nat.div_eq_of_lt h, limbs_zero])
    have hb : ((e : Int) / 4294967296 == 0) = true := by simp; omega
    go_enter Try.func102, Try.ntmps102
    go_wp2
    go_ret
    rw [hq.out]
    exact ⟨some ⟨w.heap.size, 0, none⟩, 1, rfl, Nat.le_refl _, by decide, Own.of_blk (blk_lit w [e] _ (by simp [ints]; try omega)) (Nat.le_refl _), (Below.refl _ _).alloc (Nat.le_refl _) _⟩
  · have hq := Lib.hid (show limbs e = [e % 4294967296, e / 4294967296] by rw [limbs_pos (by omega), limbs_pos (by omega), Nat.mod_eq_of_lt (show e / 4294967296 < 4294967296 by omega), Nat.div_eq_of_lt (show e / 4294967296 < 4294967296 by omega), limbs_zero])
    have hb : ((e : Int) / 4294967296 == 0) = false := by simp; omega
    go_enter Try.func102, Try.ntmps102
    go_wp2
    go_ret
    rw [hq.out]
    exact ⟨some ⟨w.heap.size, 0, none⟩, 2, rfl, Nat.le_refl _, by decide, Own.of_blk (blk_lit w [e % 4294967296, e / 4294967296] _ (by simp [ints]; try omega)) (Nat.le_refl _), (Below.refl _ _).alloc (Nat.le_refl _) _⟩

/-! ### The statements' copies and their same -/
set_option maxHeartbeats 400000 in
theorem twin06_any (A : Option Addr) (n c : Nat) (xs : List Nat) (w : World) (hn : n = xs.length) (hl : n ≤ 70000) (hx : Rd .u8 w A xs) :
    Calls Try.prog 44 #[.slice A n c] w (fun e w' => ∃ g c', e = .returned (.slice (some ⟨g, 0, none⟩) xs.length c') ∧ w.heap.size ≤ g ∧ Blk .u8 w' g xs ∧ xs.length ≤ c' ∧ c' ≤ maxLen ∧ Below w.heap.size w w') := by
  subst hn
  go_enter Try.func44, Try.ntmps44
  go_wp2_with (at_builtin; refine wpList_append_lit _ rfl (.tmp 3) (.tmp 4) _ rfl w 5 .u8 1 Try.underlying50 info_u8 _ _ rfl (World.ownsRow_made w #[] 0 (Nat.le_refl _) (Nat.zero_le _) rfl) _ xs.length _ xs rfl rfl (hx.alloc _) ((Below.refl _ _).alloc (Nat.le_refl _) _) (by omega) (by decide) ?_; intro g c' w1 hB hbk hc1 hc2 hbel)
  go_ret
  exact ⟨g, c', rfl, hB, hbk, hc1, hc2, hbel⟩
theorem same06_any (A B : Option Addr) (n m c d : Nat) (xs ys : List Nat) (w : World) (hn : n = xs.length) (hm : m = ys.length) (hl : n ≤ 70000) (hl' : m ≤ 70000) (hx : Rd .u8 w A xs) (hy : Rd .u8 w B ys) :
    Calls Try.prog 45 #[.slice A n c, .slice B m d] w (Quiet (.bool (decide (xs = ys))) w) := by
  subst hn
  subst hm
  by_cases hlen : xs.length = ys.length
  · have hne : ((xs.length : Int) != (ys.length : Int)) = false := by simp [hlen]
    have HL := Lib.hid hlen
    clear hlen
    go_enter Try.func45, Try.ntmps45
    go_wp2
    go_loopw [5] (fun t wr => ∃ k q : Nat, t = .int .i64 k ∧ k ≤ xs.length ∧ Hid (xs.take k = ys.take k) ∧ wr = w.drewN q) (fun t _ => xs.length - (intOf t).toNat)
    case atStart => exact ⟨0, 0, rfl, Nat.zero_le _, by simp [Hid], rfl⟩
    case round =>
      obtain ⟨k, q, rfl, hk, ht, rfl⟩ := hrel
      by_cases hlt : k < xs.length
      · have hlt' : k < ys.length := by have := HL.out; omega
        obtain ⟨x, hgx⟩ := get_of_lt hlt
        obtain ⟨y, hgy⟩ := get_of_lt hlt'
        obtain ⟨b, o, rfl, hbw, hcx⟩ := hx.pos hgx
        obtain ⟨b', o', rfl, hbw', hcy⟩ := hy.pos hgy
        have hcellx := hcx k x hgx
        have hcelly := hcy k y hgy
        have HX := Lib.hid hgx
        have HY := Lib.hid hgy
        clear hcx hcy hgx hgy
        by_cases hxy : x = y
        · subst hxy
          go_wp2
          go_quiet (fail)
          go_wp2
          go_roundw
          case rel => exact ⟨k + 1, _, by go_num, by omega, by
            show _ = _
            rw [List.take_add_one, List.take_add_one, ht.out, HX.out, HY.out], rfl⟩
          case measure => simp [intOf] <;> omega
        · have hxy' : ((x : Int) != (y : Int)) = true := by simp; omega
          have hres : decide (xs = ys) = false := by
            simp only [decide_eq_false_iff_not]
            rintro rfl
            have h1 := HX.out
            rw [HY.out] at h1
            injection h1 with h1
            exact hxy h1.symm
          have HR := Lib.hid hres
          clear hres
          go_wp2
          go_quiet (fail)
          go_wp2
          go_ret
          first | exact Quiet.mk (congrArg Value.bool HR.out.symm) _ | exact Quiet.mk2 (congrArg Value.bool HR.out.symm) _ _ | exact Quiet.mk3 (congrArg Value.bool HR.out.symm) _ _ _
      · have hres : decide (xs = ys) = true := by
          have h1 := ht.out
          have h2 := HL.out
          rw [List.take_of_length_le (by omega), List.take_of_length_le (by omega)] at h1
          simpa using h1
        have HR := Lib.hid hres
        clear hres
        go_wp2
        go_ret
        first | exact Quiet.mk (congrArg Value.bool HR.out.symm) _ | exact Quiet.mk2 (congrArg Value.bool HR.out.symm) _ _ | exact Quiet.mk3 (congrArg Value.bool HR.out.symm) _ _ _
  · have hne : ((xs.length : Int) != (ys.length : Int)) = true := by simp; omega
    have hres : decide (xs = ys) = false := by
      simp only [decide_eq_false_iff_not]
      rintro rfl
      exact hlen rfl
    have HR := Lib.hid hres
    clear hres hlen
    go_enter Try.func45, Try.ntmps45
    go_wp2
    go_ret
    exact Quiet.mk0 (congrArg Value.bool HR.out.symm)

end Go.Proofs.Ytfclpieijbgodaa
