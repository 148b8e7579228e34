/-
  RsaB: Which keys may be: rsa.Sound and the reference's Sound. Holds for every key.
-/
import Derived.Test.YtchaahnhpeoomaaGreatQGMon
import Derived.Test.YtchaahnhpeoomaaGreatQGRs1
import Derived.Test.YtchaahnhpeoomaaGreatQGNaB
import Derived.Laws.BytesArg
import Derived.ChangeKeysEq
import Derived.Shelf.Bytes.SlEqualAll
import Derived.Laws.ResultCell
namespace Go.Proofs.YtchaahnhpeoomaaGreat
set_option linter.unusedVariables false
set_option linter.unusedSimpArgs false
set_option maxRecDepth 20000
open Go.RowKit
def soundB (ns : List Nat) (e : Nat) : Bool :=
  (decide (ns.length = 256) || decide (ns.length = 384) || decide (ns.length = 512)) && decide (128 ≤ ns[0]?.getD 0) && decide (ns[ns.length - 1]?.getD 0 % 2 = 1) && decide (e % 2 = 1) && decide (3 ≤ e) && decide (e < 8589934592)
def soundE (ns : List Nat) (e : Nat) : Int := if soundB ns e then 0 else 11
structure Sounds (ns : List Nat) (e : Nat) : Prop where
  len : ns.length = 256 ∨ ns.length = 384 ∨ ns.length = 512
  top : 128 ≤ ns[0]?.getD 0
  odd : ns[ns.length - 1]?.getD 0 % 2 = 1
  eodd : e % 2 = 1
  e3 : 3 ≤ e
  e33 : e < 8589934592
theorem soundB_iff (ns : List Nat) (e : Nat) : soundB ns e = true ↔ Sounds ns e := by
  unfold soundB
  simp only [Bool.and_eq_true, Bool.or_eq_true, decide_eq_true_eq]
  exact ⟨fun ⟨⟨⟨⟨⟨h1, h2⟩, h3⟩, h4⟩, h5⟩, h6⟩ => ⟨by omega, h2, h3, h4, h5, h6⟩, fun h => ⟨⟨⟨⟨⟨by have := h.len; omega, h.top⟩, h.odd⟩, h.eodd⟩, h.e3⟩, h.e33⟩⟩
theorem soundE_no {ns : List Nat} {e : Nat} (h : ¬ Sounds ns e) : soundE ns e = 11 := by
  unfold soundE
  rw [if_neg (fun k => h ((soundB_iff ns e).1 k))]
theorem soundE_yes {ns : List Nat} {e : Nat} (h : Sounds ns e) : soundE ns e = 0 := by
  unfold soundE
  rw [if_pos ((soundB_iff ns e).2 h)]
def keyVal (A : Option Addr) (n c e : Nat) : Value := .agg #[.slice A n c, .int .u64 (e : Int)]
set_option maxRecDepth 10000 in
set_option maxHeartbeats 1600000 in
theorem sound_any (A : Option Addr) (n c e : Nat) (ns : List Nat) (w : World) (hn : n = ns.length) (hl : n ≤ 9223372036854775807) (hx : Rd .u8 w A ns) (lx : Lim 256 ns) (he : e < 18446744073709551616) :
    Calls Tryz.prog 80 #[keyVal A n c e] w (fun r w' => r = .returned (.int .i64 (soundE ns e)) ∧ Below w.heap.size w w') := by
  subst hn
  unfold keyVal
  by_cases h0 : ns.length = 256 ∨ ns.length = 384 ∨ ns.length = 512
  · obtain ⟨x, hx0⟩ := get_of_lt (xs := ns) (i := 0) (by omega)
    obtain ⟨y, hy0⟩ := get_of_lt (xs := ns) (i := ns.length - 1) (by omega)
    obtain ⟨b, o, rfl, hbw, hcl⟩ := hx.pos hx0
    have c0 := hcl 0 x hx0
    have c1 := hcl _ y hy0
    rw [Nat.add_zero] at c0
    have hxb := lx.get hx0
    have hyb := lx.get hy0
    have e0 : ns[0]?.getD 0 = x := by rw [hx0]; rfl
    have e1 : ns[ns.length - 1]?.getD 0 = y := by rw [hy0]; rfl
    have HS : Hid (soundE ns e = if 128 ≤ x ∧ y % 2 = 1 ∧ e % 2 = 1 ∧ 3 ≤ e ∧ e < 8589934592 then 0 else 11) := by
      unfold Hid
      split
      · rename_i h
        exact soundE_yes ⟨h0, by rw [e0]; exact h.1, by rw [e1]; exact h.2.1, h.2.2.1, h.2.2.2.1, h.2.2.2.2⟩
      · rename_i h
        exact soundE_no fun k => h ⟨by rw [← e0]; exact k.top, by rw [← e1]; exact k.odd, k.eodd, k.e3, k.e33⟩
    clear hx hcl hx0 hy0 e0 e1
    generalize hm : ns.length = m at *
    clear hl lx hm
    rcases h0 with rfl | rfl | rfl
    all_goals simp only [Nat.reduceSub] at c1
    all_goals go_enter Tryz.func80, Tryz.ntmps80
    all_goals go_wp2
    all_goals go_ret
    all_goals refine ⟨?_, (Below.refl _ _).alloc (Nat.le_refl _) _⟩
    all_goals rw [HS.out]
    all_goals first | (rw [if_neg (by clear HS; simp at *; omega)]; rfl) | (rw [if_pos (by clear HS; simp at *; omega)]; rfl)
  · have z1 : ((ns.length : Int) == 256) = false := by simp; omega
    have z2 : ((ns.length : Int) == 384) = false := by simp; omega
    have z3 : ((ns.length : Int) == 512) = false := by simp; omega
    have HS := Lib.hid (soundE_no (e := e) (fun h => h0 h.len))
    have z4 : ((ns.length : Int) != 256) = true := by simp; omega
    have z5 : ((ns.length : Int) != 384) = true := by simp; omega
    have z6 : ((ns.length : Int) != 512) = true := by simp; omega
    clear hx lx hl h0
    generalize ns.length = m at *
    go_enter Tryz.func80, Tryz.ntmps80
    go_wp2
    go_ret
    exact ⟨by rw [HS.out]; rfl, (Below.refl _ _).alloc (Nat.le_refl _) _⟩
end Go.Proofs.YtchaahnhpeoomaaGreat
namespace Go.Proofs.YtchaahnhpeoomaaGreat
set_option linter.unusedVariables false
set_option linter.unusedSimpArgs false
set_option maxRecDepth 20000
open Go.RowKit
def RetB (b : Bool) (w : World) (e : Ending) (w' : World) : Prop := e = .returned (.bool b) ∧ w = w'
def bstr (xs : List Nat) : ByteArray := strOfNums (xs.map fun (x : Nat) => (x : Int))
theorem bstr_list (xs : List Nat) : (bstr xs).toList = xs.map fun x => UInt8.ofNat x := by
  unfold bstr strOfNums
  simp [ByteArray.toList_eq]
theorem bstr_eq {xs ys : List Nat} (lx : Lim 256 xs) (ly : Lim 256 ys) : ((bstr xs).toList == (bstr ys).toList) = decide (xs = ys) := by
  rw [Bool.eq_iff_iff, beq_iff_eq, decide_eq_true_eq, bstr_list, bstr_list]
  constructor
  · intro h
    have h2 := congrArg (List.map UInt8.toNat) h
    rw [List.map_map, List.map_map] at h2
    have e : ∀ zs : List Nat, Lim 256 zs → zs.map (UInt8.toNat ∘ fun x => UInt8.ofNat x) = zs := by
      intro zs lz
      refine (List.map_congr_left (g := id) fun x hx => ?_).trans (List.map_id _)
      have := lz x hx
      simp
      omega
    rwa [e xs lx, e ys ly] at h2
  · rintro rfl
    rfl
theorem conv_str (A : Option Addr) (n c : Nat) (xs : List Nat) (w : World) (hn : n = xs.length) (hx : Rd .u8 w A xs) : (convert 22 9 (.slice A n c)).run Tryz.prog w = .ok (.string (bstr xs)) w := by
  subst hn
  rcases A with _ | ad
  · have h0 : xs = [] := by
      rcases hx with h | ⟨b, o, h, _⟩
      · exact h
      · cases h
    subst h0
    exact run_convert_bytes_nil w 22 5 Tryz.underlying22 Tryz.underlying5 _ _ 9 Tryz.underlying9
  · rcases Nat.eq_zero_or_pos xs.length with h0 | h0
    · have h1 : xs = [] := List.eq_nil_of_length_eq_zero h0
      subst h1
      have h9 := run_bytesToString (P := Tryz.prog) w ad 0 c [] (by simp [loadCells, loadCellsFrom])
      exact (run_convert_bytes_string w 22 9 5 _ _ _ Tryz.underlying22 Tryz.underlying5 Tryz.underlying9).trans h9
    · obtain ⟨x, hx0⟩ := get_of_lt (xs := xs) (i := 0) h0
      obtain ⟨b, o, he, _, hc⟩ := hx.pos hx0
      injection he with he
      subst he
      refine run_convert_bytes_arg w 22 5 Tryz.underlying22 Tryz.underlying5 b o _ _ _ (by simp) (fun i hi => ?_) 9 Tryz.underlying9
      obtain ⟨y, hy⟩ := get_of_lt hi
      rw [hc i y hy, List.getD_eq_getElem?_getD, List.getElem?_map, hy]
      rfl
theorem bytesEqual_any (A B : Option Addr) (n m c d : Nat) (xs ys : List Nat) (w : World) (hn : n = xs.length) (hm : m = ys.length) (hx : Rd .u8 w A xs) (hy : Rd .u8 w B ys) (lx : Lim 256 xs) (ly : Lim 256 ys) :
    Calls Tryz.prog 83 #[.slice A n c, .slice B m d] w (RetB (decide (xs = ys)) w) := by
  refine (Tryz.bytes_Equal _ _ (xs.map fun (x : Nat) => (x : Int)) (ys.map fun (x : Nat) => (x : Int)) w (conv_str A n c xs w hn hx) (conv_str B m d ys w hm hy)).mono ?_
  rintro e w' ⟨rfl, rfl⟩
  refine ⟨ret_bool ?_, rfl⟩
  rw [← bstr_eq lx ly, bstr_list, bstr_list]
  simp only [Lib.bytesOf, List.map_map]
  rfl
set_option maxRecDepth 10000 in
theorem limbs_any (e : Nat) (w : World) (h0 : 0 < e) (he : e < 18446744073709551616) :
    Calls Tryz.prog 116 #[.int .u64 (e : Int)] w (Gives .u32 (limbs e) w) := by
  by_cases h : e < 4294967296
  · have hq := Lib.hid (show limbs e = [e] by rw [limbs_pos (by omega), Nat.mod_eq_of_lt h, Nat.div_eq_of_lt h, limbs_zero])
    have hb : ((e : Int) / 4294967296 == 0) = true := by simp; omega
    go_enter Tryz.func116, Tryz.ntmps116
    go_wp2
    go_ret
    rw [hq.out]
    exact ⟨some ⟨w.heap.size, 0, none⟩, 1, rfl, Nat.le_refl _, by decide, Own.of_blk (blk_lit w [e] _ (by simp [ints]; try omega)) (Nat.le_refl _), (Below.refl _ _).alloc (Nat.le_refl _) _⟩
  · have hq := Lib.hid (show limbs e = [e % 4294967296, e / 4294967296] by rw [limbs_pos (by omega), limbs_pos (by omega), Nat.mod_eq_of_lt (show e / 4294967296 < 4294967296 by omega), Nat.div_eq_of_lt (show e / 4294967296 < 4294967296 by omega), limbs_zero])
    have hb : ((e : Int) / 4294967296 == 0) = false := by simp; omega
    go_enter Tryz.func116, Tryz.ntmps116
    go_wp2
    go_ret
    rw [hq.out]
    exact ⟨some ⟨w.heap.size, 0, none⟩, 2, rfl, Nat.le_refl _, by decide, Own.of_blk (blk_lit w [e % 4294967296, e / 4294967296] _ (by simp [ints]; try omega)) (Nat.le_refl _), (Below.refl _ _).alloc (Nat.le_refl _) _⟩
end Go.Proofs.YtchaahnhpeoomaaGreat
namespace Go.Proofs.YtchaahnhpeoomaaGreat
set_option linter.unusedVariables false
set_option linter.unusedSimpArgs false
set_option maxRecDepth 20000
open Go.RowKit
theorem limbs64_len {v : Nat} (h : v < 18446744073709551616) : (limbs v).length ≤ 2 := limbs_length_le (k := 2) (by omega)
theorem limbs_in {ms : List Nat} (hM : MayM ms) {x : Nat} (hx : x < val ms) : (limbs x).length ≤ 128 :=
  limbs_length_le (Nat.lt_of_lt_of_le hx (Nat.le_of_lt (Nat.lt_of_lt_of_le (val_lt hM.lm) (Nat.pow_le_pow_right (by omega) hM.len))))
theorem may_in {ms : List Nat} (hM : MayM ms) {x : Nat} (hx : x < val ms) : mayOf (limbs x) ms = true := by
  have := may_limbs hM x
  rwa [Nat.mod_eq_of_lt hx] at this
theorem exp_at {ms : List Nat} (hM : MayM ms) {x e v : Nat} (hx : x < val ms) (he : (limbs e).length ≤ 256) (hv : v = x ^ e % val ms) (B g : Nat) (X Y : Option Addr) (c d : Nat) (w : World) (hO : ModOk w B g ms) (h1 : Rd .u32 w X (limbs x)) (h2 : Rd .u32 w Y (limbs e)) :
    Calls Tryz.prog 115 #[.pointer (some ⟨g, 0, none⟩), .slice X (limbs x).length c, .slice Y (limbs e).length d] w (Gives2 .u32 (limbs v) 0 w) := by
  have h := mexp_any B g ms X Y _ _ c d (limbs x) (limbs e) w hO hM rfl rfl (by have := limbs_in hM hx; omega) (by omega) h1 h2 (limbs_lim _) (limbs_lim _)
  unfold expMOf at h
  rw [if_pos ⟨may_in hM hx, isRight_limbs he⟩, val_limbs, val_limbs, ← hv] at h
  exact h
theorem may_odd {m : Nat} (h : m % 2 = 1) (h3 : 3 ≤ m) (hl : (limbs m).length ≤ 128) : mayB (limbs m) = true := by
  unfold mayB
  have h0 : 0 < (limbs m).length := by
    rw [limbs_pos (by omega)]
    simp
  rw [val_limbs, isRight_limbs (by omega)]
  simp [h, h3, h0, hl]
theorem limbs_bytes_len {v n k : Nat} (h : v < 256 ^ n) (hn : n ≤ 4 * k) : (limbs v).length ≤ k :=
  limbs_length_le (Nat.lt_of_lt_of_le h (by rw [pow_limb_256]; exact Nat.pow_le_pow_right (by omega) hn))
theorem valB_odd {xs : List Nat} {y : Nat} (h : xs[xs.length - 1]? = some y) : valB xs % 2 = y % 2 := by
  have hl := (List.getElem?_eq_some_iff.1 h).1
  have e : xs = xs.take (xs.length - 1) ++ [y] := by
    have h1 := List.take_append_drop (xs.length - 1) xs
    rw [List.drop_eq_getElem_cons hl, List.drop_eq_nil_of_le (by omega)] at h1
    rw [(List.getElem?_eq_some_iff.1 h).2] at h1
    exact h1.symm
  rw [e, valB_append]
  simp [valB]
  omega
theorem valB_top {xs : List Nat} {x : Nat} (h : xs[0]? = some x) : x * 256 ^ (xs.length - 1) ≤ valB xs := by
  cases xs with
  | nil => simp at h
  | cons z zs =>
    simp at h
    subst h
    rw [show z :: zs = [z] ++ zs from rfl, valB_append]
    simp [valB]
theorem sounds_may {ns : List Nat} {e : Nat} (lx : Lim 256 ns) (h : Sounds ns e) : mayB (limbs (valB ns)) = true := by
  have hl : 2 ≤ ns.length ∧ ns.length ≤ 512 := by have := h.len; omega
  obtain ⟨x, hx⟩ := get_of_lt (xs := ns) (i := 0) (by omega)
  obtain ⟨y, hy⟩ := get_of_lt (xs := ns) (i := ns.length - 1) (by omega)
  have h1 := h.top
  have h2 := h.odd
  rw [hx] at h1
  rw [hy] at h2
  refine may_odd ((valB_odd hy).trans h2) ?_ ?_
  · have h3 := valB_top hx
    have h4 : 1 ≤ 256 ^ (ns.length - 1) := Nat.pos_of_ne_zero (by rw [pow_256]; exact Nat.ne_of_gt (Nat.two_pow_pos _))
    have h5 := Nat.mul_le_mul (show 128 ≤ x from h1) h4
    omega
  · exact limbs_bytes_len (valB_lt lx) (by omega)
structure KeyAt (w : World) (g : Nat) (A : Option Addr) (n c e : Nat) : Prop where
  c0 : w.cell? ⟨g, 0, none⟩ = some (.slice A n c)
  c1 : w.cell? ⟨g, 1, none⟩ = some (.int .u64 (e : Int))
  lt : g < w.heap.size
theorem KeyAt.below {w w' : World} {g : Nat} {A : Option Addr} {n c e : Nat} (h : KeyAt w g A n c e) (hb : Below w.heap.size w w') : KeyAt w' g A n c e :=
  ⟨by rw [hb.cell h.lt]; exact h.c0, by rw [hb.cell h.lt]; exact h.c1, Nat.lt_of_lt_of_le h.lt hb.size⟩
theorem key_new (w : World) (A : Option Addr) (n c e : Nat) (t : TypeId) : KeyAt (w.alloc (.cells #[.slice A n c, .int .u64 (e : Int)] t)) w.heap.size A n c e := ⟨by simp, by simp, by simp⟩
def openOf (ns sig : List Nat) (e : Nat) : List Nat × Int := if valB sig < valB ns then (octs ns.length (valB sig ^ e % valB ns), 0) else ([], 1)
set_option maxRecDepth 100000 in
set_option maxHeartbeats 1600000 in
theorem open_any (A B : Option Addr) (n c e m d : Nat) (ns sig : List Nat) (w : World) (hn : n = ns.length) (hm : m = sig.length) (hx : Rd .u8 w A ns) (hy : Rd .u8 w B sig) (lx : Lim 256 ns) (ly : Lim 256 sig) (he : e < 18446744073709551616)
    (hS : Sounds ns e) (hl : sig.length = ns.length) :
    Calls Tryz.prog 81 #[keyVal A n c e, .slice B m d] w (Gives2 .u8 (openOf ns sig e).1 (openOf ns sig e).2 w) := by
  subst hn
  have h5 : ns.length ≤ 512 := by have := hS.len; omega
  have hM := mayB_out (limbs_lim _) (sounds_may lx hS)
  have hML := hM.len
  have hE := limbs64_len he
  have hNb := (nbits_bytes (valB ns) ns.length).2 (valB_lt lx)
  have hSl := limbs_bytes_len (k := 128) (valB_lt ly) (by omega)
  have he0 : 0 < e := by have := hS.e3; omega
  have HO := Lib.hid (show openOf ns sig e = if valB sig < valB ns then (octs ns.length (valB sig ^ e % valB ns), 0) else ([], 1) from rfl)
  have HV := Lib.hid (val_limbs (valB ns))
  generalize openOf ns sig e = R at *
  have hOfS : ∀ w', Rd .u8 w' B sig → Calls Tryz.prog 113 #[.slice B m d] w' (Gives2 .u32 (limbs (valB sig)) 0 w') := fun w' h => of_any B m d sig w' hm (by omega) h ly
  have hOfN : ∀ w', Rd .u8 w' A ns → Calls Tryz.prog 113 #[.slice A ns.length c] w' (Gives2 .u32 (limbs (valB ns)) 0 w') := fun w' h => of_any A _ c ns w' rfl (by omega) h lx
  have hvn : val (limbs (valB ns)) = valB ns := val_limbs _
  generalize valB ns = M at *
  generalize valB sig = S at *
  clear hl lx ly hm
  unfold keyVal
  go_enter Tryz.func81, Tryz.ntmps81
  go_wp2_with fail
  have K := key_new w A ns.length c e 28
  have e1 : Below w.heap.size w (w.alloc (.cells #[.slice A ns.length c, .int .u64 (e : Int)] 28)) := (Below.refl _ _).alloc (Nat.le_refl _) _
  generalize w.alloc (.cells #[.slice A ns.length c, .int .u64 (e : Int)] 28) = w1 at *
  refine (hOfN w1 (hx.below e1)).mono ?_
  rintro r w2 ⟨A2, c2, rfl, h2a, h2b, o2, e2⟩
  have K := K.below e2
  have e2 := e1.trans (e2.mono e1.size)
  have o2 := o2.mono e1.size
  clear e1
  have k0 := K.c0
  have k1 := K.c1
  go_wp2_with fail
  refine (hOfS w2 (hy.below e2)).mono ?_
  rintro r w3 ⟨A3, c3, rfl, h3a, h3b, o3, e3⟩
  have K := K.below e3
  have o2 := o2.below e3
  have e3 := e2.trans (e3.mono e2.size)
  have o3 := o3.mono e2.size
  clear e2 k0 k1
  go_wp2_with fail
  refine (newYes_any A2 _ c2 (limbs M) w3 rfl o2.rd hM).mono ?_
  rintro r w4 ⟨g4, rfl, m4, e4⟩
  have K := K.below e4
  have o3 := o3.below e4
  have m4 := m4.mono e3.size
  have e4 := e3.trans (e4.mono e3.size)
  clear e3
  have k0 := K.c0
  have k1 := K.c1
  go_wp2_with fail
  refine (limbs_any e w4 he0 he).mono ?_
  rintro r w5 ⟨A5, c5, rfl, h5a, h5b, o5, e5⟩
  have K := K.below e5
  have o3 := o3.below e5
  have m5 := m4.below e5
  have o5 := o5.mono e4.size
  have e5 := e4.trans (e5.mono e4.size)
  clear e4 m4 k0 k1
  go_wp2_with fail
  by_cases hlt : S < M
  · obtain ⟨r, hr⟩ : ∃ r, r = S ^ e % M := ⟨_, rfl⟩
    have HR := HO.out
    rw [if_pos hlt, ← hr] at HR
    have HR := Lib.hid HR
    have hrM : r < M := by rw [hr]; exact Nat.mod_lt _ (by omega)
    have hrb : nbits r ≤ 8 * ns.length := Nat.le_trans (nbits_mono (Nat.le_of_lt hrM)) hNb
    have hrl : (limbs r).length ≤ 128 := limbs_in hM (by rw [hvn]; exact hrM)
    refine (exp_at hM (x := S) (e := e) (v := r) (by rw [hvn]; exact hlt) (by omega) (by rw [hvn]; exact hr) w.heap.size g4 A3 A5 c3 c5 w5 m5 o3.rd o5.rd).mono ?_
    rintro q w6 ⟨A6, c6, rfl, h6a, h6b, o6, e6⟩
    have K := K.below e6
    have o6 := o6.mono e5.size
    have e6 := e5.trans (e6.mono e5.size)
    clear e5 HO hr
    have k0 := K.c0
    have k1 := K.c1
    go_wp2_with fail
    have hO := octets_any_ok A6 _ c6 (limbs r) ns.length w6 rfl (by omega) o6.rd (limbs_lim _) (isRight_limbs (by omega)) (by omega) (by rw [val_limbs]; omega)
    rw [val_limbs] at hO
    refine hO.mono ?_
    rintro q w7 ⟨A7, c7, rfl, h7a, h7b, o7, e7⟩
    have o7 := o7.mono e6.size
    have e7 := e6.trans (e7.mono e6.size)
    clear e6 k0 k1 hO
    go_wp2_with fail
    go_ret2
    rw [HR.out]
    exact ⟨A7, c7, rfl, h7a, h7b, o7, e7⟩
  · have HR := HO.out
    rw [if_neg hlt] at HR
    have HR := Lib.hid HR
    have hF : expMOf (limbs S) (limbs e) (limbs M) = ([], 1) := by
      unfold expMOf mayOf
      rw [if_neg]
      rintro ⟨h, -⟩
      rw [val_limbs, val_limbs] at h
      simp [hlt] at h
    have hX := mexp_any w.heap.size g4 (limbs M) A3 A5 _ _ c3 c5 (limbs S) (limbs e) w5 m5 hM rfl rfl (by omega) (by omega) o3.rd o5.rd (limbs_lim _) (limbs_lim _)
    rw [hF] at hX
    refine hX.mono ?_
    rintro q w6 ⟨A6, c6, rfl, h6a, h6b, o6, e6⟩
    have e6 := e5.trans (e6.mono e5.size)
    clear e5 HO hX hF
    go_wp2_with fail
    go_ret2
    rw [HR.out]
    exact ⟨none, 0, rfl, Nat.le_refl _, Nat.zero_le _, Own.nil _ _ _ _, e6⟩
def verB (ns : List Nat) (e : Nat) (ds sig : List Nat) : Bool :=
  soundB ns e && decide (sig.length = ns.length) && decide (valB sig < valB ns) && decide (octs ns.length (valB sig ^ e % valB ns) = encN ds ns.length)
theorem verB_unsound {ns ds sig : List Nat} {e : Nat} (h : ¬ Sounds ns e) : verB ns e ds sig = false := by
  unfold verB
  rw [show soundB ns e = false from by
    cases hb : soundB ns e with
    | false => rfl
    | true => exact absurd ((soundB_iff ns e).1 hb) h]
  rfl
theorem verB_len {ns ds sig : List Nat} {e : Nat} (h : sig.length ≠ ns.length) : verB ns e ds sig = false := by
  unfold verB
  simp [h]
theorem verB_big {ns ds sig : List Nat} {e : Nat} (h : ¬ valB sig < valB ns) : verB ns e ds sig = false := by
  unfold verB
  rw [show decide (valB sig < valB ns) = false from decide_eq_false h]
  simp
theorem verB_sound {ns ds sig : List Nat} {e : Nat} (h1 : Sounds ns e) (h2 : sig.length = ns.length) (h3 : valB sig < valB ns) : verB ns e ds sig = decide (octs ns.length (valB sig ^ e % valB ns) = encN ds ns.length) := by
  unfold verB
  rw [show soundB ns e = true from (soundB_iff ns e).2 h1, decide_eq_true h2, decide_eq_true h3]
  rfl
theorem encOf_ok {ds : List Nat} {n : Nat} (h1 : 62 ≤ n) (h2 : n ≤ 512) : encOf ds (n : Int) = (encN ds n, 0) := by
  unfold encOf
  rw [if_neg (by omega)]
  rfl
def RetW (b : Bool) (w : World) (e : Ending) (w' : World) : Prop := e = .returned (.bool b) ∧ Below w.heap.size w w'
theorem size_32u8 : (Tryz.prog.info? 49).map (·.size) = some 32 := by kernel_rfl
theorem size_key : (Tryz.prog.info? 28).map (·.size) = some 2 := by kernel_rfl
end Go.Proofs.YtchaahnhpeoomaaGreat
namespace Go.Proofs.YtchaahnhpeoomaaGreat
set_option linter.unusedVariables false
set_option linter.unusedSimpArgs false
set_option maxRecDepth 20000
open Go.RowKit
set_option maxRecDepth 100000 in
set_option maxHeartbeats 1600000 in
theorem verify_any (A B : Option Addr) (n c e m d : Nat) (ns ds sig : List Nat) (w : World) (hn : n = ns.length) (hm : m = sig.length) (hl : n ≤ 70000) (hl' : m ≤ 9223372036854775807) (hx : Rd .u8 w A ns) (hy : Rd .u8 w B sig) (lx : Lim 256 ns) (ly : Lim 256 sig)
    (hd : ds.length = 32) (ld : Lim 256 ds) (he : e < 18446744073709551616) :
    Calls Tryz.prog 59 #[keyVal A n c e, .agg (ints .u8 ds).toArray, .slice B m d] w (RetW (verB ns e ds sig) w) := by
  subst hn
  subst hm
  obtain ⟨V, hV⟩ : ∃ V, V = verB ns e ds sig := ⟨_, rfl⟩
  rw [← hV]
  have HV := Lib.hid hV
  clear hV
  obtain ⟨w1, hw1⟩ : ∃ w1, w1 = w.alloc (.cells #[.slice A ns.length c, .int .u64 (e : Int)] 28) := ⟨_, rfl⟩
  obtain ⟨w2, hw2⟩ : ∃ w2, w2 = w1.alloc (.cells (ints .u8 ds).toArray 49) := ⟨_, rfl⟩
  have K : KeyAt w1 w.heap.size A ns.length c e := by rw [hw1]; exact key_new w A ns.length c e _
  have e1 : Below w.heap.size w w1 := by rw [hw1]; exact (Below.refl _ _).alloc (Nat.le_refl _) _
  have s1 : w1.heap.size = w.heap.size + 1 := by rw [hw1]; simp
  have D : Whl .u8 49 w2 (w.heap.size + 1) ds := by rw [hw2, ← s1]; exact whl_new0 _ _
  have e2 : Below w1.heap.size w1 w2 := by rw [hw2]; exact (Below.refl _ _).alloc (Nat.le_refl _) _
  have K := K.below e2
  have e2 := e1.trans (e2.mono e1.size)
  have hS := sound_any A _ c e ns w2 rfl (by omega) (hx.below e2) lx he
  unfold keyVal at hS ⊢
  by_cases hso : Sounds ns e
  · rw [soundE_yes hso] at hS
    have hSo := Lib.hid hso
    clear hso
    by_cases hls : sig.length = ns.length
    · have hLs := Lib.hid hls
      have z1 : ((sig.length : Int) != (ns.length : Int)) = false := by simp [hls]
      clear hls
      go_enter Tryz.func59, Tryz.ntmps59
      have k0 := K.c0
      have k1 := K.c1
      go_wp2_with fail
      rw [← hw1, ← hw2]
      clear hw1 hw2
      refine hS.mono ?_
      rintro r w3 ⟨rfl, e3⟩
      have K := K.below e3
      have D := D.below e3
      have e3 := e2.trans (e3.mono e2.size)
      clear hS e2 k0 k1
      have k0 := K.c0
      have k1 := K.c1
      go_wp2_with fail
      have hO := open_any A B _ c e _ d ns sig w3 rfl rfl (hx.below e3) (hy.below e3) lx ly he hSo.out hLs.out
      unfold keyVal at hO
      refine hO.mono ?_
      rintro r w4 ⟨A4, c4, rfl, h4a, h4b, o4, e4⟩
      have K := K.below e4
      have D := D.below e4
      have o4 := o4.mono e3.size
      have e4 := e3.trans (e4.mono e3.size)
      clear hO e3 k0 k1
      have k0 := K.c0
      have k1 := K.c1
      have hlen : 62 ≤ ns.length ∧ ns.length ≤ 512 := by have := hSo.out.len; omega
      have HL := Lib.hid hlen
      by_cases hlt : valB sig < valB ns
      · have hQ : openOf ns sig e = (octs ns.length (valB sig ^ e % valB ns), 0) := by unfold openOf; rw [if_pos hlt]
        have hV := verB_sound (ds := ds) hSo.out hLs.out hlt
        obtain ⟨r, hr⟩ : ∃ r, r = valB sig ^ e % valB ns := ⟨_, rfl⟩
        rw [← hr] at hQ hV
        rw [hQ] at o4 h4a ⊢
        have HV2 := Lib.hid (HV.out.trans hV)
        clear hV hQ hr HV hlt hlen
        have E := encode_any ds (ns.length : Int)
        rw [encOf_ok HL.out.1 HL.out.2] at E
        go_wp2_with (refine wpList_load_whl rfl 49 (.tmp 4) rfl (w.heap.size + 1) rfl .u8 _ ds D _ Tryz.underlying49 rfl (by rw [hd]; exact size_32u8) ?_)
        refine (E w4 hd ld (by omega)).mono ?_
        rintro q w5 ⟨A5, c5, rfl, h5a, h5b, o5, e5⟩
        have o4 := o4.below e5
        have o5 := o5.mono e4.size
        have e5 := e4.trans (e5.mono e4.size)
        clear e4 k0 k1 E
        go_wp2_with fail
        refine (bytesEqual_any A4 A5 _ _ c4 c5 (octs ns.length r) (encN ds ns.length) w5 rfl rfl o4.rd o5.rd (octs_lim _ _) (encN_lim _ _ ld)).mono ?_
        rintro q w6 ⟨rfl, rfl⟩
        go_wp2_with fail
        go_ret
        exact ⟨ret_bool HV2.out.symm, e5⟩
      · have hQ : openOf ns sig e = ([], 1) := by unfold openOf; rw [if_neg hlt]
        have HV2 := Lib.hid (HV.out.trans (verB_big hlt))
        rw [hQ]
        clear hQ HV hlt hlen
        go_wp2_with fail
        go_ret
        exact ⟨ret_bool HV2.out.symm, e4⟩
    · have HV2 := Lib.hid (HV.out.trans (verB_len hls))
      have z1 : ((sig.length : Int) != (ns.length : Int)) = true := by simp; omega
      clear hls HV
      go_enter Tryz.func59, Tryz.ntmps59
      have k0 := K.c0
      have k1 := K.c1
      go_wp2_with fail
      rw [← hw1, ← hw2]
      clear hw1 hw2
      refine hS.mono ?_
      rintro r w3 ⟨rfl, e3⟩
      have K := K.below e3
      have e3 := e2.trans (e3.mono e2.size)
      clear hS e2 k0 k1
      have k0 := K.c0
      have k1 := K.c1
      go_wp2_with fail
      go_ret
      exact ⟨ret_bool HV2.out.symm, e3⟩
  · rw [soundE_no hso] at hS
    have HV2 := Lib.hid (HV.out.trans (verB_unsound hso))
    clear hso HV
    go_enter Tryz.func59, Tryz.ntmps59
    have k0 := K.c0
    have k1 := K.c1
    go_wp2_with fail
    rw [← hw1, ← hw2]
    clear hw1 hw2
    refine hS.mono ?_
    rintro r w3 ⟨rfl, e3⟩
    have e3 := e2.trans (e3.mono e2.size)
    clear hS e2 k0 k1
    go_wp2_with fail
    go_ret
    exact ⟨ret_bool HV2.out.symm, e3⟩
end Go.Proofs.YtchaahnhpeoomaaGreat
namespace Go.Proofs.YtchaahnhpeoomaaGreat
set_option linter.unusedVariables false
set_option linter.unusedSimpArgs false
set_option maxRecDepth 20000
open Go.RowKit
end Go.Proofs.YtchaahnhpeoomaaGreat
namespace Go.Proofs.YtchaahnhpeoomaaGreat
set_option linter.unusedVariables false
set_option linter.unusedSimpArgs false
set_option maxRecDepth 20000
open Go.RowKit
def sRow (b : Nat) : List Nat := b :: (List.replicate 20 0 ++ [1536])
def forB (ds : List Nat) : Nat := if ds[31]?.getD 0 % 2 = 0 then 1 else 0
def forS (ds : List Nat) : Nat := val (sRow (forB ds))
def forE (ds : List Nat) : Nat := valB (encN ds 256)
def forN (ds : List Nat) : Nat := forS ds * forS ds * forS ds - forE ds
def forKey (ds : List Nat) : List Nat := octs 256 (forN ds)
def forSig (ds : List Nat) : List Nat := octs 256 (forS ds)
theorem forB_or (ds : List Nat) : forB ds = 0 ∨ forB ds = 1 := by unfold forB; split <;> simp
theorem sRow_lim {b : Nat} (h : b = 0 ∨ b = 1) : Lim 4294967296 (sRow b) := by
  rcases h with rfl | rfl <;> exact lim_small (by decide)
theorem sRow_right {b : Nat} (h : b = 0 ∨ b = 1) : isRight (sRow b) = true := by
  rcases h with rfl | rfl <;> decide
theorem forS_limbs (ds : List Nat) : limbs (forS ds) = sRow (forB ds) := limbs_val (isRight_canon (sRow_lim (forB_or ds)) (sRow_right (forB_or ds)))
def p254 : Nat := 256 ^ 254
theorem p254_pos : 0 < p254 := by decide +kernel
theorem pow255 : 256 ^ 255 = 256 * p254 := by decide +kernel
theorem pow256' : 256 ^ 256 = 65536 * p254 := by decide +kernel
theorem forS_lo (ds : List Nat) : 32770 * p254 ≤ forS ds * forS ds * forS ds := by
  unfold forS
  rcases forB_or ds with h | h <;> rw [h] <;> decide +kernel
theorem forS_hi (ds : List Nat) : forS ds * forS ds * forS ds + forS ds < 65536 * p254 := by
  unfold forS
  rcases forB_or ds with h | h <;> rw [h] <;> decide +kernel
theorem forS_lt (ds : List Nat) : forS ds < p254 := by
  unfold forS
  rcases forB_or ds with h | h <;> rw [h] <;> decide +kernel
theorem forS_len (ds : List Nat) : (limbs (forS ds * forS ds)).length ≤ 64 ∧ (limbs (forS ds * forS ds * forS ds)).length ≤ 64 := by
  have h := forS_hi ds
  rw [← pow256'] at h
  have h3 : forS ds * forS ds * forS ds < 256 ^ 256 := by omega
  have h2 : forS ds * forS ds ≤ forS ds * forS ds * forS ds := by
    rcases Nat.eq_zero_or_pos (forS ds) with h0 | h0
    · rw [h0]; simp
    · exact Nat.le_mul_of_pos_right _ h0
  exact ⟨limbs_bytes_len (Nat.lt_of_le_of_lt h2 h3) (by omega), limbs_bytes_len h3 (by omega)⟩
theorem forS_odd (ds : List Nat) : forS ds % 2 = forB ds := by
  unfold forS
  rcases forB_or ds with h | h <;> rw [h] <;> decide +kernel
theorem enc_tail_len {ds : List Nat} (k : Nat) (hd : ds.length = 32) : (List.replicate k 255 ++ ([0] ++ (head19 ++ ds))).length = k + 52 := by
  simp [head19, hd]
theorem enc_last {ds : List Nat} (k : Nat) : ([0, 1] ++ (List.replicate k 255 ++ ([0] ++ (head19 ++ ds))))[k + 53]? = ds[31]? := by
  rw [List.getElem?_append_right (by simp), List.getElem?_append_right (by simp), List.getElem?_append_right (by simp), List.getElem?_append_right (by simp [head19])]
  congr 1
  simp [head19]
theorem forE_lt {ds : List Nat} (hd : ds.length = 32) (ld : Lim 256 ds) : forE ds < 2 * p254 := by
  unfold forE encN
  rw [valB_append]
  have hl : (List.replicate (256 - 54) 255 ++ ([0] ++ (head19 ++ ds))).length = 254 := enc_tail_len (256 - 54) hd
  have hlim : Lim 256 (List.replicate (256 - 54) 255 ++ ([0] ++ (head19 ++ ds))) := fun x hx => encN_lim ds 256 ld x (by unfold encN; simp only [List.mem_append] at hx ⊢; exact .inr hx)
  have h := valB_lt hlim
  rw [hl] at h ⊢
  have e : valB [0, 1] = 1 := by decide
  rw [e]
  unfold p254
  omega
theorem forE_odd {ds : List Nat} {y : Nat} (hd : ds.length = 32) (hy : ds[31]? = some y) : forE ds % 2 = y % 2 := by
  refine valB_odd ?_
  rw [encN_length ds 256 hd (by omega)]
  exact (enc_last (ds := ds) (256 - 54)).trans hy
theorem forN_bounds {ds : List Nat} (hd : ds.length = 32) (ld : Lim 256 ds) : 32768 * p254 ≤ forN ds ∧ forN ds < 65536 * p254 ∧ forS ds + forN ds < 65536 * p254 ∧ forS ds < forN ds ∧ forE ds < forN ds ∧ forS ds * forS ds * forS ds = forE ds + forN ds := by
  have h1 := forS_lo ds
  have h2 := forS_hi ds
  have h3 := forS_lt ds
  have h4 := forE_lt hd ld
  have h5 := p254_pos
  unfold forN
  generalize forS ds * forS ds * forS ds = C at *
  generalize forS ds = S at *
  generalize forE ds = E at *
  generalize p254 = P at *
  omega
theorem forN_odd {ds : List Nat} (hd : ds.length = 32) (ld : Lim 256 ds) : forN ds % 2 = 1 := by
  obtain ⟨y, hy⟩ := get_of_lt (xs := ds) (i := 31) (by omega)
  have h1 := forS_odd ds
  have h2 := forE_odd hd hy
  obtain ⟨_, _, _, _, _, h3⟩ := forN_bounds hd ld
  have hB : forB ds = if y % 2 = 0 then 1 else 0 := by unfold forB; rw [hy]; rfl
  rw [hB] at h1
  have h4 : (forS ds * forS ds * forS ds) % 2 = forS ds % 2 := by
    rw [Nat.mul_mod, Nat.mul_mod (forS ds) (forS ds), h1]
    split <;> rfl
  rw [h1] at h4
  generalize forS ds * forS ds * forS ds = C at *
  split at h4 <;> omega
theorem forN_lt {ds : List Nat} (hd : ds.length = 32) (ld : Lim 256 ds) : forN ds < 256 ^ 256 := by
  rw [pow256']
  exact (forN_bounds hd ld).2.1
theorem forN_len {ds : List Nat} (hd : ds.length = 32) (ld : Lim 256 ds) : (limbs (forN ds)).length ≤ 64 := limbs_bytes_len (forN_lt hd ld) (by omega)
theorem forE_len {ds : List Nat} (hd : ds.length = 32) (ld : Lim 256 ds) : (limbs (forE ds)).length ≤ 64 := limbs_bytes_len (Nat.lt_trans (forN_bounds hd ld).2.2.2.2.1 (forN_lt hd ld)) (by omega)
theorem forS_lt256 (ds : List Nat) : forS ds < 256 ^ 256 := by
  rw [pow256']
  have := forS_hi ds
  omega
theorem forKey_val {ds : List Nat} (hd : ds.length = 32) (ld : Lim 256 ds) : valB (forKey ds) = forN ds := by
  unfold forKey
  rw [valB_octs, pow256']
  exact Nat.mod_eq_of_lt (forN_bounds hd ld).2.1
theorem forSig_val {ds : List Nat} (hd : ds.length = 32) (ld : Lim 256 ds) : valB (forSig ds) = forS ds := by
  unfold forSig
  rw [valB_octs, pow256']
  have := forN_bounds hd ld
  exact Nat.mod_eq_of_lt (by omega)
theorem forKey_len (ds : List Nat) : (forKey ds).length = 256 := octs_length _ _
theorem forSig_len (ds : List Nat) : (forSig ds).length = 256 := octs_length _ _
theorem forKey_lim (ds : List Nat) : Lim 256 (forKey ds) := octs_lim _ _
theorem forSig_lim (ds : List Nat) : Lim 256 (forSig ds) := octs_lim _ _
theorem forKey_first {ds : List Nat} (hd : ds.length = 32) (ld : Lim 256 ds) : ∃ x, (forKey ds)[0]? = some x ∧ 128 ≤ x ∧ x < 256 := by
  refine ⟨_, octs_get (by omega), ?_, Nat.mod_lt _ (by omega)⟩
  rw [show 256 - 1 - 0 = 255 from rfl, pow255]
  obtain ⟨h1, h2, _⟩ := forN_bounds hd ld
  have h5 := p254_pos
  have h6 : forN ds / (256 * p254) < 256 := by
    rw [Nat.div_lt_iff_lt_mul (by omega)]
    omega
  rw [Nat.mod_eq_of_lt h6, Nat.le_div_iff_mul_le (by omega)]
  omega
theorem forKey_last {ds : List Nat} (hd : ds.length = 32) (ld : Lim 256 ds) : ∃ x, (forKey ds)[255]? = some x ∧ x % 2 = 1 ∧ x < 256 := by
  refine ⟨_, octs_get (by omega), ?_, Nat.mod_lt _ (by omega)⟩
  rw [show 256 - 1 - 255 = 0 from rfl, Nat.pow_zero, Nat.div_one]
  have := forN_odd hd ld
  omega
theorem for_sounds {ds : List Nat} (hd : ds.length = 32) (ld : Lim 256 ds) : Sounds (forKey ds) 3 := by
  obtain ⟨x, hx, h1, _⟩ := forKey_first hd ld
  obtain ⟨y, hy, h2, _⟩ := forKey_last hd ld
  exact ⟨.inl (forKey_len ds), by rw [hx]; exact h1, by rw [forKey_len, hy]; exact h2, by omega, by omega, by omega⟩
theorem encN_inj {ds ds' : List Nat} {n : Nat} (h : encN ds n = encN ds' n) : ds = ds' := by
  unfold encN at h
  simpa using h
theorem ver_for {ds ds' : List Nat} (hd : ds.length = 32) (ld : Lim 256 ds) : verB (forKey ds) 3 ds' (forSig ds) = decide (ds = ds') := by
  obtain ⟨h1, h2, h3, h4, h5, h6⟩ := forN_bounds hd ld
  rw [verB_sound (for_sounds hd ld) (by rw [forKey_len, forSig_len]) (by rw [forKey_val hd ld, forSig_val hd ld]; exact h4), forKey_val hd ld, forSig_val hd ld, forKey_len]
  have e : forS ds ^ 3 % forN ds = forE ds := by
    rw [show forS ds ^ 3 = forS ds * forS ds * forS ds by rw [Nat.pow_succ, Nat.pow_succ, Nat.pow_succ, Nat.pow_zero, Nat.one_mul], h6, Nat.add_mod_right]
    exact Nat.mod_eq_of_lt h5
  have o := octs_valB (encN_lim ds 256 ld) 0
  rw [Nat.add_zero, encN_length ds 256 hd (by omega), List.replicate_zero, List.nil_append] at o
  rw [e, show forE ds = valB (encN ds 256) from rfl, o]
  rw [Bool.eq_iff_iff, decide_eq_true_eq, decide_eq_true_eq]
  exact ⟨encN_inj, fun h => by rw [h]⟩
end Go.Proofs.YtchaahnhpeoomaaGreat
namespace Go.Proofs.YtchaahnhpeoomaaGreat
set_option linter.unusedVariables false
set_option linter.unusedSimpArgs false
set_option maxRecDepth 20000
open Go.RowKit
def ForPost (ds : List Nat) (w : World) (e : Ending) (w' : World) : Prop :=
  ∃ A c B d, e = .returned (.tuple #[keyVal A 256 c 3, .slice B 256 d]) ∧ 256 ≤ c ∧ c ≤ maxLen ∧ Own .u8 w' w.heap.size A (forKey ds) ∧ 256 ≤ d ∧ d ≤ maxLen ∧ Own .u8 w' w.heap.size B (forSig ds) ∧ Below w.heap.size w w'
theorem row_0 : (List.replicate 22 0).set 21 1536 = sRow 0 := by decide
theorem row_1 : (sRow 0).set 0 1 = sRow 1 := by decide
theorem row_at : (List.replicate 22 0)[21]? = some 0 := by decide
theorem row_at0 : (sRow 0)[0]? = some 0 := by decide
theorem refOctets_at (A : Option Addr) (c v : Nat) (w : World) (hl : (limbs v).length ≤ 64) (hv : v < 256 ^ 256) (hx : Rd .u32 w A (limbs v)) :
    Calls Tryz.prog 74 #[.slice A (limbs v).length c, .int .i64 256] w (Gives2 .u8 (octs 256 v) 0 w) := by
  have h := refOctets_any_ok A _ c (limbs v) 256 w rfl (by omega) hx (limbs_lim _) (isRight_limbs (by omega)) (by omega) (by rw [val_limbs]; exact (nbits_bytes v 256).2 hv)
  rw [val_limbs] at h
  exact h
theorem refMul_at (A B : Option Addr) (c d x y : Nat) (w : World) (hx : (limbs x).length ≤ 256) (hy : (limbs y).length ≤ 256) (hz : (limbs (x * y)).length ≤ 256) (h1 : Rd .u32 w A (limbs x)) (h2 : Rd .u32 w B (limbs y)) :
    Calls Tryz.prog 72 #[.slice A (limbs x).length c, .slice B (limbs y).length d] w (Gives2 .u32 (limbs (x * y)) 0 w) := by
  have h := refMul_all A B _ _ c d (limbs x) (limbs y) w rfl rfl (by omega) (by omega) h1 h2 (limbs_lim _) (limbs_lim _)
  unfold mulOf at h
  rw [if_pos ⟨isRight_limbs hx, isRight_limbs hy⟩, val_limbs, val_limbs, fitsOf_ok hz] at h
  exact h
theorem refSub_at (A B : Option Addr) (c d x y : Nat) (w : World) (hx : (limbs x).length ≤ 256) (hy : (limbs y).length ≤ 256) (hz : y ≤ x) (h1 : Rd .u32 w A (limbs x)) (h2 : Rd .u32 w B (limbs y)) :
    Calls Tryz.prog 73 #[.slice A (limbs x).length c, .slice B (limbs y).length d] w (Gives2 .u32 (limbs (x - y)) 0 w) := by
  have h := refSub_all A B _ _ c d (limbs x) (limbs y) w rfl rfl (by omega) (by omega) h1 h2 (limbs_lim _) (limbs_lim _)
  unfold subOf at h
  rw [if_pos ⟨isRight_limbs hx, isRight_limbs hy, by rw [val_limbs, val_limbs]; exact hz⟩, val_limbs, val_limbs] at h
  exact h
theorem own_grown {k : IntKind} {w w' : World} {B g : Nat} {A : Option Addr} {xs : List Nat} (h : Own k w B A xs) (hg : w.grownBy w' (some g)) (hB : g < B) : Own k w' B A xs := by
  rcases h with rfl | ⟨g', off, ds, rfl, hB', hk, hx⟩
  · exact Or.inl rfl
  · exact Or.inr ⟨g', off, ds, rfl, hB', hk.keep hg.size (hg.block g' hk.lt (by intro e; injection e with e; omega)), hx⟩
theorem results_key {fn : Func} {p u : Tmp} (h : fn.results = #[.cell p 28, .tmp u]) (tmps : Array Value) (w : World) (g : Nat) (A : Option Addr) (n c e : Nat)
    (hp : tmps.getD p undef = .pointer (some ⟨g, 0, none⟩)) (hc : w.rangeAt g 0 [.slice A n c, .int .u64 (e : Int)]) :
    (results fn tmps).run Tryz.prog w = .ok (.tuple #[keyVal A n c e, tmps.getD u undef]) w := by
  have hp' : tmps[p]?.getD undef = .pointer (some ⟨g, 0, none⟩) := by simpa using hp
  have hl := run_loadVar_mid (P := Tryz.prog) w g 0 28 _ _ hc Tryz.underlying28 rfl size_key
  simp [results, h, hp', asAddr, hl, keyVal]
set_option maxRecDepth 100000 in
set_option maxHeartbeats 3200000 in
theorem for_any (ds : List Nat) (w : World) (hd : ds.length = 32) (ld : Lim 256 ds) :
    Calls Tryz.prog 39 #[.agg (ints .u8 ds).toArray] w (ForPost ds w) := by
  obtain ⟨w1, hw1⟩ : ∃ w1, w1 = w.alloc (.cells (ints .u8 ds).toArray 49) := ⟨_, rfl⟩
  obtain ⟨w2, hw2⟩ : ∃ w2, w2 = w1.alloc (.cells #[.slice none 0 0, .int .u64 0] 28) := ⟨_, rfl⟩
  have s1 : w1.heap.size = w.heap.size + 1 := by rw [hw1]; simp
  have D : Whl .u8 49 w1 w.heap.size ds := by rw [hw1]; exact whl_new0 _ _
  have e1 : Below w.heap.size w w1 := by rw [hw1]; exact (Below.refl _ _).alloc (Nat.le_refl _) _
  have e2 : Below w1.heap.size w1 w2 := by rw [hw2]; exact (Below.refl _ _).alloc (Nat.le_refl _) _
  have K : Cut w2 (w.heap.size + 1) 0 [.slice none 0 0, .int .u64 0] := by rw [hw2, ← s1]; exact Cut.of_heap (heap_alloc_new _ _) fun i v hv => by simpa using hv
  have s2 : w2.heap.size = w.heap.size + 1 + 1 := by rw [hw2]; simp [s1]
  have D := D.below e2
  have e2 := e1.trans (e2.mono e1.size)
  clear e1
  obtain ⟨y, hy⟩ := get_of_lt (xs := ds) (i := 31) (by omega)
  have hb : forB ds = if y % 2 = 0 then 1 else 0 := by unfold forB; rw [hy]; rfl
  have hy256 := ld.get hy
  have hE := encOf_ok (ds := ds) (n := 256) (by omega) (by omega)
  have hs2 : w.heap.size + 1 + 1 ≤ w2.heap.size := by omega
  obtain ⟨b, hb1⟩ : ∃ b, b = forB ds := ⟨_, rfl⟩
  have HSL := Lib.hid (forS_limbs ds)
  rw [← hb1] at HSL
  have HM := Lib.hid (show ∀ w' g, Whl .u32 129 w' g (sRow b) → Rd .u32 w' (some ⟨g, 0, none⟩) (limbs (forS ds)) from fun w' g h => by
    rw [HSL.out]
    exact Rd.of_all h.blk)
  have HL := Lib.hid (show (limbs (forS ds)).length = 22 by rw [HSL.out]; simp [sRow])
  rw [← hb1] at hb
  clear hb1
  by_cases h2 : y % 2 = 0
  · rw [if_pos h2] at hb
    subst hb
    have z1 : ((y : Int) % 2 == 0) = true := by simp; omega
    clear h2
    go_enter Tryz.func39, Tryz.ntmps39
    go_wp2_with (first
      | (at_make
         rw [← hw1, ← hw2]
         refine wpList_make_ints _ rfl (.const (.int .i64 22)) (.const (.int .i64 22)) _ rfl .u32 129 4 Tryz.underlying128 info_u32 _ _ 22 _ _ rfl rfl rfl rfl (by omega) (by omega) ?_
         intro g w3 hg hw3 hs3 hb3
         have hgw : w.heap.size + 1 < g := by rw [hg.out]; omega
         have c21 := hw3.blk.cell row_at
         have f21 := hw3.blk.frozen row_at
         have hw4 : Whl .u32 129 (w3.setCell ⟨g, 21, none⟩ (.int .u32 1536)) g (sRow 0) := by rw [← row_0]; exact hw3.set 21 1536
         have D3 := D.below hb3
         have K3 := K.below hb3
         have D4 := D3.far (p := ⟨g, 21, none⟩) (by show _ ≠ g; omega) (.int .u32 1536)
         have K4 := K3.far (p := ⟨g, 21, none⟩) (by show _ ≠ g; omega) (.int .u32 1536)
         have c31 := D4.blk.cell hy
         have c0 := hw4.blk.cell row_at0
         have f0 := hw4.blk.frozen row_at0
         have hw5 : Whl .u32 129 ((w3.setCell ⟨g, 21, none⟩ (.int .u32 1536)).setCell ⟨g, 0, none⟩ (.int .u32 1)) g (sRow 1) := by first | exact hw4 | (rw [← row_1]; exact hw4.set 0 1)
         have D5 : Whl .u8 49 ((w3.setCell ⟨g, 21, none⟩ (.int .u32 1536)).setCell ⟨g, 0, none⟩ (.int .u32 1)) w.heap.size ds := by first | exact D4 | exact D4.far (p := ⟨g, 0, none⟩) (by show _ ≠ g; omega) (.int .u32 1)
         have K5 : Cut ((w3.setCell ⟨g, 21, none⟩ (.int .u32 1536)).setCell ⟨g, 0, none⟩ (.int .u32 1)) (w.heap.size + 1) 0 [.slice none 0 0, .int .u64 0] := by first | exact K4 | exact K4.far (p := ⟨g, 0, none⟩) (by show _ ≠ g; omega) (.int .u32 1)
         have e4 : Below w.heap.size w (w3.setCell ⟨g, 21, none⟩ (.int .u32 1536)) := (e2.trans (hb3.mono e2.size)).setCell (by show _ ≤ g; omega) _
         have e5 : Below w.heap.size w ((w3.setCell ⟨g, 21, none⟩ (.int .u32 1536)).setCell ⟨g, 0, none⟩ (.int .u32 1)) := by first | exact e4 | exact e4.setCell (by show _ ≤ g; omega) _
         clear D3 K3 hw4 hw3 D4 K4 e4)
      | (refine wpList_load_whl rfl 49 (.tmp 1) rfl w.heap.size rfl .u8 _ ds D5 _ Tryz.underlying49 rfl (by rw [hd]; exact size_32u8) ?_))
    generalize (w3.setCell ⟨g, 21, none⟩ (.int .u32 1536)).setCell ⟨g, 0, none⟩ (.int .u32 1) = w5 at *
    have E := refEncode_any ds ((256 : Nat) : Int) w5 hd ld (by omega)
    rw [hE] at E
    clear c21 f21 c31 c0 f0 D5 hb3 hs3
    refine E.mono ?_
    rintro r w6 ⟨A6, c6, rfl, h6a, h6b, o6, e6⟩
    have K6 := K5.below e6
    have hw6 := hw5.below e6
    have o6 := o6.mono e5.size
    have e6 := e5.trans (e6.mono e5.size)
    clear E K5 hw5 e5
    go_wp2_with fail
    have hO := refOf_any A6 _ c6 (encN ds 256) w6 rfl (by rw [encN_length ds 256 hd (by omega)]; omega) o6.rd (encN_lim _ _ ld)
    refine hO.mono ?_
    rintro r w7 ⟨A7, c7, rfl, h7a, h7b, o7, e7⟩
    have K7 := K6.below e7
    have hw7 := hw6.below e7
    have o7 := o7.mono e6.size
    have e7 := e6.trans (e7.mono e6.size)
    clear hO K6 hw6 e6 o6
    go_wp2_with fail
    have hX := refMul_at (some ⟨g, 0, none⟩) (some ⟨g, 0, none⟩) 22 22 (forS ds) (forS ds) w7 (by rw [HL.out]; omega) (by rw [HL.out]; omega) (by have := (forS_len ds).1; omega) (HM.out _ _ hw7) (HM.out _ _ hw7)
    rw [HL.out] at hX
    refine hX.mono ?_
    rintro r w8 ⟨A8, c8, rfl, h8a, h8b, o8, e8⟩
    have K8 := K7.below e8
    have hw8 := hw7.below e8
    have o7 := o7.below e8
    have o8 := o8.mono e7.size
    have e8 := e7.trans (e8.mono e7.size)
    clear hX K7 hw7 e7
    go_wp2_with fail
    have hX := refMul_at A8 (some ⟨g, 0, none⟩) c8 22 (forS ds * forS ds) (forS ds) w8 (by have := (forS_len ds).1; omega) (by rw [HL.out]; omega) (by have := (forS_len ds).2; omega) o8.rd (HM.out _ _ hw8)
    rw [HL.out] at hX
    refine hX.mono ?_
    rintro r w9 ⟨A9, c9, rfl, h9a, h9b, o9, e9⟩
    have K9 := K8.below e9
    have hw9 := hw8.below e9
    have o7 := o7.below e9
    have o9 := o9.mono e8.size
    have e9 := e8.trans (e9.mono e8.size)
    clear hX K8 hw8 e8 o8
    go_wp2_with fail
    have hX := refSub_at A9 A7 c9 c7 (forS ds * forS ds * forS ds) (forE ds) w9 (by have := (forS_len ds).2; omega) (by have := forE_len hd ld; omega) (by have := (forN_bounds hd ld).2.2.2.2.2; omega) o9.rd o7.rd
    rw [show forS ds * forS ds * forS ds - forE ds = forN ds from rfl] at hX
    refine hX.mono ?_
    rintro r w10 ⟨A10, c10, rfl, h10a, h10b, o10, e10⟩
    have K10 := K9.below e10
    have hw10 := hw9.below e10
    have o10 := o10.mono e9.size
    have e10 := e9.trans (e10.mono e9.size)
    clear hX K9 hw9 e9 o9 o7
    go_wp2_with fail
    have hX := refOctets_at A10 c10 (forN ds) w10 (forN_len hd ld) (forN_lt hd ld) o10.rd
    refine hX.mono ?_
    rintro r w11 ⟨A11, c11, rfl, h11a, h11b, o11, e11⟩
    have K11 := K10.below e11
    have hw11 := hw10.below e11
    have o11 := o11.mono (show w.heap.size + 1 + 1 ≤ _ from K10.lt)
    have e11 := e10.trans (e11.mono e10.size)
    clear hX K10 hw10 e10 o10
    go_wp2_with fail
    have hX := refOctets_at (some ⟨g, 0, none⟩) 22 (forS ds) w11 (by rw [HL.out]; omega) (forS_lt256 ds) (HM.out _ _ hw11)
    rw [HL.out] at hX
    refine hX.mono ?_
    rintro r w12 ⟨A12, c12, rfl, h12a, h12b, o12, e12⟩
    have K12 := K11.below e12
    have o11 := o11.below e12
    have o12 := o12.mono (show w.heap.size + 1 + 1 ≤ _ from K11.lt)
    have e12 := e11.trans (e12.mono e11.size)
    clear hX K11 hw11 e11
    go_wp2_with (refine wpList_store_cut rfl 28 (.tmp 2) (.tmp 65) rfl (w.heap.size + 1) 0 [.slice A11 (octs 256 (forN ds)).length c11, .int .u64 3] _ rfl rfl K12 rfl size_key (fun v hv => by simp at hv; rcases hv with rfl | rfl <;> rfl) ?_; intro w13 hst)
    have o11 := own_grown o11 hst.1 (Nat.lt_succ_self _)
    have o12 := own_grown o12 hst.1 (Nat.lt_succ_self _)
    have e13 := below_only e12 hst.1 e12.size (show w.heap.size ≤ w.heap.size + 1 by omega)
    refine bodyPost_ret (results_key rfl _ _ (w.heap.size + 1) A11 (octs 256 (forN ds)).length c11 3 rfl hst.2.2.1.range) rfl ?_
    rw [octs_length] at h11a ⊢
    rw [octs_length] at h12a
    refine ⟨A11, c11, A12, c12, ?_, h11a, h11b, o11.mono (by omega), h12a, h12b, o12.mono (by omega), e13⟩
    rfl
  · rw [if_neg h2] at hb
    subst hb
    have z1 : ((y : Int) % 2 == 0) = false := by simp; omega
    clear h2
    go_enter Tryz.func39, Tryz.ntmps39
    go_wp2_with (first
      | (at_make
         rw [← hw1, ← hw2]
         refine wpList_make_ints _ rfl (.const (.int .i64 22)) (.const (.int .i64 22)) _ rfl .u32 129 4 Tryz.underlying128 info_u32 _ _ 22 _ _ rfl rfl rfl rfl (by omega) (by omega) ?_
         intro g w3 hg hw3 hs3 hb3
         have hgw : w.heap.size + 1 < g := by rw [hg.out]; omega
         have c21 := hw3.blk.cell row_at
         have f21 := hw3.blk.frozen row_at
         have hw4 : Whl .u32 129 (w3.setCell ⟨g, 21, none⟩ (.int .u32 1536)) g (sRow 0) := by rw [← row_0]; exact hw3.set 21 1536
         have D3 := D.below hb3
         have K3 := K.below hb3
         have D4 := D3.far (p := ⟨g, 21, none⟩) (by show _ ≠ g; omega) (.int .u32 1536)
         have K4 := K3.far (p := ⟨g, 21, none⟩) (by show _ ≠ g; omega) (.int .u32 1536)
         have c31 := D4.blk.cell hy
         have c0 := hw4.blk.cell row_at0
         have f0 := hw4.blk.frozen row_at0
         have hw5 : Whl .u32 129 (w3.setCell ⟨g, 21, none⟩ (.int .u32 1536)) g (sRow 0) := by first | exact hw4 | (rw [← row_1]; exact hw4.set 0 1)
         have D5 : Whl .u8 49 (w3.setCell ⟨g, 21, none⟩ (.int .u32 1536)) w.heap.size ds := by first | exact D4 | exact D4.far (p := ⟨g, 0, none⟩) (by show _ ≠ g; omega) (.int .u32 1)
         have K5 : Cut (w3.setCell ⟨g, 21, none⟩ (.int .u32 1536)) (w.heap.size + 1) 0 [.slice none 0 0, .int .u64 0] := by first | exact K4 | exact K4.far (p := ⟨g, 0, none⟩) (by show _ ≠ g; omega) (.int .u32 1)
         have e4 : Below w.heap.size w (w3.setCell ⟨g, 21, none⟩ (.int .u32 1536)) := (e2.trans (hb3.mono e2.size)).setCell (by show _ ≤ g; omega) _
         have e5 : Below w.heap.size w (w3.setCell ⟨g, 21, none⟩ (.int .u32 1536)) := by first | exact e4 | exact e4.setCell (by show _ ≤ g; omega) _
         clear D3 K3 hw4 hw3 D4 K4 e4)
      | (refine wpList_load_whl rfl 49 (.tmp 1) rfl w.heap.size rfl .u8 _ ds D5 _ Tryz.underlying49 rfl (by rw [hd]; exact size_32u8) ?_))
    generalize w3.setCell ⟨g, 21, none⟩ (.int .u32 1536) = w5 at *
    have E := refEncode_any ds ((256 : Nat) : Int) w5 hd ld (by omega)
    rw [hE] at E
    clear c21 f21 c31 c0 f0 D5 hb3 hs3
    refine E.mono ?_
    rintro r w6 ⟨A6, c6, rfl, h6a, h6b, o6, e6⟩
    have K6 := K5.below e6
    have hw6 := hw5.below e6
    have o6 := o6.mono e5.size
    have e6 := e5.trans (e6.mono e5.size)
    clear E K5 hw5 e5
    go_wp2_with fail
    have hO := refOf_any A6 _ c6 (encN ds 256) w6 rfl (by rw [encN_length ds 256 hd (by omega)]; omega) o6.rd (encN_lim _ _ ld)
    refine hO.mono ?_
    rintro r w7 ⟨A7, c7, rfl, h7a, h7b, o7, e7⟩
    have K7 := K6.below e7
    have hw7 := hw6.below e7
    have o7 := o7.mono e6.size
    have e7 := e6.trans (e7.mono e6.size)
    clear hO K6 hw6 e6 o6
    go_wp2_with fail
    have hX := refMul_at (some ⟨g, 0, none⟩) (some ⟨g, 0, none⟩) 22 22 (forS ds) (forS ds) w7 (by rw [HL.out]; omega) (by rw [HL.out]; omega) (by have := (forS_len ds).1; omega) (HM.out _ _ hw7) (HM.out _ _ hw7)
    rw [HL.out] at hX
    refine hX.mono ?_
    rintro r w8 ⟨A8, c8, rfl, h8a, h8b, o8, e8⟩
    have K8 := K7.below e8
    have hw8 := hw7.below e8
    have o7 := o7.below e8
    have o8 := o8.mono e7.size
    have e8 := e7.trans (e8.mono e7.size)
    clear hX K7 hw7 e7
    go_wp2_with fail
    have hX := refMul_at A8 (some ⟨g, 0, none⟩) c8 22 (forS ds * forS ds) (forS ds) w8 (by have := (forS_len ds).1; omega) (by rw [HL.out]; omega) (by have := (forS_len ds).2; omega) o8.rd (HM.out _ _ hw8)
    rw [HL.out] at hX
    refine hX.mono ?_
    rintro r w9 ⟨A9, c9, rfl, h9a, h9b, o9, e9⟩
    have K9 := K8.below e9
    have hw9 := hw8.below e9
    have o7 := o7.below e9
    have o9 := o9.mono e8.size
    have e9 := e8.trans (e9.mono e8.size)
    clear hX K8 hw8 e8 o8
    go_wp2_with fail
    have hX := refSub_at A9 A7 c9 c7 (forS ds * forS ds * forS ds) (forE ds) w9 (by have := (forS_len ds).2; omega) (by have := forE_len hd ld; omega) (by have := (forN_bounds hd ld).2.2.2.2.2; omega) o9.rd o7.rd
    rw [show forS ds * forS ds * forS ds - forE ds = forN ds from rfl] at hX
    refine hX.mono ?_
    rintro r w10 ⟨A10, c10, rfl, h10a, h10b, o10, e10⟩
    have K10 := K9.below e10
    have hw10 := hw9.below e10
    have o10 := o10.mono e9.size
    have e10 := e9.trans (e10.mono e9.size)
    clear hX K9 hw9 e9 o9 o7
    go_wp2_with fail
    have hX := refOctets_at A10 c10 (forN ds) w10 (forN_len hd ld) (forN_lt hd ld) o10.rd
    refine hX.mono ?_
    rintro r w11 ⟨A11, c11, rfl, h11a, h11b, o11, e11⟩
    have K11 := K10.below e11
    have hw11 := hw10.below e11
    have o11 := o11.mono (show w.heap.size + 1 + 1 ≤ _ from K10.lt)
    have e11 := e10.trans (e11.mono e10.size)
    clear hX K10 hw10 e10 o10
    go_wp2_with fail
    have hX := refOctets_at (some ⟨g, 0, none⟩) 22 (forS ds) w11 (by rw [HL.out]; omega) (forS_lt256 ds) (HM.out _ _ hw11)
    rw [HL.out] at hX
    refine hX.mono ?_
    rintro r w12 ⟨A12, c12, rfl, h12a, h12b, o12, e12⟩
    have K12 := K11.below e12
    have o11 := o11.below e12
    have o12 := o12.mono (show w.heap.size + 1 + 1 ≤ _ from K11.lt)
    have e12 := e11.trans (e12.mono e11.size)
    clear hX K11 hw11 e11
    go_wp2_with (refine wpList_store_cut rfl 28 (.tmp 2) (.tmp 65) rfl (w.heap.size + 1) 0 [.slice A11 (octs 256 (forN ds)).length c11, .int .u64 3] _ rfl rfl K12 rfl size_key (fun v hv => by simp at hv; rcases hv with rfl | rfl <;> rfl) ?_; intro w13 hst)
    have o11 := own_grown o11 hst.1 (Nat.lt_succ_self _)
    have o12 := own_grown o12 hst.1 (Nat.lt_succ_self _)
    have e13 := below_only e12 hst.1 e12.size (show w.heap.size ≤ w.heap.size + 1 by omega)
    refine bodyPost_ret (results_key rfl _ _ (w.heap.size + 1) A11 (octs 256 (forN ds)).length c11 3 rfl hst.2.2.1.range) rfl ?_
    rw [octs_length] at h11a ⊢
    rw [octs_length] at h12a
    refine ⟨A11, c11, A12, c12, ?_, h11a, h11b, o11.mono (by omega), h12a, h12b, o12.mono (by omega), e13⟩
    rfl
end Go.Proofs.YtchaahnhpeoomaaGreat
namespace Go.Proofs.YtchaahnhpeoomaaGreat
set_option linter.unusedVariables false
set_option linter.unusedSimpArgs false
set_option maxRecDepth 20000
open Go.RowKit
theorem wpList_load_whl_if {P : Program} {ops : Array Oper} {rest : List Oper} {op : Oper} {a : Act} {w : World} {Q : Exit → Act → World → Prop} (hgd : Region.wanted op (yielded ops a.tmps) = true) (ty : TypeId) (x : Operand) (ho : op.op = .load ty x)
    (g : Nat) (hx : a.eval x = .pointer (some ⟨g, 0, none⟩)) (k : IntKind) (e : TypeId) (cs : List Nat) (hw : Whl k e w g cs) (d : TypeDesc)
    (hu : P.underlying ty = some d) (hd : d.isRow = true) (hi : (P.info? ty).map (·.size) = some cs.length)
    (h : wpList P ops Q rest (a.put op.dst (.agg (ints k cs).toArray)) w) : wpList P ops Q (op :: rest) a w :=
  wpList_step fun K hK => by
    rw [if_pos hgd]
    exact wp_load_mid ty x ho g 0 hx (ints k cs) d (Cut.of_blk hw.blk).range hu hd (by rw [hi, ints_length]) (hK _ _ h)
end Go.Proofs.YtchaahnhpeoomaaGreat
