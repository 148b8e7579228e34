/-
  Whether a signature is right, by the program: open and Verify. Holds for every key, digest and signature of up to 70000 bytes.
-/
import Derived.Test.YtfclpieijbgodaaRsaB
import Derived.Test.YtfclpieijbgodaaRsaE
namespace Go.Proofs.Ytfclpieijbgodaa
set_option linter.unusedVariables false
set_option linter.unusedSimpArgs false
open Go.RowKit

/-! ### Numbers below a modulus -/
theorem limbs64_len {v : Nat} (h : v < 18446744073709551616) : (limbs v).length ≤ 2 := limbs_length_le (k := 2) (by omega)
theorem limbs_in {ms : List Nat} (hM : MayM ms) {x : Nat} (hx : x < val ms) : (limbs x).length ≤ 128 :=
  limbs_length_le (Nat.lt_of_lt_of_le hx (Nat.le_of_lt (Nat.lt_of_lt_of_le (val_lt hM.lm) (Nat.pow_le_pow_right (by omega) hM.len))))
theorem may_in {ms : List Nat} (hM : MayM ms) {x : Nat} (hx : x < val ms) : mayOf (limbs x) ms = true := by
  have := may_limbs hM x
  rwa [Nat.mod_eq_of_lt hx] at this
theorem exp_at {ms : List Nat} (hM : MayM ms) {x e v : Nat} (hx : x < val ms) (he : (limbs e).length ≤ 256) (hv : v = x ^ e % val ms) (B g : Nat) (X Y : Option Addr) (c d : Nat) (w : World) (hO : ModOk w B g ms) (h1 : Rd .u32 w X (limbs x)) (h2 : Rd .u32 w Y (limbs e)) :
    Calls Try.prog 37 #[.pointer (some ⟨g, 0, none⟩), .slice X (limbs x).length c, .slice Y (limbs e).length d] w (Gives2 .u32 (limbs v) 0 w) := by
  have h := mexp_any B g ms X Y _ _ c d (limbs x) (limbs e) w hO hM rfl rfl (by have := limbs_in hM hx; omega) (by omega) h1 h2 (limbs_lim _) (limbs_lim _)
  unfold expMOf at h
  rw [if_pos ⟨may_in hM hx, isRight_limbs he⟩, val_limbs, val_limbs, ← hv] at h
  exact h
theorem num_len {e : Nat} (h : e < 18446744073709551616) : (limbs e).length ≤ 256 := Nat.le_trans (limbs64_len h) (by omega)

/-! ### The modulus of a key that may be -/
theorem may_odd {m : Nat} (h : m % 2 = 1) (h3 : 3 ≤ m) (hl : (limbs m).length ≤ 128) : mayB (limbs m) = true := by
  unfold mayB
  have h0 : 0 < (limbs m).length := by
    rw [limbs_pos (by omega)]
    simp
  rw [val_limbs, isRight_limbs (by omega)]
  simp [h, h3, h0, hl]
theorem limbs_bytes_len {v n k : Nat} (h : v < 256 ^ n) (hn : n ≤ 4 * k) : (limbs v).length ≤ k :=
  limbs_length_le (Nat.lt_of_lt_of_le h (by rw [pow_limb_256]; exact Nat.pow_le_pow_right (by omega) hn))
theorem valB_odd {xs : List Nat} {y : Nat} (h : xs[xs.length - 1]? = some y) : valB xs % 2 = y % 2 := by
  have hl := (List.getElem?_eq_some_iff.1 h).1
  have e : xs = xs.take (xs.length - 1) ++ [y] := by
    have h1 := List.take_append_drop (xs.length - 1) xs
    rw [List.drop_eq_getElem_cons hl, List.drop_eq_nil_of_le (by omega)] at h1
    rw [(List.getElem?_eq_some_iff.1 h).2] at h1
    exact h1.symm
  rw [e, valB_append]
  simp [valB]
  omega
theorem valB_top {xs : List Nat} {x : Nat} (h : xs[0]? = some x) : x * 256 ^ (xs.length - 1) ≤ valB xs := by
  cases xs with
  | nil => simp at h
  | cons z zs =>
    simp at h
    subst h
    rw [show z :: zs = [z] ++ zs from rfl, valB_append]
    simp [valB]
theorem sounds_may {ns : List Nat} {e : Nat} (lx : Lim 256 ns) (h : Sounds ns e) : mayB (limbs (valB ns)) = true := by
  have hl : 2 ≤ ns.length ∧ ns.length ≤ 512 := by have := h.len; omega
  obtain ⟨x, hx⟩ := get_of_lt (xs := ns) (i := 0) (by omega)
  obtain ⟨y, hy⟩ := get_of_lt (xs := ns) (i := ns.length - 1) (by omega)
  have h1 := h.top
  have h2 := h.odd
  rw [hx] at h1
  rw [hy] at h2
  refine may_odd ((valB_odd hy).trans h2) ?_ ?_
  · have h3 := valB_top hx
    have h4 : 1 ≤ 256 ^ (ns.length - 1) := Nat.pos_of_ne_zero (by rw [pow_256]; exact Nat.ne_of_gt (Nat.two_pow_pos _))
    have h5 := Nat.mul_le_mul (show 128 ≤ x from h1) h4
    omega
  · exact limbs_bytes_len (valB_lt lx) (by omega)

/-! ### A key behind an address -/
structure KeyAt (w : World) (g : Nat) (A : Option Addr) (n c e : Nat) : Prop where
  c0 : w.cell? ⟨g, 0, none⟩ = some (.slice A n c)
  c1 : w.cell? ⟨g, 1, none⟩ = some (.int .u64 (e : Int))
  lt : g < w.heap.size
theorem KeyAt.below {w w' : World} {g : Nat} {A : Option Addr} {n c e : Nat} (h : KeyAt w g A n c e) (hb : Below w.heap.size w w') : KeyAt w' g A n c e :=
  ⟨by rw [hb.cell h.lt]; exact h.c0, by rw [hb.cell h.lt]; exact h.c1, Nat.lt_of_lt_of_le h.lt hb.size⟩
theorem key_new (w : World) (A : Option Addr) (n c e : Nat) (t : TypeId) : KeyAt (w.alloc (.cells #[.slice A n c, .int .u64 (e : Int)] t)) w.heap.size A n c e := ⟨by simp, by simp, by simp⟩
theorem key_cut {w : World} {g : Nat} {A : Option Addr} {n c e : Nat} (h : KeyAt w g A n c e) : w.rangeAt g 0 [.slice A n c, .int .u64 (e : Int)] := fun i v hv => by
  rcases i with _ | _ | i
  · injection hv with hv
    rw [← hv]
    exact h.c0
  · injection hv with hv
    rw [← hv]
    exact h.c1
  · simp at hv

/-- What a signature stands for. -/
def openOf (ns sig : List Nat) (e : Nat) : List Nat × Int := if valB sig < valB ns then (octs ns.length (valB sig ^ e % valB ns), 0) else ([], 1)
set_option maxRecDepth 100000 in
set_option maxHeartbeats 1600000 in
theorem open_any (A B : Option Addr) (n c e m d : Nat) (ns sig : List Nat) (w : World) (hn : n = ns.length) (hm : m = sig.length) (hx : Rd .u8 w A ns) (hy : Rd .u8 w B sig) (lx : Lim 256 ns) (ly : Lim 256 sig) (he : e < 18446744073709551616)
    (hS : Sounds ns e) (hl : sig.length = ns.length) :
    Calls Try.prog 86 #[keyVal A n c e, .slice B m d] w (Gives2 .u8 (openOf ns sig e).1 (openOf ns sig e).2 w) := by
  subst hn
  have h5 : ns.length ≤ 512 := by have := hS.len; omega
  have hM := mayB_out (limbs_lim _) (sounds_may lx hS)
  have hML := hM.len
  have hE := limbs64_len he
  have hNb := (nbits_bytes (valB ns) ns.length).2 (valB_lt lx)
  have hSl := limbs_bytes_len (k := 128) (valB_lt ly) (by omega)
  have he0 : 0 < e := by have := hS.e3; omega
  have HO := Lib.hid (show openOf ns sig e = if valB sig < valB ns then (octs ns.length (valB sig ^ e % valB ns), 0) else ([], 1) from rfl)
  have HV := Lib.hid (val_limbs (valB ns))
  generalize openOf ns sig e = R at *
  have hOfS : ∀ w', Rd .u8 w' B sig → Calls Try.prog 52 #[.slice B m d] w' (Gives2 .u32 (limbs (valB sig)) 0 w') := fun w' h => of_any B m d sig w' hm (by omega) h ly
  have hOfN : ∀ w', Rd .u8 w' A ns → Calls Try.prog 52 #[.slice A ns.length c] w' (Gives2 .u32 (limbs (valB ns)) 0 w') := fun w' h => of_any A _ c ns w' rfl (by omega) h lx
  have hvn : val (limbs (valB ns)) = valB ns := val_limbs _
  generalize valB ns = M at *
  generalize valB sig = S at *
  clear hl lx ly hm
  unfold keyVal
  go_enter Try.func86, Try.ntmps86
  go_wp2_with fail
  have K := key_new w A ns.length c e 52
  have e1 : Below w.heap.size w (w.alloc (.cells #[.slice A ns.length c, .int .u64 (e : Int)] 52)) := (Below.refl _ _).alloc (Nat.le_refl _) _
  generalize w.alloc (.cells #[.slice A ns.length c, .int .u64 (e : Int)] 52) = w1 at *
  refine (hOfN w1 (hx.below e1)).mono ?_
  rintro r w2 ⟨A2, c2, rfl, h2a, h2b, o2, e2⟩
  have K := K.below e2
  have e2 := e1.trans (e2.mono e1.size)
  have o2 := o2.mono e1.size
  clear e1
  have k0 := K.c0
  have k1 := K.c1
  go_wp2_with fail
  refine (hOfS w2 (hy.below e2)).mono ?_
  rintro r w3 ⟨A3, c3, rfl, h3a, h3b, o3, e3⟩
  have K := K.below e3
  have o2 := o2.below e3
  have e3 := e2.trans (e3.mono e2.size)
  have o3 := o3.mono e2.size
  clear e2 k0 k1
  go_wp2_with fail
  refine (newYes_any A2 _ c2 (limbs M) w3 rfl o2.rd hM).mono ?_
  rintro r w4 ⟨g4, rfl, m4, e4⟩
  have K := K.below e4
  have o3 := o3.below e4
  have m4 := m4.mono e3.size
  have e4 := e3.trans (e4.mono e3.size)
  clear e3
  have k0 := K.c0
  have k1 := K.c1
  go_wp2_with fail
  refine (limbs_any e w4 he0 he).mono ?_
  rintro r w5 ⟨A5, c5, rfl, h5a, h5b, o5, e5⟩
  have K := K.below e5
  have o3 := o3.below e5
  have m5 := m4.below e5
  have o5 := o5.mono e4.size
  have e5 := e4.trans (e5.mono e4.size)
  clear e4 m4 k0 k1
  go_wp2_with fail
  by_cases hlt : S < M
  · obtain ⟨r, hr⟩ : ∃ r, r = S ^ e % M := ⟨_, rfl⟩
    have HR := HO.out
    rw [if_pos hlt, ← hr] at HR
    have HR := Lib.hid HR
    have hrM : r < M := by rw [hr]; exact Nat.mod_lt _ (by omega)
    have hrb : nbits r ≤ 8 * ns.length := Nat.le_trans (nbits_mono (Nat.le_of_lt hrM)) hNb
    have hrl : (limbs r).length ≤ 128 := limbs_in hM (by rw [hvn]; exact hrM)
    refine (exp_at hM (x := S) (e := e) (v := r) (by rw [hvn]; exact hlt) (by omega) (by rw [hvn]; exact hr) w.heap.size g4 A3 A5 c3 c5 w5 m5 o3.rd o5.rd).mono ?_
    rintro q w6 ⟨A6, c6, rfl, h6a, h6b, o6, e6⟩
    have K := K.below e6
    have o6 := o6.mono e5.size
    have e6 := e5.trans (e6.mono e5.size)
    clear e5 HO hr
    have k0 := K.c0
    have k1 := K.c1
    go_wp2_with fail
    have hO := octets_any_ok A6 _ c6 (limbs r) ns.length w6 rfl (by omega) o6.rd (limbs_lim _) (isRight_limbs (by omega)) (by omega) (by rw [val_limbs]; omega)
    rw [val_limbs] at hO
    refine hO.mono ?_
    rintro q w7 ⟨A7, c7, rfl, h7a, h7b, o7, e7⟩
    have o7 := o7.mono e6.size
    have e7 := e6.trans (e7.mono e6.size)
    clear e6 k0 k1 hO
    go_wp2_with fail
    go_ret2
    rw [HR.out]
    exact ⟨A7, c7, rfl, h7a, h7b, o7, e7⟩
  · have HR := HO.out
    rw [if_neg hlt] at HR
    have HR := Lib.hid HR
    have hF : expMOf (limbs S) (limbs e) (limbs M) = ([], 1) := by
      unfold expMOf mayOf
      rw [if_neg]
      rintro ⟨h, -⟩
      rw [val_limbs, val_limbs] at h
      simp [hlt] at h
    have hX := mexp_any w.heap.size g4 (limbs M) A3 A5 _ _ c3 c5 (limbs S) (limbs e) w5 m5 hM rfl rfl (by omega) (by omega) o3.rd o5.rd (limbs_lim _) (limbs_lim _)
    rw [hF] at hX
    refine hX.mono ?_
    rintro q w6 ⟨A6, c6, rfl, h6a, h6b, o6, e6⟩
    have e6 := e5.trans (e6.mono e5.size)
    clear e5 HO hX hF
    go_wp2_with fail
    go_ret2
    rw [HR.out]
    exact ⟨none, 0, rfl, Nat.le_refl _, Nat.zero_le _, Own.nil _ _ _ _, e6⟩

/-! ### Verify -/
def verB (ns : List Nat) (e : Nat) (ds sig : List Nat) : Bool :=
  soundB ns e && decide (sig.length = ns.length) && decide (valB sig < valB ns) && decide (octs ns.length (valB sig ^ e % valB ns) = encN ds ns.length)
theorem verB_unsound {ns ds sig : List Nat} {e : Nat} (h : ¬ Sounds ns e) : verB ns e ds sig = false := by
  unfold verB
  rw [show soundB ns e = false from by
    cases hb : soundB ns e with
    | false => rfl
    | true => exact absurd ((soundB_iff ns e).1 hb) h]
  rfl
theorem verB_len {ns ds sig : List Nat} {e : Nat} (h : sig.length ≠ ns.length) : verB ns e ds sig = false := by
  unfold verB
  simp [h]
theorem verB_big {ns ds sig : List Nat} {e : Nat} (h : ¬ valB sig < valB ns) : verB ns e ds sig = false := by
  unfold verB
  rw [show decide (valB sig < valB ns) = false from decide_eq_false h]
  simp
theorem verB_sound {ns ds sig : List Nat} {e : Nat} (h1 : Sounds ns e) (h2 : sig.length = ns.length) (h3 : valB sig < valB ns) : verB ns e ds sig = decide (octs ns.length (valB sig ^ e % valB ns) = encN ds ns.length) := by
  unfold verB
  rw [show soundB ns e = true from (soundB_iff ns e).2 h1, decide_eq_true h2, decide_eq_true h3]
  rfl
theorem encOf_ok {ds : List Nat} {n : Nat} (h1 : 62 ≤ n) (h2 : n ≤ 512) : encOf ds (n : Int) = (encN ds n, 0) := by
  unfold encOf
  rw [if_neg (by omega)]
  rfl
/-- It returns this truth; nothing old is turned. -/
def RetW (b : Bool) (w : World) (e : Ending) (w' : World) : Prop := e = .returned (.bool b) ∧ Below w.heap.size w w'
theorem size_32u8 : (Try.prog.info? 49).map (·.size) = some 32 := by kernel_rfl
theorem size_key : (Try.prog.info? 52).map (·.size) = some 2 := by kernel_rfl
end Go.Proofs.Ytfclpieijbgodaa
