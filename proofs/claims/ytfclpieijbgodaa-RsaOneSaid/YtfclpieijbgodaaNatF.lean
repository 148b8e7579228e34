/-
  Taking one number from another in place: math/bits.Sub32 and nat.take.
-/
import Derived.Test.YtfclpieijbgodaaNatE
namespace Go.Proofs.Ytfclpieijbgodaa
set_option linter.unusedVariables false
set_option linter.unusedSimpArgs false
open Go.RowKit

def diff32 (x y b : Nat) : Nat := (x + 8589934592 - y - b) % 4294967296
def borrow32 (x y b : Nat) : Nat := if x < y + b then 1 else 0
theorem top_bit (v : Nat) (h : v < 4294967296) : v / 2147483648 = if v.testBit 31 = true then 1 else 0 := by
  rw [Nat.testBit_eq_decide_div_mod_eq]
  simp
  split <;> omega
theorem borrow_eq (x y b : Nat) (hx : x < 4294967296) (hy : y < 4294967296) (hb : b ≤ 1) :
    bits .or .u32 (bits .and .u32 (bits .xor .u32 IntKind.u32.max (x : Int)) (y : Int)) (bits .and .u32 (bits .xor .u32 IntKind.u32.max (bits .xor .u32 (x : Int) (y : Int))) (((x : Int) - y - b) % 4294967296)) / 2147483648 = ((borrow32 x y b : Nat) : Int) := by
  have hm : IntKind.u32.max = ((4294967295 : Nat) : Int) := rfl
  have hd : ((x : Int) - y - b) % 4294967296 = ((diff32 x y b : Nat) : Int) := by unfold diff32; omega
  have hdl : diff32 x y b < 4294967296 := Nat.mod_lt _ (by omega)
  have l1 : 4294967295 ^^^ x < 2 ^ 32 := Nat.xor_lt_two_pow (by omega) (by omega)
  have l2 : x ^^^ y < 2 ^ 32 := Nat.xor_lt_two_pow (by omega) (by omega)
  have l3 : 4294967295 ^^^ (x ^^^ y) < 2 ^ 32 := Nat.xor_lt_two_pow (by omega) (by omega)
  have l4 : (4294967295 ^^^ x) &&& y < 2 ^ 32 := Nat.and_lt_two_pow _ (by omega)
  have l5 : (4294967295 ^^^ (x ^^^ y)) &&& diff32 x y b < 2 ^ 32 := Nat.and_lt_two_pow _ (by omega)
  have l6 : ((4294967295 ^^^ x) &&& y) ||| ((4294967295 ^^^ (x ^^^ y)) &&& diff32 x y b) < 2 ^ 32 := Nat.or_lt_two_pow l4 l5
  rw [hm, hd, u32_xor_nat _ _ (by omega) hx, u32_and_nat _ _ l1 hy, u32_xor_nat _ _ hx hy, u32_xor_nat _ _ (by omega) l2, u32_and_nat _ _ l3 hdl, u32_or_nat _ _ l4 l5]
  have hq := top_bit _ l6
  rw [Nat.testBit_or, Nat.testBit_and, Nat.testBit_and, Nat.testBit_xor, Nat.testBit_xor, Nat.testBit_xor] at hq
  have t0 : (4294967295 : Nat).testBit 31 = true := by decide
  have tx : x.testBit 31 = decide (2147483648 ≤ x) := by rw [Nat.testBit_eq_decide_div_mod_eq]; simp; omega
  have ty : y.testBit 31 = decide (2147483648 ≤ y) := by rw [Nat.testBit_eq_decide_div_mod_eq]; simp; omega
  have td : (diff32 x y b).testBit 31 = decide (2147483648 ≤ diff32 x y b) := by rw [Nat.testBit_eq_decide_div_mod_eq]; simp; omega
  rw [t0, tx, ty, td] at hq
  have e : ((((4294967295 ^^^ x) &&& y) ||| ((4294967295 ^^^ (x ^^^ y)) &&& diff32 x y b) : Nat) : Int) / 2147483648 = (((((4294967295 ^^^ x) &&& y) ||| ((4294967295 ^^^ (x ^^^ y)) &&& diff32 x y b)) / 2147483648 : Nat) : Int) := by simp
  rw [e, hq]
  congr 1
  unfold borrow32
  by_cases h1 : 2147483648 ≤ x <;> by_cases h2 : 2147483648 ≤ y <;> by_cases h3 : x < y + b <;> simp [h1, h2, h3] <;> first | omega | (unfold diff32; omega)

def Sub32Post (x y b : Nat) (w : World) (e : Ending) (w' : World) : Prop :=
  e = .returned (.tuple #[.int .u32 (diff32 x y b : Nat), .int .u32 (borrow32 x y b : Nat)]) ∧ w = w'

set_option maxHeartbeats 400000 in
theorem sub32_any (x y b : Nat) (w : World) (hx : x < 4294967296) (hy : y < 4294967296) (hb : b ≤ 1) :
    Calls Try.prog 93 #[.int .u32 (x : Int), .int .u32 (y : Int), .int .u32 (b : Int)] w (Sub32Post x y b w) := by
  have hs : IntKind.u32.signed = false := rfl
  have HB := Lib.hid (borrow_eq x y b hx hy hb)
  have HD := Lib.hid (show ((((x : Int) - y) % 4294967296 - b) % 4294967296) = ((diff32 x y b : Nat) : Int) by unfold diff32; omega)
  go_enter Try.func93, Try.ntmps93
  go_wp2
  go_ret2
  exact ⟨by rw [← HB.out, ← HD.out]; rfl, rfl⟩

/-- What take has done to the block behind k limbs: its contents, and the borrow. -/
def takeTo (cs : List Nat) (off : Nat) (ys : List Nat) : Nat → List Nat × Nat
  | 0 => (cs, 0)
  | k + 1 =>
    let p := takeTo cs off ys k
    (p.1.set (off + k) (diff32 (p.1.getD (off + k) 0) (ys.getD k 0) p.2), borrow32 (p.1.getD (off + k) 0) (ys.getD k 0) p.2)
theorem takeTo_length (cs : List Nat) (off : Nat) (ys : List Nat) (k : Nat) : (takeTo cs off ys k).1.length = cs.length := by
  induction k with
  | zero => rfl
  | succ k ih => simp [takeTo, ih]
theorem takeTo_lim (cs : List Nat) (off : Nat) (ys : List Nat) (k : Nat) (lc : Lim 4294967296 cs) : Lim 4294967296 (takeTo cs off ys k).1 := by
  induction k with
  | zero => exact lc
  | succ k ih => exact ih.set (Nat.mod_lt _ (by omega))
theorem borrow32_le (x y b : Nat) : borrow32 x y b ≤ 1 := by unfold borrow32; split <;> omega
theorem takeTo_borrow (cs : List Nat) (off : Nat) (ys : List Nat) (k : Nat) : (takeTo cs off ys k).2 ≤ 1 := by
  cases k with
  | zero => exact Nat.zero_le _
  | succ k => exact borrow32_le _ _ _
theorem takeTo_succ {cs : List Nat} {off : Nat} {ys : List Nat} {k y x c : Nat} {ds : List Nat} (hy : ys.getD k 0 = y) (hd : takeTo cs off ys k = (ds, c)) (hx : ds[off + k]? = some x) :
    takeTo cs off ys (k + 1) = (ds.set (off + k) (diff32 x y c), borrow32 x y c) := by
  simp only [takeTo, hd, hy, List.getD_eq_getElem?_getD, hx, Option.getD_some]
theorem takeTo_stay {cs : List Nat} {off : Nat} {ys : List Nat} {k : Nat} {ds : List Nat} (hl : Lim 4294967296 cs) (hd : takeTo cs off ys k = (ds, 0)) (hk : ys.length ≤ k) (j : Nat) (hj : off + k + j ≤ cs.length) : takeTo cs off ys (k + j) = (ds, 0) := by
  induction j with
  | zero => exact hd
  | succ j ih =>
    have h1 := ih (by omega)
    have hlen := takeTo_length cs off ys (k + j)
    rw [h1] at hlen
    obtain ⟨x, hx⟩ := get_of_lt (xs := ds) (i := off + (k + j)) (by simp at hlen; omega)
    have hxb : x < 4294967296 := by have := takeTo_lim cs off ys (k + j) hl; rw [h1] at this; exact this.get hx
    have hy : ys.getD (k + j) 0 = 0 := by rw [List.getD_eq_getElem?_getD, List.getElem?_eq_none (by omega)]; rfl
    have h2 := takeTo_succ hy h1 hx
    rw [← Nat.add_assoc, h2]
    have e1 : diff32 x 0 0 = x := by unfold diff32; omega
    have e2 : borrow32 x 0 0 = 0 := by unfold borrow32; simp
    rw [e1, e2]
    refine Prod.ext ?_ rfl
    show ds.set (off + (k + j)) x = ds
    apply List.ext_getElem?
    intro i
    by_cases e : off + (k + j) = i
    · subst e; rw [List.getElem?_set_self (List.getElem?_eq_some_iff.1 hx).1, hx]
    · rw [List.getElem?_set_ne e]

def TakePost (cs ys : List Nat) (g off n : Nat) (w : World) (e : Ending) (w' : World) : Prop :=
  e = .returned (.bool ((takeTo cs off ys n).2 != 0)) ∧ Blk .u32 w' g (takeTo cs off ys n).1 ∧ w.grownBy w' (some g)

set_option maxHeartbeats 800000 in
theorem take_any (cs ys : List Nat) (g off n cap m c : Nat) (A : Option Addr) (w : World) (hb : Blk .u32 w g cs) (hy : Rd .u32 w A ys) (ho : Off A ys g)
    (hm : m = ys.length) (hl : n ≤ 70000) (hmn : m ≤ n) (hoff : off + n ≤ cs.length) (lc : Lim 4294967296 cs) (ly : Lim 4294967296 ys) :
    Calls Try.prog 62 #[.slice (some ⟨g, off, none⟩) n cap, .slice A m c] w (TakePost cs ys g off n w) := by
  subst hm
  go_enter Try.func62, Try.ntmps62
  go_wp2
  go_loopw [5, 10] (fun b i wr => ∃ k cy : Nat, ∃ ds, k ≤ n ∧ i = .int .i64 k ∧ b = .int .u32 cy ∧ cy ≤ 1 ∧ Hid (takeTo cs off ys k = (ds, cy)) ∧ Blk .u32 wr g ds ∧ w.grownBy wr (some g)) (fun _ i _ => n - (intOf i).toNat)
  case atStart => exact ⟨0, 0, cs, Nat.zero_le _, rfl, rfl, by omega, rfl, hb, only_refl _ _⟩
  case round =>
    obtain ⟨k, cy, ds, hk, rfl, rfl, hcy, hf, hbr, hgr⟩ := hrel
    by_cases hlt : k < n
    · have hdl : off + k < ds.length := by have := takeTo_length cs off ys k; rw [hf.out] at this; simp at this; omega
      obtain ⟨x, hgx⟩ := get_of_lt hdl
      have hxb : x < 4294967296 := by have := takeTo_lim cs off ys k lc; rw [hf.out] at this; exact this.get hgx
      have hcx := hbr.cell hgx
      have hfx := hbr.frozen hgx
      by_cases hly : k < ys.length
      · obtain ⟨y, hgy⟩ := get_of_lt hly
        have hyb := ly.get hgy
        obtain ⟨b, o, rfl, hbw, hcy0⟩ := (hy.grown hgr (fun _ e => by injection e with e; subst e; exact ho)).pos hgy
        have hcell := hcy0 k y hgy
        have hstep := Lib.hid (takeTo_succ (y := y) (by simp [List.getD_eq_getElem?_getD, hgy]) hf.out hgx)
        have hset := Lib.hid (hbr.set hgx (diff32 x y cy))
        clear hcy0 hgy hgx
        go_wp2_with (go_at_call 93; refine (sub32_any x y cy _ hxb hyb hcy).mono ?_; rintro e w' ⟨rfl, rfl⟩)
        go_roundw
        case rel => exact ⟨k + 1, _, _, by omega, by go_num, rfl, borrow32_le _ _ _, hstep.out, hset.out, only_set hgr (.inl rfl) _⟩
        case measure => simp [intOf] <;> omega
      · by_cases hc0 : cy = 0
        · subst hc0
          have HE := Lib.hid (takeTo_stay lc hf.out (by omega) (n - k) (by omega))
          have HN := Lib.hid (show k + (n - k) = n by omega)
          go_wp2_with fail
          go_ret
          have := HE.out
          rw [HN.out] at this
          refine ⟨by rw [this]; rfl, by rw [this]; exact hbr, hgr⟩
        · have hc1 : ((cy : Int) == 0) = false := by simpa using hc0
          have hstep := Lib.hid (takeTo_succ (y := 0) (by rw [List.getD_eq_getElem?_getD, List.getElem?_eq_none (by omega)]; rfl) hf.out hgx)
          have hset := Lib.hid (hbr.set hgx (diff32 x 0 cy))
          clear hgx hc0
          go_wp2_with (go_at_call 93; refine (sub32_any x 0 cy _ hxb (by omega) hcy).mono ?_; rintro e w' ⟨rfl, rfl⟩)
          go_roundw
          case rel => exact ⟨k + 1, _, _, by omega, by go_num, rfl, borrow32_le _ _ _, hstep.out, hset.out, only_set hgr (.inl rfl) _⟩
          case measure => simp [intOf] <;> omega
    · obtain rfl : k = n := by omega
      have hend := Lib.hid hf.out
      go_wp2_with fail
      go_ret
      refine ⟨by rw [hend.out]; exact ret_bool (by rw [Bool.eq_iff_iff]; simp), by rw [hend.out]; exact hbr, hgr⟩
end Go.Proofs.Ytfclpieijbgodaa
