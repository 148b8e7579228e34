/-
  The reference's numbers of limbs: its product (times), and which of two is above.
-/
import Derived.Test.YtmbkehmgpcmicaaNumT
import Derived.Test.YtmbkehmgpcmicaaShaC
namespace Go.Proofs.Ytmbkehmgpcmicaa
set_option linter.unusedVariables false
set_option linter.unusedSimpArgs false
open Go.RowKit

set_option maxHeartbeats 800000 in
theorem times_any (A B : Option Addr) (n m c d : Nat) (xs ys : List Nat) (w : World) (hn : n = xs.length) (hm : m = ys.length) (hl : n ≤ 70000) (hl' : m ≤ 70000) (hx : Rd .u32 w A xs) (hy : Rd .u32 w B ys) (lx : Lim 4294967296 xs) (ly : Lim 4294967296 ys) :
    Calls Try.prog 38 #[.slice A n c, .slice B m d] w (Gives .u32 (mulTo xs ys xs.length) w) := by
  subst hn
  subst hm
  go_enter Try.func38, Try.ntmps38
  go_wp2_with (at_make; refine wpList_make_ints _ rfl _ _ _ rfl .u32 32 4 Try.underlying51 info_u32 _ _ (xs.length + ys.length) _ _ rfl rfl (by omega) (by omega) (by omega) (by omega) ?_; intro g w1 hg hw1 hs1 hb1)
  have hgl : w.heap.size ≤ g := by rw [hg.out]; exact Nat.le_refl _
  go_loopw [6] (fun t wr => ∃ i : Nat, t = .int .i64 i ∧ i ≤ xs.length ∧ Blk .u32 wr g (mulTo xs ys i) ∧ Below w.heap.size w wr) (fun t _ => xs.length - (intOf t).toNat)
  case atStart => exact ⟨0, rfl, Nat.zero_le _, hw1.blk, hb1⟩
  case round =>
    obtain ⟨i, rfl, hi, hbr, hbel⟩ := hrel
    by_cases hlt : i < xs.length
    · obtain ⟨a, hga⟩ := get_of_lt hlt
      obtain ⟨b, o, rfl, hbw, hcl⟩ := ((hx.below hbel).pos hga)
      have hab := lx.get hga
      have hlen := mulTo_length xs ys i
      have hlim := (mulTo_ok lx ly (Nat.le_of_lt hlt)).2.1
      have hfl := foldTo_length (mulTo xs ys i) i ys a ys.length
      obtain ⟨z, hz⟩ := get_of_lt (xs := (foldTo (mulTo xs ys i) i ys a ys.length).1) (i := i + ys.length) (by omega)
      have HS := Lib.hid (mulTo_succ (ys := ys) hga)
      have HZ := Lib.hid hz
      have HL := Lib.hid hlen
      have HFL := Lib.hid hfl
      have HA := Lib.hid hga
      clear hga hz hlen hfl hcl
      generalize mulTo xs ys i = cs at *
      go_wp2_with fail
      go_loopw [7, 8] (fun cy t wr' => ∃ k y : Nat, ∃ ds, k ≤ ys.length ∧ t = .int .i64 k ∧ cy = .int .u64 y ∧ Hid (foldTo cs i ys a k = (ds, y)) ∧ Blk .u32 wr' g ds ∧ Below w.heap.size w wr') (fun _ t _ => ys.length - (intOf t).toNat)
      case atStart => exact ⟨0, 0, cs, Nat.zero_le _, rfl, rfl, rfl, hbr, hbel⟩
      case round =>
        obtain ⟨k, cy, ds, hk, rfl, rfl, hf, hbr2, hbel2⟩ := hrel
        have hcy : cy < 4294967296 := by have := foldTo_carry cs i ys a k hab hlim ly; rwa [hf.out] at this
        by_cases hkl : k < ys.length
        · obtain ⟨y, hgy⟩ := get_of_lt hkl
          have hdl : i + k < ds.length := by have := foldTo_length cs i ys a k; rw [hf.out] at this; have := HL.out; simp at *; omega
          obtain ⟨x, hgx⟩ := get_of_lt hdl
          have hyb := ly.get hgy
          have hxb : x < 4294967296 := by have := foldTo_lim cs i ys a k hlim; rw [hf.out] at this; exact this.get hgx
          obtain ⟨b', o', rfl, hbw', hcy0⟩ := (hy.below hbel2).pos hgy
          have hcell := hcy0 k y hgy
          obtain ⟨b2, o2, e2, hbw2, hcx0⟩ := ((hx.below hbel2).pos HA.out)
          obtain ⟨rfl, rfl⟩ : b = b2 ∧ o = o2 := by injection e2 with e2; injection e2 with e2 e3 e4; exact ⟨e2, e3⟩
          have hca := hcx0 i a HA.out
          have hcx := hbr2.cell hgx
          have hfx := hbr2.frozen hgx
          have hml := mul_lim hab hyb
          have hstep := Lib.hid (foldTo_succ hgy hf.out hgx)
          have HG := Lib.hid hgx
          clear hcy0 hgy hgx hcx0 e2
          go_wp2_with fail
          go_quiet (fail)
          have hset := Lib.hid ((hbr2.drewN nq).set HG.out ((a * y + x + cy) % 4294967296))
          have hbel3 := below_drewN hbel2 nq
          go_wp2_with fail
          go_roundw
          case rel => exact ⟨k + 1, _, _, by omega, by go_num, by go_num, hstep.out, hset.out, hbel3.setCell hgl _⟩
          case measure => simp [intOf] <;> omega
        · obtain rfl : k = ys.length := by omega
          have hz := HZ.out
          rw [hf.out] at hz
          have hcz := hbr2.cell hz
          have hfz := hbr2.frozen hz
          have HT := Lib.hid (hbr2.set hz cy)
          have HSS := HS.out
          rw [hf.out] at HSS
          have HE := Lib.hid HSS
          clear hz HSS
          go_wp2_with fail
          go_roundw
          case rel => exact ⟨i + 1, by go_num, by omega, by rw [HE.out]; exact HT.out, hbel2.setCell hgl _⟩
          case measure => simp [intOf] <;> omega
    · obtain rfl : i = xs.length := by omega
      have hlen := Lib.hid (mulTo_length xs ys xs.length)
      go_wp2_with fail
      go_ret
      exact ⟨_, _, by rw [hlen.out]; rfl, by rw [hlen.out]; exact Nat.le_refl _, by simp only [maxLen]; omega, Own.of_blk hbr hgl, hbel⟩

set_option maxHeartbeats 800000 in
theorem above_any (A B : Option Addr) (n m c d : Nat) (xs ys : List Nat) (w : World) (hn : n = xs.length) (hm : m = xs.length) (hlen : xs.length = ys.length) (hl : n ≤ 70000) (hx : Rd .u32 w A xs) (hy : Rd .u32 w B ys)
    (lx : Lim 4294967296 xs) (ly : Lim 4294967296 ys) :
    Calls Try.prog 39 #[.slice A n c, .slice B m d] w (Quiet (.bool (decide (val ys < val xs))) w) := by
  subst hn
  subst hm
  have hle1 : xs.length ≤ ys.length := by omega
  have hle2 : ys.length ≤ xs.length := by omega
  clear hlen
  go_enter Try.func39, Try.ntmps39
  go_wp2
  go_loopw [5] (fun t wr => ∃ k q : Nat, t = .int .i64 ((k : Int) - 1) ∧ k ≤ xs.length ∧ Hid (xs.drop k = ys.drop k) ∧ wr = w.drewN q) (fun t _ => (intOf t + 1).toNat)
  case atStart => exact ⟨xs.length, 0, rfl, Nat.le_refl _, by show _ = _; rw [List.drop_of_length_le (Nat.le_refl _), List.drop_of_length_le (by omega)], rfl⟩
  case round =>
    obtain ⟨k, q, rfl, hk, ht, rfl⟩ := hrel
    rcases Nat.eq_zero_or_pos k with rfl | hp
    · have he : xs = ys := by simpa using ht.out
      subst he
      have HR := Lib.hid (show decide (val xs < val xs) = false by simp)
      go_wp2
      go_ret
      first | exact Quiet.mk rfl _ | exact Quiet.mk (congrArg Value.bool (HR.out.trans hd2).symm) _ | exact Quiet.mk (congrArg Value.bool HR.out.symm) _ | exact Quiet.mk2 (congrArg Value.bool HR.out.symm) _ _ | exact Quiet.mk3 (congrArg Value.bool HR.out.symm) _ _ _
    · obtain ⟨k, rfl⟩ : ∃ j, k = j + 1 := ⟨k - 1, by omega⟩
      have hlt : k < xs.length := by omega
      have hlt' : k < ys.length := by omega
      obtain ⟨x, hgx⟩ := get_of_lt hlt
      obtain ⟨y, hgy⟩ := get_of_lt hlt'
      obtain ⟨b, o, rfl, hbw, hcx⟩ := hx.pos hgx
      obtain ⟨b', o', rfl, hbw', hcy⟩ := hy.pos hgy
      have hcellx := hcx k x hgx
      have hcelly := hcy k y hgy
      have hk1 : (((k + 1 : Nat) : Int) - 1) = (k : Int) := by omega
      rw [hk1]
      have HX := Lib.hid hgx
      have HY := Lib.hid hgy
      clear hcx hcy hgx hgy hk1
      rcases Nat.lt_trichotomy x y with hxy | hxy | hxy
      · have hne : ((x : Int) != (y : Int)) = true := by simp; omega
        have h1 := val_lt_of lx HX.out HY.out ht.out hxy
        have HR := Lib.hid (show decide (val ys < val xs) = false by simp; omega)
        clear h1
        go_wp2
        go_quiet (fail)
        go_wp2
        go_quiet (fail)
        go_wp2
        go_ret
        exact Quiet.mk3 (congrArg Value.bool (by rw [HR.out]; exact decide_eq_false (by omega))) _ _ _
      · subst hxy
        have hne : ((x : Int) != (x : Int)) = false := by simp
        go_wp2
        go_quiet (fail)
        go_wp2
        go_roundw
        case rel => exact ⟨k, _, by go_num, by omega, by
          have h1 := HX.out
          have h2 := HY.out
          rw [List.getElem?_eq_getElem hlt] at h1
          rw [List.getElem?_eq_getElem hlt'] at h2
          injection h1 with h1
          injection h2 with h2
          show _ = _
          rw [List.drop_eq_getElem_cons hlt, List.drop_eq_getElem_cons hlt', h1, h2, ht.out], rfl⟩
        case measure => simp [intOf] <;> omega
      · have hne : ((x : Int) != (y : Int)) = true := by simp; omega
        have h1 := val_lt_of ly HY.out HX.out ht.out.symm hxy
        have HR := Lib.hid (show decide (val ys < val xs) = true by simp; omega)
        clear h1
        go_wp2
        go_quiet (fail)
        go_wp2
        go_quiet (fail)
        go_wp2
        go_ret
        exact Quiet.mk3 (congrArg Value.bool (by rw [HR.out])) _ _ _
end Go.Proofs.Ytmbkehmgpcmicaa
