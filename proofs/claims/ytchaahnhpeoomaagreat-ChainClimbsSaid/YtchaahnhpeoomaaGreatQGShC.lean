/-
  ShaS: The reference's numbers of limbs: its product (times), and which of two is above.
-/
import Derived.Test.YtchaahnhpeoomaaGreatQGBas
import Derived.Test.YtchaahnhpeoomaaGreatQGShA
import Derived.Test.YtchaahnhpeoomaaGreatQGShB
import Derived.Deep.RegionHeld3
namespace Go.Proofs.YtchaahnhpeoomaaGreat
set_option linter.unusedVariables false
set_option linter.unusedSimpArgs false
set_option maxRecDepth 20000
open Go.RowKit
set_option maxHeartbeats 800000 in
theorem times_any (A B : Option Addr) (n m c d : Nat) (xs ys : List Nat) (w : World) (hn : n = xs.length) (hm : m = ys.length) (hl : n ≤ 70000) (hl' : m ≤ 70000) (hx : Rd .u32 w A xs) (hy : Rd .u32 w B ys) (lx : Lim 4294967296 xs) (ly : Lim 4294967296 ys) :
  Calls Tryz.prog 132 #[.slice A n c, .slice B m d] w (Gives .u32 (mulTo xs ys xs.length) w) := by
 subst hn
 subst hm
 go_enter Tryz.func132, Tryz.ntmps132
 go_wp2_with (at_make; refine wpList_make_ints _ rfl _ _ _ rfl .u32 129 4 Tryz.underlying128 info_u32 _ _ (xs.length + ys.length) _ _ rfl rfl (by omega) (by omega) (by omega) (by omega) ?_; intro g w1 hg hw1 hs1 hb1)
 have hgl : w.heap.size ≤ g := by rw [hg.out]; exact Nat.le_refl _
 go_loopw [6] (fun t wr => ∃ i : Nat, t = .int .i64 i ∧ i ≤ xs.length ∧ Blk .u32 wr g (mulTo xs ys i) ∧ Below w.heap.size w wr) (fun t _ => xs.length - (intOf t).toNat)
 case atStart => exact ⟨0, rfl, Nat.zero_le _, hw1.blk, hb1⟩
 case round =>
  obtain ⟨i, rfl, hi, hbr, hbel⟩ := hrel
  by_cases hlt : i < xs.length
  ·obtain ⟨a, hga⟩ := get_of_lt hlt
   obtain ⟨b, o, rfl, hbw, hcl⟩ := ((hx.below hbel).pos hga)
   have hab := lx.get hga
   have hlen := mulTo_length xs ys i
   have hlim := (mulTo_ok lx ly (Nat.le_of_lt hlt)).2.1
   have hfl := foldTo_length (mulTo xs ys i) i ys a ys.length
   obtain ⟨z, hz⟩ := get_of_lt (xs := (foldTo (mulTo xs ys i) i ys a ys.length).1) (i := i + ys.length) (by omega)
   have HS := Lib.hid (mulTo_succ (ys := ys) hga)
   have HZ := Lib.hid hz
   have HL := Lib.hid hlen
   have HFL := Lib.hid hfl
   have HA := Lib.hid hga
   clear hga hz hlen hfl hcl
   generalize mulTo xs ys i = cs at *
   go_wp2_with fail
   go_loopw [7, 8] (fun cy t wr' => ∃ k y : Nat, ∃ ds, k ≤ ys.length ∧ t = .int .i64 k ∧ cy = .int .u64 y ∧ Hid (foldTo cs i ys a k = (ds, y)) ∧ Blk .u32 wr' g ds ∧ Below w.heap.size w wr') (fun _ t _ => ys.length - (intOf t).toNat)
   case atStart => exact ⟨0, 0, cs, Nat.zero_le _, rfl, rfl, rfl, hbr, hbel⟩
   case round =>
    obtain ⟨k, cy, ds, hk, rfl, rfl, hf, hbr2, hbel2⟩ := hrel
    have hcy : cy < 4294967296 := by have := foldTo_carry cs i ys a k hab hlim ly; rwa [hf.out] at this
    by_cases hkl : k < ys.length
    ·obtain ⟨y, hgy⟩ := get_of_lt hkl
     have hdl : i + k < ds.length := by have := foldTo_length cs i ys a k; rw [hf.out] at this; have := HL.out; simp at *; omega
     obtain ⟨x, hgx⟩ := get_of_lt hdl
     have hyb := ly.get hgy
     have hxb : x < 4294967296 := by have := foldTo_lim cs i ys a k hlim; rw [hf.out] at this; exact this.get hgx
     obtain ⟨b', o', rfl, hbw', hcy0⟩ := (hy.below hbel2).pos hgy
     have hcell := hcy0 k y hgy
     obtain ⟨b2, o2, e2, hbw2, hcx0⟩ := ((hx.below hbel2).pos HA.out)
     obtain ⟨rfl, rfl⟩ : b = b2 ∧ o = o2 := by injection e2 with e2; injection e2 with e2 e3 e4; exact ⟨e2, e3⟩
     have hca := hcx0 i a HA.out
     have hcx := hbr2.cell hgx
     have hfx := hbr2.frozen hgx
     have hml := mul_lim hab hyb
     have hstep := Lib.hid (foldTo_succ hgy hf.out hgx)
     have HG := Lib.hid hgx
     clear hcy0 hgy hgx hcx0 e2
     go_wp2_with fail
     go_quiet (fail)
     have hset := Lib.hid ((hbr2.drewN nq).set HG.out ((a * y + x + cy) % 4294967296))
     have hbel3 := below_drewN hbel2 nq
     go_wp2_with fail
     go_roundw
     case rel => exact ⟨k + 1, _, _, by omega, by go_num, by go_num, hstep.out, hset.out, hbel3.setCell hgl _⟩
     case measure => simp [intOf] <;> omega
    ·obtain rfl : k = ys.length := by omega
     have hz := HZ.out
     rw [hf.out] at hz
     have hcz := hbr2.cell hz
     have hfz := hbr2.frozen hz
     have HT := Lib.hid (hbr2.set hz cy)
     have HSS := HS.out
     rw [hf.out] at HSS
     have HE := Lib.hid HSS
     clear hz HSS
     go_wp2_with fail
     go_roundw
     case rel => exact ⟨i + 1, by go_num, by omega, by rw [HE.out]; exact HT.out, hbel2.setCell hgl _⟩
     case measure => simp [intOf] <;> omega
  ·obtain rfl : i = xs.length := by omega
   have hlen := Lib.hid (mulTo_length xs ys xs.length)
   go_wp2_with fail
   go_ret
   exact ⟨_, _, by rw [hlen.out]; rfl, by rw [hlen.out]; exact Nat.le_refl _, by simp only [maxLen]; omega, Own.of_blk hbr hgl, hbel⟩
set_option maxHeartbeats 800000 in
theorem above_any (A B : Option Addr) (n m c d : Nat) (xs ys : List Nat) (w : World) (hn : n = xs.length) (hm : m = xs.length) (hlen : xs.length = ys.length) (hl : n ≤ 70000) (hx : Rd .u32 w A xs) (hy : Rd .u32 w B ys)
  (lx : Lim 4294967296 xs) (ly : Lim 4294967296 ys) :
  Calls Tryz.prog 133 #[.slice A n c, .slice B m d] w (Quiet (.bool (decide (val ys < val xs))) w) := by
 subst hn
 subst hm
 have hle1 : xs.length ≤ ys.length := by omega
 have hle2 : ys.length ≤ xs.length := by omega
 clear hlen
 go_enter Tryz.func133, Tryz.ntmps133
 go_wp2
 go_loopw [5] (fun t wr => ∃ k q : Nat, t = .int .i64 ((k : Int) - 1) ∧ k ≤ xs.length ∧ Hid (xs.drop k = ys.drop k) ∧ wr = w.drewN q) (fun t _ => (intOf t + 1).toNat)
 case atStart => exact ⟨xs.length, 0, rfl, Nat.le_refl _, by show _ = _; rw [List.drop_of_length_le (Nat.le_refl _), List.drop_of_length_le (by omega)], rfl⟩
 case round =>
  obtain ⟨k, q, rfl, hk, ht, rfl⟩ := hrel
  rcases Nat.eq_zero_or_pos k with rfl | hp
  ·have he : xs = ys := by simpa using ht.out
   subst he
   have HR := Lib.hid (show decide (val xs < val xs) = false by simp)
   go_wp2
   go_ret
   first | exact Quiet.mk rfl _ | exact Quiet.mk (congrArg Value.bool (HR.out.trans hd2).symm) _ | exact Quiet.mk (congrArg Value.bool HR.out.symm) _ | exact Quiet.mk2 (congrArg Value.bool HR.out.symm) _ _ | exact Quiet.mk3 (congrArg Value.bool HR.out.symm) _ _ _
  ·obtain ⟨k, rfl⟩ : ∃ j, k = j + 1 := ⟨k - 1, by omega⟩
   have hlt : k < xs.length := by omega
   have hlt' : k < ys.length := by omega
   obtain ⟨x, hgx⟩ := get_of_lt hlt
   obtain ⟨y, hgy⟩ := get_of_lt hlt'
   obtain ⟨b, o, rfl, hbw, hcx⟩ := hx.pos hgx
   obtain ⟨b', o', rfl, hbw', hcy⟩ := hy.pos hgy
   have hcellx := hcx k x hgx
   have hcelly := hcy k y hgy
   have hk1 : (((k + 1 : Nat) : Int) - 1) = (k : Int) := by omega
   rw [hk1]
   have HX := Lib.hid hgx
   have HY := Lib.hid hgy
   clear hcx hcy hgx hgy hk1
   rcases Nat.lt_trichotomy x y with hxy | hxy | hxy
   ·have hne : ((x : Int) != (y : Int)) = true := by simp; omega
    have h1 := val_lt_of lx HX.out HY.out ht.out hxy
    have HR := Lib.hid (show decide (val ys < val xs) = false by simp; omega)
    clear h1
    go_wp2
    go_quiet (fail)
    go_wp2
    go_quiet (fail)
    go_wp2
    go_ret
    exact Quiet.mk3 (congrArg Value.bool (by rw [HR.out]; exact decide_eq_false (by omega))) _ _ _
   ·subst hxy
    have hne : ((x : Int) != (x : Int)) = false := by simp
    go_wp2
    go_quiet (fail)
    go_wp2
    go_roundw
    case rel => exact ⟨k, _, by go_num, by omega, by
     have h1 := HX.out
     have h2 := HY.out
     rw [List.getElem?_eq_getElem hlt] at h1
     rw [List.getElem?_eq_getElem hlt'] at h2
     injection h1 with h1
     injection h2 with h2
     show _ = _
     rw [List.drop_eq_getElem_cons hlt, List.drop_eq_getElem_cons hlt', h1, h2, ht.out], rfl⟩
    case measure => simp [intOf] <;> omega
   ·have hne : ((x : Int) != (y : Int)) = true := by simp; omega
    have h1 := val_lt_of ly HY.out HX.out ht.out.symm hxy
    have HR := Lib.hid (show decide (val ys < val xs) = true by simp; omega)
    clear h1
    go_wp2
    go_quiet (fail)
    go_wp2
    go_quiet (fail)
    go_wp2
    go_ret
    exact Quiet.mk3 (congrArg Value.bool (by rw [HR.out])) _ _ _
end Go.Proofs.YtchaahnhpeoomaaGreat
namespace Go.Proofs.YtchaahnhpeoomaaGreat
set_option linter.unusedVariables false
set_option linter.unusedSimpArgs false
set_option maxRecDepth 20000
open Go.RowKit
def RetN_s (k : IntKind) (n : Nat) (w : World) (e : Ending) (w' : World) : Prop := e = .returned (.int k (n : Int)) ∧ Below w.heap.size w w'
theorem sqF_pow (p x : Nat) : sqF p x = decide (p * 4294967296 ^ 2 < x ^ 2) := by
 rw [sqF, show (4294967296 : Nat) ^ 2 = 18446744073709551616 by decide, show x ^ 2 = x * x by rw [Nat.pow_succ, Nat.pow_one]]
theorem cuF_pow (p x : Nat) : cuF p x = decide (p * 4294967296 ^ 3 < x ^ 3) := by
 rw [cuF, show (4294967296 : Nat) ^ 3 = 79228162514264337593543950336 by decide, show x ^ 3 = x * x * x by rw [Nat.pow_succ, Nat.pow_succ, Nat.pow_one]]
theorem val_two (x : Nat) : val [x % 4294967296, x / 4294967296] = x := by simp [val]; omega
theorem wrap_cast (x : Nat) : IntKind.u32.wrap (x : Int) = ((x % 4294967296 : Nat) : Int) := by
 rw [IntKind.wrap_u32', Int.natCast_emod]
 rfl
theorem val_want (n p : Nat) (hn : n < 2 * n) : val ((List.replicate (2 * n) 0).set n p) = p * 4294967296 ^ n := by
 have h : (List.replicate (2 * n) 0)[n]? = some 0 := by rw [List.getElem?_replicate, if_pos hn]
 have := val_set h p
 rw [val_replicate, Nat.mul_zero, Nat.add_zero, Nat.zero_add] at this
 rw [this, Nat.mul_comm]
set_option maxHeartbeats 1600000 in
theorem root_any (F : Nat → Bool) (p n : Nat) (w : World) (hp : p < 65536) (hn : n = 2 ∨ n = 3) (hF : ∀ x, F x = decide (p * 4294967296 ^ n < x ^ n)) :
  Calls Tryz.prog 110 #[.int .u32 (p : Int), .int .i64 (n : Int)] w (RetN_s .u32 (rootN F 38 0 137438953472 % 4294967296) w) := by
 obtain ⟨R, hR⟩ : ∃ R, rootN F 38 0 137438953472 = R := ⟨_, rfl⟩
 rw [hR]
 have HR := Lib.hid hR
 clear hR
 have hn2 : n < 2 * n := by omega
 have hn0 : 0 < n := by omega
 have hn3 : n ≤ 3 := by omega
 clear hn
 have hz : (List.replicate (2 * n) 0)[n]? = some 0 := by rw [List.getElem?_replicate, if_pos hn2]
 have HZ := Lib.hid hz
 clear hz
 have HW := Lib.hid (val_want n p hn2)
 go_enter Tryz.func110, Tryz.ntmps110
 go_wp2_with (at_make; refine wpList_make_ints _ rfl _ _ _ rfl .u32 129 4 Tryz.underlying128 info_u32 _ _ (2 * n) _ _ rfl rfl (by omega) (by omega) (by omega) (by omega) ?_; intro g w1 hg hw1 hs1 hb1; have hc0 := hw1.blk.cell HZ.out; have hf0 := hw1.blk.frozen HZ.out)
 have hgl : w.heap.size ≤ g := by rw [hg.out]; exact Nat.le_refl _
 have hbW := hw1.blk.set HZ.out p
 have hbelW := hb1.setCell (p := ⟨g, n, none⟩) hgl (.int .u32 (p : Int))
 have hwl : ((List.replicate (2 * n) 0).set n p).length = 2 * n := by simp
 have hwm : Lim 4294967296 ((List.replicate (2 * n) 0).set n p) := (Lim.replicate (by omega)).set (by omega)
 clear HZ
 generalize (List.replicate (2 * n) 0).set n p = want at *
 go_loopw [6, 7] (fun s t wr => ∃ lo hi k : Nat, s = .int .u64 (lo : Int) ∧ t = .int .u64 (hi : Int) ∧ hi ≤ 137438953472 ∧ lo ≤ hi ∧ hi - lo ≤ 2 ^ k ∧ Hid (rootN F k lo hi = R) ∧ Blk .u32 wr g want ∧ Below w.heap.size w wr) (fun s t _ => (intOf t).toNat - (intOf s).toNat)
 case atStart => exact ⟨0, 137438953472, 38, rfl, rfl, Nat.le_refl _, by omega, by decide, HR, hbW, hbelW⟩
 case round =>
  obtain ⟨lo, hi, k, rfl, rfl, h1, h2, h3, h4, hbr, hbel⟩ := hrel
  by_cases hlt : 1 < hi - lo
  ·obtain ⟨m, hm⟩ : ∃ m, m = (lo + hi) / 2 := ⟨_, rfl⟩
   have hmi : ((lo : Int) + (hi : Int)) / 2 = (m : Int) := by omega
   have hm1 : lo < m := by omega
   have hm2 : m < hi := by omega
   have HM := Lib.hid hm
   obtain ⟨j, rfl⟩ : ∃ j, k = j + 1 := by
    rcases k with _ | j
    ·simp at h3; omega
    ·exact ⟨j, rfl⟩
   have h3' : m - lo ≤ 2 ^ j ∧ hi - m ≤ 2 ^ j := by rw [Nat.pow_succ] at h3; omega
   have e1 := wrap_cast m
   have e2 : (m : Int) / 4294967296 = ((m / 4294967296 : Nat) : Int) := shr_cast m 4294967296
   have e3 := wrap_cast (m / 4294967296)
   rw [Nat.mod_eq_of_lt (show m / 4294967296 < 4294967296 by omega)] at e3
   have hv := Lib.hid (val_two m)
   have hlm : Lim 4294967296 [m % 4294967296, m / 4294967296] := lim_small (by simp; omega)
   clear hm h3
   generalize m % 4294967296 = la at *
   generalize m / 4294967296 = lb at *
   have hdl : decide ((1 : Int) < (hi : Int) - (lo : Int)) = true := decide_eq_true (by omega)
   go_wp2_with fail
   simp only [hmi, hdl]
   clear hdl
   have hbl := blk_lit (k := .u32) (t := 129) wr [la, lb] #[.int .u32 (la : Int), .int .u32 (lb : Int)] rfl
   have hbr2 := hbr.alloc (.cells #[.int .u32 (la : Int), .int .u32 (lb : Int)] 129)
   have hbel2 := hbel.alloc hbel.size (.cells #[.int .u32 (la : Int), .int .u32 (lb : Int)] 129)
   have hgl2 : w.heap.size ≤ wr.heap.size := hbel.size
   generalize wr.alloc (.cells #[.int .u32 (la : Int), .int .u32 (lb : Int)] 129) = wv at *
   generalize wr.heap.size = g2 at *
   have hlen2 := Lib.hid (show [la, lb].length = 2 from rfl)
   generalize [la, lb] = ls at *
   go_loopw [10, 11] (fun y t wr' => ∃ (i : Nat) (A : Option Addr) (c : Nat) (ys : List Nat), y = .slice A ys.length c ∧ t = .int .i64 (i : Int) ∧ 1 ≤ i ∧ i ≤ n ∧ Hid (ys.length = 2 * i) ∧ Rd .u32 wr' A ys ∧ Lim 4294967296 ys ∧ Hid (val ys = m ^ i) ∧ Blk .u32 wr' g2 ls ∧ Blk .u32 wr' g want ∧ Below w.heap.size w wr') (fun _ t _ => n - (intOf t).toNat)
   case atStart => exact ⟨1, _, _, ls, by rw [hlen2.out], rfl, Nat.le_refl _, by omega, hlen2, Rd.of_all hbl, hlm, by show _ = _; rw [hv.out, Nat.pow_one], hbl, hbr2, hbel2⟩
   case round =>
    obtain ⟨i, A, c, ys, rfl, rfl, hi1, hin, hyl, hyr, hym, hyv, hb2, hb3, hbel3⟩ := hrel
    by_cases hlt2 : i < n
    ·have hls := Rd.of_all hb2
     have HT := Lib.hid (mulTo_ok (xs := ys) (ys := ls) hym hlm (Nat.le_refl ys.length))
     have HL := Lib.hid (mulTo_length ys ls ys.length)
     go_wp2_with fail
     refine (times_any A (some ⟨g2, 0, none⟩) ys.length 2 c 2 ys ls _ rfl hlen2.out.symm (by have := hyl.out; omega) (by omega) hyr hls hym hlm).mono ?_
     rintro e w' ⟨A', c', rfl, _, _, ho, hb⟩
     have hyv2 : val (mulTo ys ls ys.length) = m ^ (i + 1) := by
      rw [HT.out.1, List.take_length, hyv.out, hv.out, Nat.pow_succ]
     have HV := Lib.hid hyv2
     have hb2' := hb2.below hb
     have hb3' := hb3.below hb
     have hbel4 := hbel3.trans (hb.mono hbel3.size)
     have hlm2 := HT.out.2.1
     clear hyv2
     go_wp2_with fail
     go_roundw
     case rel => exact ⟨i + 1, A', c', mulTo ys ls ys.length, rfl, by go_num, by omega, by omega, by show _ = _; rw [HL.out, hyl.out, hlen2.out]; omega, ho.rd, hlm2, HV, hb2', hb3', hbel4⟩
     case measure => simp [intOf] <;> omega
    ·obtain rfl : i = n := by omega
     have HU := Lib.hid hwl
     have hFm : decide (val want < val ys) = F m := by rw [hF, HW.out, hyv.out]
     have HF := Lib.hid hFm
     have hwr := Rd.of_all hb3
     clear hFm hwl
     cases hc : F m with
     | true =>
      have HY := Lib.hid ((rootN_yes hlt HM.out hc).symm.trans h4.out)
      have HC := Lib.hid hc
      clear hc
      go_wp2_with fail
      refine (above_any A (some ⟨g, 0, none⟩) ys.length (2 * i) c (2 * i) ys want _ rfl hyl.out.symm (by rw [hyl.out, HU.out]) (by have := hyl.out; omega) hyr hwr hym hwm).mono ?_
      rw [HF.out, HC.out]
      rintro e w' ⟨rfl, q, rfl⟩
      go_wp2_with fail
      go_roundw
      case rel => exact ⟨lo, m, j, rfl, rfl, by omega, by omega, h3'.1, HY, hb3.drewN q, below_drewN hbel3 q⟩
      case measure => simp [intOf] <;> omega
     | false =>
      have HY := Lib.hid ((rootN_no hlt HM.out hc).symm.trans h4.out)
      have HC := Lib.hid hc
      clear hc
      go_wp2_with fail
      refine (above_any A (some ⟨g, 0, none⟩) ys.length (2 * i) c (2 * i) ys want _ rfl hyl.out.symm (by rw [hyl.out, HU.out]) (by have := hyl.out; omega) hyr hwr hym hwm).mono ?_
      rw [HF.out, HC.out]
      rintro e w' ⟨rfl, q, rfl⟩
      go_wp2_with fail
      go_roundw
      case rel => exact ⟨m, hi, j, rfl, rfl, h1, by omega, h3'.2, HY, hb3.drewN q, below_drewN hbel3 q⟩
      case measure => simp [intOf] <;> omega
  ·have HY := Lib.hid ((rootN_done F k (lo := lo) (hi := hi) (by omega)).symm.trans h4.out)
   have e1 := wrap_cast lo
   go_wp2_with fail
   go_ret
   exact ⟨by rw [← HY.out]; rfl, hbel⟩
theorem root_sq (p : Nat) (w : World) (hp : p < 65536) : Calls Tryz.prog 110 #[.int .u32 (p : Int), .int .i64 2] w (RetN_s .u32 (rootN (sqF p) 38 0 137438953472 % 4294967296) w) := root_any (sqF p) p 2 w hp (.inl rfl) (sqF_pow p)
theorem root_cu (p : Nat) (w : World) (hp : p < 65536) : Calls Tryz.prog 110 #[.int .u32 (p : Int), .int .i64 3] w (RetN_s .u32 (rootN (cuF p) 38 0 137438953472 % 4294967296) w) := root_any (cuF p) p 3 w hp (.inr rfl) (cuF_pow p)
end Go.Proofs.YtchaahnhpeoomaaGreat
namespace Go.Proofs.YtchaahnhpeoomaaGreat
set_option linter.unusedVariables false
set_option linter.unusedSimpArgs false
set_option maxRecDepth 20000
open Go.RowKit
set_option maxHeartbeats 1600000 in
theorem refPrimes_any (N K : Nat) (w : World) (hN : N ≤ 64) (hK : K ≤ 310) (h1 : (primeRun K).length = N) (h2 : ∀ j, j < K → (primeRun j).length < N) :
  Calls Tryz.prog 109 #[.int .i64 (N : Int)] w (Gives .u32 (primeRun K) w) := by
 have H1 := Lib.hid h1
 have H2 := Lib.hid h2
 clear h1 h2
 go_enter Tryz.func109, Tryz.ntmps109
 go_wp2_with fail
 go_loopw [3, 4] (fun s u wr => ∃ (k n p : Nat) (A : Option Addr) (c : Nat), s = .slice A n c ∧ u = .int .u32 (p : Int) ∧ Hid (p = k + 2) ∧ p ≤ 320 ∧ k ≤ K ∧ Hid (n = (primeRun k).length) ∧ n ≤ N ∧ wr.ownsRow w.heap.size 129 1 (.slice A n c) n (ints .u32 (primeRun k)) ∧ Below w.heap.size w wr) (fun s u _ => 400 - (intOf u).toNat)
 case atStart => exact ⟨0, 0, 2, none, 0, rfl, rfl, rfl, by omega, Nat.zero_le _, rfl, Nat.zero_le _, World.ownsRow_nil _ _ _ _, Below.refl _ _⟩
 case round =>
  obtain ⟨k, n, p, A, c, rfl, rfl, hp, hpl, hk, hn, hnN, hown, hbel⟩ := hrel
  by_cases hlt : n < N
  ·have hk2 : k < K := by
    rcases Nat.lt_or_ge k K with h | h
    ·exact h
    ·obtain rfl : k = K := by omega
     have := H1.out
     have := hn.out
     omega
   obtain ⟨A', c', he, -, -, -, hO⟩ := Own.of_row hown
   injection he with he1 _ he2
   subst he1
   subst he2
   have hx := hO.rd
   have hbd := Lib.hid (primeRun_bd k)
   obtain ⟨b, hb⟩ : ∃ b, (primeRun k).any (fun q => (k + 2) % q == 0) = b := ⟨_, rfl⟩
   have hpr := primeRun_yes hb
   rw [← hp.out] at hb hpr
   have HB := Lib.hid hb
   have HP := Lib.hid hpr
   have HN := Lib.hid (H2.out (k + 1))
   clear hb hpr
   generalize primeRun k = l at *
   go_wp2_with fail
   go_loop [5, 6] (fun s t => ∃ (i : Nat) (z : Bool), s = .bool z ∧ t = .int .i64 (i : Int) ∧ i ≤ l.length ∧ Hid (z = !((l.take i).any (fun q => p % q == 0)))) (fun _ t => l.length - (intOf t).toNat)
   case atStart => exact ⟨0, true, rfl, rfl, Nat.zero_le _, rfl⟩
   case round =>
    obtain ⟨i, z, rfl, rfl, hi, hz⟩ := hrel
    by_cases hil : i < l.length
    ·obtain ⟨x, hgx⟩ := get_of_lt hil
     have HT := Lib.hid (show l.take (i + 1) = l.take i ++ [x] by rw [List.take_add_one, hgx]; rfl)
     cases z with
     | false =>
      have hin : i < n := by have := hn.out; omega
      clear hgx
      go_wp2_with fail
      go_round
      case rel => exact ⟨i + 1, false, rfl, by go_num, hil, by
       show false = _
       have h3 := hz.out
       rw [HT.out, List.any_append]
       cases hh : (l.take i).any (fun q => p % q == 0) with
       | true => rfl
       | false => rw [hh] at h3; cases h3⟩
      case measure => simp [intOf]; omega
     | true =>
      obtain ⟨bb, o, rfl, hbw, hcl⟩ := hx.pos hgx
      have hcell := hcl _ x hgx
      obtain ⟨hq1, hq2⟩ := hbd.out x (List.mem_of_getElem? hgx)
      have hz0 : ((x : Int) == 0) = false := by simp; omega
      have hmm : ((p : Int) % (x : Int)) = ((p % x : Nat) : Int) := by simp
      have hml : p % x < x := Nat.mod_lt _ (by omega)
      have hz3 := Lib.hid (show ((l.take (i + 1)).any fun q => p % q == 0) = (p % x == 0) by
       have h3 := hz.out
       simp only [Bool.true_eq, Bool.not_eq_true'] at h3
       rw [HT.out, List.any_append, h3]
       simp)
      generalize p % x = r at *
      have hin : i < n := by have := hn.out; omega
      clear hcl hgx
      go_wp2_with fail
      go_round
      case rel => exact ⟨i + 1, _, rfl, by go_num, hil, by show _ = _; rw [hz3.out, Bool.eq_iff_iff]; simp⟩
      case measure => simp [intOf]; omega
    ·obtain rfl : i = l.length := by omega
     have hin : ¬ l.length < n := by have := hn.out; omega
     have hzb : z = !b := by have := hz.out; rw [List.take_length, HB.out] at this; exact this
     subst hzb
     cases b with
     | true =>
      go_wp2_with fail
      go_roundw
      case rel => exact ⟨k + 1, n, p + 1, A, c, rfl, by go_num, by show p + 1 = k + 1 + 2; have := hp.out; omega, by have := hp.out; omega, hk2, by show n = _; rw [HP.out]; exact hn.out, hnN, by rw [HP.out]; exact hown, hbel⟩
      case measure => simp [intOf]; have := hp.out; omega
     | false =>
      have hv := Lib.hid (show #[Value.int .u32 (p : Int)] = (ints .u32 [p]).toArray by simp [ints])
      go_wp2_with (at_builtin; refine wpList_append_ints _ rfl (.tmp 30) (.tmp 32) _ rfl w.heap.size 129 .u32 4 Tryz.underlying128 info_u32 (.slice A n c) n l rfl (hown.alloc _) _ 1 1 [p] rfl rfl (Rd.of_all (blk_lit wr [p] _ hv.out)) (by simp only [maxLen]; omega) (by omega) (by have := hbel.size; simp; omega) ?_; intro v5 w5 hown5 hgrow5 _)
      obtain ⟨A5, c5, rfl, _⟩ := row_form hown5
      have hbr5 : Below w.heap.size w w5 := (hbel.alloc hbel.size _).grown hgrow5 (by have := hbel.size; simp; omega) (fun k hk => (hown.lt k hk).1)
      have hPl := Lib.hid (show n + 1 = (primeRun (k + 1)).length by rw [HP.out]; simp [hn.out])
      have hPN := Lib.hid (show n + 1 ≤ N by omega)
      have hPo : w5.ownsRow w.heap.size 129 1 (.slice A5 (n + 1) c5) (n + 1) (ints .u32 (primeRun (k + 1))) := by rw [HP.out]; exact hown5
      go_wp2_with fail
      go_roundw
      case rel => exact ⟨k + 1, n + 1, p + 1, A5, c5, rfl, by go_num, by show p + 1 = k + 1 + 2; have := hp.out; omega, by have := hp.out; omega, hk2, hPl, hPN.out, hPo, hbr5⟩
      case measure => simp [intOf]; have := hp.out; omega
  ·have hkK : k = K := by
    rcases Nat.lt_or_ge k K with h | h
    ·have h3 := H2.out k h
     have := hn.out
     omega
    ·omega
   subst hkK
   obtain ⟨A', c', he, -, hle, hcm, hO⟩ := Own.of_row hown
   injection he with he1 _ he2
   subst he1
   subst he2
   go_wp2_with fail
   go_ret
   exact ⟨A, c, by rw [← hn.out]; rfl, by rw [← hn.out]; exact hle, hcm, hO, hbel⟩
def fillL (f : Nat → Nat) (l : List Nat) (N i : Nat) : List Nat := (l.take i).map f ++ List.replicate (N - i) 0
theorem fill_get {f : Nat → Nat} {l : List Nat} {N i : Nat} (hl : l.length = N) (hi : i < N) : (fillL f l N i)[i]? = some 0 := by
 have h : ((l.take i).map f).length = i := by simp; omega
 rw [fillL, List.getElem?_append_right (by omega), h, Nat.sub_self, List.getElem?_replicate, if_pos (by omega)]
theorem fill_set {f : Nat → Nat} {l : List Nat} {N i x : Nat} (hi : i < N) (hx : l[i]? = some x) : (fillL f l N i).set i (f x) = fillL f l N (i + 1) := by
 have hil : i < l.length := (List.getElem?_eq_some_iff.1 hx).1
 have h : ((l.take i).map f).length = i := by simp; omega
 obtain ⟨m, hm⟩ : ∃ m, N - i = m + 1 := ⟨N - i - 1, by omega⟩
 have h2 : N - (i + 1) = m := by omega
 rw [fillL, fillL, List.set_append_right _ _ (by omega), h, Nat.sub_self, hm, h2, List.replicate_succ, List.set_cons_zero, List.take_add_one, hx]
 simp
set_option maxHeartbeats 800000 in
theorem roots_any (F : Nat → Nat → Bool) (N K m : Nat) (w : World) (hN : N ≤ 64) (hK : K ≤ 310) (h1 : (primeRun K).length = N) (h2 : ∀ j, j < K → (primeRun j).length < N)
  (hr : ∀ (p : Nat) (w : World), p < 65536 → Calls Tryz.prog 110 #[.int .u32 (p : Int), .int .i64 (m : Int)] w (RetN_s .u32 (rootN (F p) 38 0 137438953472 % 4294967296) w)) :
  Calls Tryz.prog 75 #[.int .i64 (N : Int), .int .i64 (m : Int)] w (Gives .u32 ((primeRun K).map fun p => rootN (F p) 38 0 137438953472 % 4294967296) w) := by
 have HP := refPrimes_any N K w hN hK h1 h2
 have HL := Lib.hid h1
 have HB := Lib.hid (primeRun_bd K)
 clear h1 h2
 generalize primeRun K = l at *
 go_enter Tryz.func75, Tryz.ntmps75
 go_wp2_with fail
 refine HP.mono ?_
 rintro e w1 ⟨A, c, rfl, hc1, hc2, hO, hb1⟩
 have hx := hO.rd
 clear hO hc1 hc2
 go_wp2_with (at_make; refine wpList_make_ints _ rfl _ _ _ rfl .u32 129 4 Tryz.underlying128 info_u32 _ _ N _ _ rfl rfl (by omega) (by omega) (by omega) (by omega) ?_; intro g w2 hg hw2 hs2 hb2)
 have hgl : w1.heap.size ≤ g := by rw [hg.out]; exact Nat.le_refl _
 have hgl' : w.heap.size ≤ g := Nat.le_trans hb1.size hgl
 have hbel := hb1.trans (hb2.mono hb1.size)
 have hx2 := hx.below hb2
 have hof : Off A l g := Off.new hx hgl
 go_loopw [7] (fun t wr => ∃ i : Nat, t = .int .i64 (i : Int) ∧ i ≤ N ∧ Blk .u32 wr g (fillL (fun p => rootN (F p) 38 0 137438953472 % 4294967296) l N i) ∧ Rd .u32 wr A l ∧ Below w.heap.size w wr) (fun t _ => N - (intOf t).toNat)
 case atStart => exact ⟨0, rfl, Nat.zero_le _, by simpa [fillL] using hw2.blk, hx2, hbel⟩
 case round =>
  clear hbel hw2 hx2 hb2
  obtain ⟨i, rfl, hi, hbr, hxr, hbel⟩ := hrel
  by_cases hlt : i < N
  ·obtain ⟨x, hgx⟩ := get_of_lt (xs := l) (i := i) (by rw [HL.out]; exact hlt)
   have hgxx := Lib.hid hgx
   have hll := Lib.hid HL.out
   obtain ⟨b, o, rfl, hbw, hcl⟩ := hxr.pos hgx
   have hcell := hcl _ x hgx
   have hxb := (HB.out x (List.mem_of_getElem? hgx)).2
   clear hcl hgx
   have hil : i < l.length := by have := hll.out; omega
   have HG := Lib.hid (fill_get (f := fun p => rootN (F p) 38 0 137438953472 % 4294967296) hll.out hlt)
   have HS := Lib.hid (fill_set (f := fun p => rootN (F p) 38 0 137438953472 % 4294967296) hlt hgxx.out)
   generalize fillL (fun p => rootN (F p) 38 0 137438953472 % 4294967296) l N i = cs at *
   obtain ⟨ds, hds⟩ : ∃ ds, fillL (fun p => rootN (F p) 38 0 137438953472 % 4294967296) l N (i + 1) = ds := ⟨_, rfl⟩
   rw [hds] at HS
   have HDS := Lib.hid hds
   clear hds
   have hR := hr x wr (by omega)
   generalize rootN (F x) 38 0 137438953472 % 4294967296 = r at *
   go_wp2_with fail
   refine hR.mono ?_
   rintro e w3 ⟨rfl, hb3⟩
   have hbr3 := hbr.below hb3
   have hxr3 := hxr.below hb3
   have hbel3 := hbel.trans (hb3.mono hbel.size)
   have hc0 := hbr3.cell HG.out
   have hf0 := hbr3.frozen HG.out
   have hs3 := hbr3.set HG.out r
   rw [HS.out] at hs3
   go_wp2_with fail
   go_roundw
   case rel => exact ⟨i + 1, by go_num, hlt, by rw [HDS.out]; exact hs3, hxr3.setCell hof _, hbel3.setCell hgl' _⟩
   case measure => simp [intOf]; omega
  ·obtain rfl : i = N := by omega
   have he : fillL (fun p => rootN (F p) 38 0 137438953472 % 4294967296) l i i = l.map fun p => rootN (F p) 38 0 137438953472 % 4294967296 := by rw [fillL, List.take_of_length_le (by rw [HL.out]; omega)]; simp
   rw [he] at hbr
   have hml := Lib.hid (show (l.map fun p => rootN (F p) 38 0 137438953472 % 4294967296).length = i by simp [HL.out])
   clear he
   go_wp2_with fail
   go_ret
   exact ⟨_, _, by rw [hml.out]; rfl, by rw [hml.out]; exact Nat.le_refl _, by simp only [maxLen]; omega, Own.of_blk hbr hgl', hbel⟩
theorem primeRun_below {n j m : Nat} (h : (primeRun n).length = m) (hj : j < n + 1) : (primeRun j).length < m + 1 := by
 have h1 := primeRun_mono j (n - j)
 rw [show j + (n - j) = n by omega, h] at h1
 omega
theorem roots_H (w : World) : Calls Tryz.prog 75 #[.int .i64 8, .int .i64 2] w (Gives .u32 H8 w) := by
 have h := roots_any sqF 8 18 2 w (by omega) (by omega) (by rw [primeRun_18]; rfl) (fun j hj => primeRun_below primeRun_17 hj) (fun p w hp => root_sq p w hp)
 rw [primeRun_18, H8_ref] at h
 exact h
theorem roots_K (w : World) : Calls Tryz.prog 75 #[.int .i64 64, .int .i64 3] w (Gives .u32 K64 w) := by
 have h := roots_any cuF 64 310 3 w (by omega) (by omega) (by rw [primeRun_310]; rfl) (fun j hj => primeRun_below primeRun_309 hj) (fun p w hp => root_cu p w hp)
 rw [primeRun_310, K64_ref] at h
 exact h
end Go.Proofs.YtchaahnhpeoomaaGreat
namespace Go.Proofs.YtchaahnhpeoomaaGreat
set_option linter.unusedVariables false
set_option linter.unusedSimpArgs false
set_option maxRecDepth 20000
open Go.RowKit
theorem be64_length (B : Nat) : (be64 B).length = 8 := by simp [be64]
theorem be64_take (B j : Nat) (h : j < 8) : (be64 B).take j ++ [B / 2 ^ (56 - 8 * j) % 256] = (be64 B).take (j + 1) := by
 rw [List.take_add_one, List.getElem?_eq_getElem (by rw [be64_length]; exact h)]
 simp [be64]
theorem byte_cast (B P : Nat) : IntKind.u8.wrap ((B : Int) / (P : Int)) = ((B / P % 256 : Nat) : Int) := by
 rw [IntKind.wrap_u8', Int.natCast_emod, Int.natCast_ediv]
 rfl
set_option maxHeartbeats 1600000 in
theorem padded_any (A : Option Addr) (n c : Nat) (xs : List Nat) (w : World) (hn : n = xs.length) (hl : n ≤ 1099511627776) (hx : Rd .u8 w A xs) :
  Calls Tryz.prog 76 #[.slice A n c] w (Gives .u8 (xs ++ padding xs.length) w) := by
 obtain ⟨z, hz⟩ : ∃ z, z = (119 - n % 64) % 64 := ⟨_, rfl⟩
 obtain ⟨B, hB⟩ : ∃ B, B = 8 * n := ⟨_, rfl⟩
 have hBi : (8 : Int) * (n : Int) = (B : Int) := by omega
 have HP := Lib.hid (show xs ++ padding xs.length = xs ++ 128 :: List.replicate z 0 ++ be64 B by
  rw [← hn, padding, ← hz, hB, Nat.mod_eq_of_lt (show 8 * n < 18446744073709551616 by omega)]
  simp)
 have HLn := Lib.hid hn
 have HB := Lib.hid hB
 have HZ := Lib.hid hz
 have hzl : z < 64 := by omega
 rw [HP.out]
 clear hB hz hn
 go_enter Tryz.func76, Tryz.ntmps76
 go_wp2_with fail
 refine (copyBytes_any A n c xs _ HLn.out hl hx).mono ?_
 rintro e w1 ⟨A1, c1, rfl, hown, hb1⟩
 rw [← HLn.out] at hown ⊢
 have hv := Lib.hid (show #[Value.int .u8 128] = (ints .u8 [128]).toArray by simp [ints])
 go_wp2_with (at_builtin; refine wpList_append_ints _ rfl (.tmp 8) (.tmp 9) _ rfl w.heap.size 5 .u8 1 Tryz.underlying22 info_u8 (.slice A1 n c1) n xs rfl (hown.alloc _) _ 1 1 [128] rfl rfl (Rd.of_all (blk_lit w1 [128] _ hv.out)) (by simp only [maxLen]; omega) (by omega) (by have := hb1.size; simp; omega) ?_; intro v2 w2 hown2 hgrow2 _)
 obtain ⟨A2, c2, rfl, -⟩ := row_form hown2
 have hb2 : Below w.heap.size w w2 := (hb1.alloc hb1.size _).grown hgrow2 (by have := hb1.size; simp; omega) (fun k hk => (hown.lt k hk).1)
 go_wp2_with fail
 go_loopw [3] (fun s wr => ∃ (i p : Nat) (A : Option Addr) (c : Nat), s = .slice A p c ∧ i ≤ z ∧ Hid (p = n + 1 + i) ∧ p ≤ 1099511627900 ∧ wr.ownsRow w.heap.size 5 1 (.slice A p c) p (ints .u8 (xs ++ 128 :: List.replicate i 0)) ∧ Below w.heap.size w wr) (fun s wr => 100 + n - sliceLen s)
 case atStart => exact ⟨0, n + 1, A2, c2, rfl, Nat.zero_le _, rfl, by omega, hown2, hb2⟩
 case round =>
  clear hown hown2 hb1 hb2
  obtain ⟨i, p, A3, c3, rfl, hi, hp, hpl, hown, hbr⟩ := hrel
  by_cases hlt : i < z
  ·have hne : ((p : Int) % 64 != 56) = true := by have := hp.out; have := HZ.out; simp; omega
   have hv := Lib.hid (show #[Value.int .u8 0] = (ints .u8 [0]).toArray by simp [ints])
   go_wp2_with (at_builtin; refine wpList_append_ints _ rfl (.tmp 15) (.tmp 16) _ rfl w.heap.size 5 .u8 1 Tryz.underlying22 info_u8 (.slice A3 p c3) p (xs ++ 128 :: List.replicate i 0) rfl (hown.alloc _) _ 1 1 [0] rfl rfl (Rd.of_all (blk_lit wr [0] _ hv.out)) (by simp only [maxLen]; omega) (by omega) (by have := hbr.size; simp; omega) ?_; intro v5 w5 hown5 hgrow5 _)
   obtain ⟨A5, c5, rfl, -⟩ := row_form hown5
   have hbr5 : Below w.heap.size w w5 := (hbr.alloc hbr.size _).grown hgrow5 (by have := hbr.size; simp; omega) (fun k hk => (hown.lt k hk).1)
   have he : (xs ++ 128 :: List.replicate i 0) ++ [0] = xs ++ 128 :: List.replicate (i + 1) 0 := by rw [List.replicate_succ']; simp
   rw [he] at hown5
   go_wp2_with fail
   go_roundw
   case rel => exact ⟨i + 1, p + 1, A5, c5, rfl, hlt, by show p + 1 = n + 1 + (i + 1); have := hp.out; omega, by have := hp.out; omega, hown5, hbr5⟩
   case measure => have := hp.out; simp [sliceLen]; omega
  ·obtain rfl : i = z := by omega
   have hne : ((p : Int) % 64 != 56) = false := by have := hp.out; have := HZ.out; simp; omega
   go_wp2_with fail
   have hp2 := Lib.hid (show p + 8 = (xs ++ 128 :: List.replicate i 0 ++ be64 B).length by have := hp.out; have := HLn.out; simp [be64_length]; omega)
   have hpm : p ≤ 1099511627900 := hpl
   have HR := Lib.hid (show xs ++ 128 :: List.replicate i 0 = xs ++ 128 :: List.replicate i 0 from rfl)
   clear HR hne hp hlt hi hzl HZ HB HP hl hBi
   generalize xs ++ 128 :: List.replicate i 0 = ms at *
   go_loopw [3, 5] (fun s t wr => ∃ (j q : Nat) (v : Int) (A : Option Addr) (c : Nat), s = .slice A q c ∧ t = .int .i64 v ∧ Hid (v = 7 - (j : Int)) ∧ j ≤ 8 ∧ Hid (q = p + j) ∧ q ≤ 1099511627920 ∧ wr.ownsRow w.heap.size 5 1 (.slice A q c) q (ints .u8 (ms ++ (be64 B).take j)) ∧ Below w.heap.size w wr) (fun s t _ => (intOf t + 1).toNat)
   case atStart => exact ⟨0, p, 7, A3, c3, rfl, rfl, rfl, by omega, rfl, by omega, by simpa using hown, hbr⟩
   case round =>
    clear hown hbr
    obtain ⟨j, q, v, A4, c4, rfl, rfl, hv, hj, hq, hql, hown, hbr⟩ := hrel
    rcases Nat.lt_or_ge j 8 with hj8 | hj8
    ·have ht := Lib.hid (be64_take B j hj8)
     have hq1 := Lib.hid (show q + 1 = p + (j + 1) by have := hq.out; omega)
     have hcs : j = 0 ∨ j = 1 ∨ j = 2 ∨ j = 3 ∨ j = 4 ∨ j = 5 ∨ j = 6 ∨ j = 7 := by omega
     clear hj hj8
     rcases hcs with rfl | rfl | rfl | rfl | rfl | rfl | rfl | rfl
     ·obtain rfl : v = 7 := by have := hv.out; omega
      have hbt : IntKind.u8.wrap ((B : Int) / 72057594037927936) = ((B / 72057594037927936 % 256 : Nat) : Int) := byte_cast B 72057594037927936
      have hb7 : (B : Int) % 256 = ((B / 1 % 256 : Nat) : Int) := by rw [Nat.div_one]; omega
      replace ht : Hid ((be64 B).take 0 ++ [B / 72057594037927936 % 256] = (be64 B).take (0 + 1)) := ht
      generalize B / 72057594037927936 % 256 = bt at *
      have hv := Lib.hid (show #[Value.int .u8 (bt : Int)] = (ints .u8 [bt]).toArray by simp [ints])
      go_wp2_with (at_builtin; refine wpList_append_ints _ rfl (.tmp 26) (.tmp 33) _ rfl w.heap.size 5 .u8 1 Tryz.underlying22 info_u8 (.slice A4 q c4) q (ms ++ (be64 B).take 0) rfl (hown.alloc _) _ 1 1 [bt] rfl rfl (Rd.of_all (blk_lit wr [bt] _ hv.out)) (by simp only [maxLen]; omega) (by omega) (by have := hbr.size; simp; omega) ?_; intro v5 w5 hown5 hgrow5 _)
      obtain ⟨A5, c5, rfl, -⟩ := row_form hown5
      have hbr5 : Below w.heap.size w w5 := (hbr.alloc hbr.size _).grown hgrow5 (by have := hbr.size; simp; omega) (fun k hk => (hown.lt k hk).1)
      rw [List.append_assoc, ht.out] at hown5
      go_wp2_with fail
      go_roundw
      case rel => exact ⟨0 + 1, q + 1, 7 - 1, A5, c5, rfl, rfl, by show _ = _; rfl, by omega, hq1, by have := hq1.out; omega, hown5, hbr5⟩
      case measure => simp [intOf]
     ·obtain rfl : v = 6 := by have := hv.out; omega
      have hbt : IntKind.u8.wrap ((B : Int) / 281474976710656) = ((B / 281474976710656 % 256 : Nat) : Int) := byte_cast B 281474976710656
      have hb7 : (B : Int) % 256 = ((B / 1 % 256 : Nat) : Int) := by rw [Nat.div_one]; omega
      replace ht : Hid ((be64 B).take 1 ++ [B / 281474976710656 % 256] = (be64 B).take (1 + 1)) := ht
      generalize B / 281474976710656 % 256 = bt at *
      have hv := Lib.hid (show #[Value.int .u8 (bt : Int)] = (ints .u8 [bt]).toArray by simp [ints])
      go_wp2_with (at_builtin; refine wpList_append_ints _ rfl (.tmp 26) (.tmp 33) _ rfl w.heap.size 5 .u8 1 Tryz.underlying22 info_u8 (.slice A4 q c4) q (ms ++ (be64 B).take 1) rfl (hown.alloc _) _ 1 1 [bt] rfl rfl (Rd.of_all (blk_lit wr [bt] _ hv.out)) (by simp only [maxLen]; omega) (by omega) (by have := hbr.size; simp; omega) ?_; intro v5 w5 hown5 hgrow5 _)
      obtain ⟨A5, c5, rfl, -⟩ := row_form hown5
      have hbr5 : Below w.heap.size w w5 := (hbr.alloc hbr.size _).grown hgrow5 (by have := hbr.size; simp; omega) (fun k hk => (hown.lt k hk).1)
      rw [List.append_assoc, ht.out] at hown5
      go_wp2_with fail
      go_roundw
      case rel => exact ⟨1 + 1, q + 1, 6 - 1, A5, c5, rfl, rfl, by show _ = _; rfl, by omega, hq1, by have := hq1.out; omega, hown5, hbr5⟩
      case measure => simp [intOf]
     ·obtain rfl : v = 5 := by have := hv.out; omega
      have hbt : IntKind.u8.wrap ((B : Int) / 1099511627776) = ((B / 1099511627776 % 256 : Nat) : Int) := byte_cast B 1099511627776
      have hb7 : (B : Int) % 256 = ((B / 1 % 256 : Nat) : Int) := by rw [Nat.div_one]; omega
      replace ht : Hid ((be64 B).take 2 ++ [B / 1099511627776 % 256] = (be64 B).take (2 + 1)) := ht
      generalize B / 1099511627776 % 256 = bt at *
      have hv := Lib.hid (show #[Value.int .u8 (bt : Int)] = (ints .u8 [bt]).toArray by simp [ints])
      go_wp2_with (at_builtin; refine wpList_append_ints _ rfl (.tmp 26) (.tmp 33) _ rfl w.heap.size 5 .u8 1 Tryz.underlying22 info_u8 (.slice A4 q c4) q (ms ++ (be64 B).take 2) rfl (hown.alloc _) _ 1 1 [bt] rfl rfl (Rd.of_all (blk_lit wr [bt] _ hv.out)) (by simp only [maxLen]; omega) (by omega) (by have := hbr.size; simp; omega) ?_; intro v5 w5 hown5 hgrow5 _)
      obtain ⟨A5, c5, rfl, -⟩ := row_form hown5
      have hbr5 : Below w.heap.size w w5 := (hbr.alloc hbr.size _).grown hgrow5 (by have := hbr.size; simp; omega) (fun k hk => (hown.lt k hk).1)
      rw [List.append_assoc, ht.out] at hown5
      go_wp2_with fail
      go_roundw
      case rel => exact ⟨2 + 1, q + 1, 5 - 1, A5, c5, rfl, rfl, by show _ = _; rfl, by omega, hq1, by have := hq1.out; omega, hown5, hbr5⟩
      case measure => simp [intOf]
     ·obtain rfl : v = 4 := by have := hv.out; omega
      have hbt : IntKind.u8.wrap ((B : Int) / 4294967296) = ((B / 4294967296 % 256 : Nat) : Int) := byte_cast B 4294967296
      have hb7 : (B : Int) % 256 = ((B / 1 % 256 : Nat) : Int) := by rw [Nat.div_one]; omega
      replace ht : Hid ((be64 B).take 3 ++ [B / 4294967296 % 256] = (be64 B).take (3 + 1)) := ht
      generalize B / 4294967296 % 256 = bt at *
      have hv := Lib.hid (show #[Value.int .u8 (bt : Int)] = (ints .u8 [bt]).toArray by simp [ints])
      go_wp2_with (at_builtin; refine wpList_append_ints _ rfl (.tmp 26) (.tmp 33) _ rfl w.heap.size 5 .u8 1 Tryz.underlying22 info_u8 (.slice A4 q c4) q (ms ++ (be64 B).take 3) rfl (hown.alloc _) _ 1 1 [bt] rfl rfl (Rd.of_all (blk_lit wr [bt] _ hv.out)) (by simp only [maxLen]; omega) (by omega) (by have := hbr.size; simp; omega) ?_; intro v5 w5 hown5 hgrow5 _)
      obtain ⟨A5, c5, rfl, -⟩ := row_form hown5
      have hbr5 : Below w.heap.size w w5 := (hbr.alloc hbr.size _).grown hgrow5 (by have := hbr.size; simp; omega) (fun k hk => (hown.lt k hk).1)
      rw [List.append_assoc, ht.out] at hown5
      go_wp2_with fail
      go_roundw
      case rel => exact ⟨3 + 1, q + 1, 4 - 1, A5, c5, rfl, rfl, by show _ = _; rfl, by omega, hq1, by have := hq1.out; omega, hown5, hbr5⟩
      case measure => simp [intOf]
     ·obtain rfl : v = 3 := by have := hv.out; omega
      have hbt : IntKind.u8.wrap ((B : Int) / 16777216) = ((B / 16777216 % 256 : Nat) : Int) := byte_cast B 16777216
      have hb7 : (B : Int) % 256 = ((B / 1 % 256 : Nat) : Int) := by rw [Nat.div_one]; omega
      replace ht : Hid ((be64 B).take 4 ++ [B / 16777216 % 256] = (be64 B).take (4 + 1)) := ht
      generalize B / 16777216 % 256 = bt at *
      have hv := Lib.hid (show #[Value.int .u8 (bt : Int)] = (ints .u8 [bt]).toArray by simp [ints])
      go_wp2_with (at_builtin; refine wpList_append_ints _ rfl (.tmp 26) (.tmp 33) _ rfl w.heap.size 5 .u8 1 Tryz.underlying22 info_u8 (.slice A4 q c4) q (ms ++ (be64 B).take 4) rfl (hown.alloc _) _ 1 1 [bt] rfl rfl (Rd.of_all (blk_lit wr [bt] _ hv.out)) (by simp only [maxLen]; omega) (by omega) (by have := hbr.size; simp; omega) ?_; intro v5 w5 hown5 hgrow5 _)
      obtain ⟨A5, c5, rfl, -⟩ := row_form hown5
      have hbr5 : Below w.heap.size w w5 := (hbr.alloc hbr.size _).grown hgrow5 (by have := hbr.size; simp; omega) (fun k hk => (hown.lt k hk).1)
      rw [List.append_assoc, ht.out] at hown5
      go_wp2_with fail
      go_roundw
      case rel => exact ⟨4 + 1, q + 1, 3 - 1, A5, c5, rfl, rfl, by show _ = _; rfl, by omega, hq1, by have := hq1.out; omega, hown5, hbr5⟩
      case measure => simp [intOf]
     ·obtain rfl : v = 2 := by have := hv.out; omega
      have hbt : IntKind.u8.wrap ((B : Int) / 65536) = ((B / 65536 % 256 : Nat) : Int) := byte_cast B 65536
      have hb7 : (B : Int) % 256 = ((B / 1 % 256 : Nat) : Int) := by rw [Nat.div_one]; omega
      replace ht : Hid ((be64 B).take 5 ++ [B / 65536 % 256] = (be64 B).take (5 + 1)) := ht
      generalize B / 65536 % 256 = bt at *
      have hv := Lib.hid (show #[Value.int .u8 (bt : Int)] = (ints .u8 [bt]).toArray by simp [ints])
      go_wp2_with (at_builtin; refine wpList_append_ints _ rfl (.tmp 26) (.tmp 33) _ rfl w.heap.size 5 .u8 1 Tryz.underlying22 info_u8 (.slice A4 q c4) q (ms ++ (be64 B).take 5) rfl (hown.alloc _) _ 1 1 [bt] rfl rfl (Rd.of_all (blk_lit wr [bt] _ hv.out)) (by simp only [maxLen]; omega) (by omega) (by have := hbr.size; simp; omega) ?_; intro v5 w5 hown5 hgrow5 _)
      obtain ⟨A5, c5, rfl, -⟩ := row_form hown5
      have hbr5 : Below w.heap.size w w5 := (hbr.alloc hbr.size _).grown hgrow5 (by have := hbr.size; simp; omega) (fun k hk => (hown.lt k hk).1)
      rw [List.append_assoc, ht.out] at hown5
      go_wp2_with fail
      go_roundw
      case rel => exact ⟨5 + 1, q + 1, 2 - 1, A5, c5, rfl, rfl, by show _ = _; rfl, by omega, hq1, by have := hq1.out; omega, hown5, hbr5⟩
      case measure => simp [intOf]
     ·obtain rfl : v = 1 := by have := hv.out; omega
      have hbt : IntKind.u8.wrap ((B : Int) / 256) = ((B / 256 % 256 : Nat) : Int) := byte_cast B 256
      have hb7 : (B : Int) % 256 = ((B / 1 % 256 : Nat) : Int) := by rw [Nat.div_one]; omega
      replace ht : Hid ((be64 B).take 6 ++ [B / 256 % 256] = (be64 B).take (6 + 1)) := ht
      generalize B / 256 % 256 = bt at *
      have hv := Lib.hid (show #[Value.int .u8 (bt : Int)] = (ints .u8 [bt]).toArray by simp [ints])
      go_wp2_with (at_builtin; refine wpList_append_ints _ rfl (.tmp 26) (.tmp 33) _ rfl w.heap.size 5 .u8 1 Tryz.underlying22 info_u8 (.slice A4 q c4) q (ms ++ (be64 B).take 6) rfl (hown.alloc _) _ 1 1 [bt] rfl rfl (Rd.of_all (blk_lit wr [bt] _ hv.out)) (by simp only [maxLen]; omega) (by omega) (by have := hbr.size; simp; omega) ?_; intro v5 w5 hown5 hgrow5 _)
      obtain ⟨A5, c5, rfl, -⟩ := row_form hown5
      have hbr5 : Below w.heap.size w w5 := (hbr.alloc hbr.size _).grown hgrow5 (by have := hbr.size; simp; omega) (fun k hk => (hown.lt k hk).1)
      rw [List.append_assoc, ht.out] at hown5
      go_wp2_with fail
      go_roundw
      case rel => exact ⟨6 + 1, q + 1, 1 - 1, A5, c5, rfl, rfl, by show _ = _; rfl, by omega, hq1, by have := hq1.out; omega, hown5, hbr5⟩
      case measure => simp [intOf]
     ·obtain rfl : v = 0 := by have := hv.out; omega
      have hbt : IntKind.u8.wrap ((B : Int) / 1) = ((B / 1 % 256 : Nat) : Int) := byte_cast B 1
      have hb7 : (B : Int) % 256 = ((B / 1 % 256 : Nat) : Int) := by rw [Nat.div_one]; omega
      replace ht : Hid ((be64 B).take 7 ++ [B / 1 % 256] = (be64 B).take (7 + 1)) := ht
      generalize B / 1 % 256 = bt at *
      have hv := Lib.hid (show #[Value.int .u8 (bt : Int)] = (ints .u8 [bt]).toArray by simp [ints])
      go_wp2_with (at_builtin; refine wpList_append_ints _ rfl (.tmp 26) (.tmp 33) _ rfl w.heap.size 5 .u8 1 Tryz.underlying22 info_u8 (.slice A4 q c4) q (ms ++ (be64 B).take 7) rfl (hown.alloc _) _ 1 1 [bt] rfl rfl (Rd.of_all (blk_lit wr [bt] _ hv.out)) (by simp only [maxLen]; omega) (by omega) (by have := hbr.size; simp; omega) ?_; intro v5 w5 hown5 hgrow5 _)
      obtain ⟨A5, c5, rfl, -⟩ := row_form hown5
      have hbr5 : Below w.heap.size w w5 := (hbr.alloc hbr.size _).grown hgrow5 (by have := hbr.size; simp; omega) (fun k hk => (hown.lt k hk).1)
      rw [List.append_assoc, ht.out] at hown5
      go_wp2_with fail
      go_roundw
      case rel => exact ⟨7 + 1, q + 1, 0 - 1, A5, c5, rfl, rfl, by show _ = _; rfl, by omega, hq1, by have := hq1.out; omega, hown5, hbr5⟩
      case measure => simp [intOf]
    ·obtain rfl : j = 8 := by omega
     obtain rfl : v = -1 := by have := hv.out; omega
     rw [List.take_of_length_le (by rw [be64_length]; omega)] at hown
     obtain ⟨A', c', he, -, hle, hcm, hO⟩ := Own.of_row hown
     injection he with he1 _ he2
     subst he1
     subst he2
     have hqq := Lib.hid (show q = (ms ++ be64 B).length by have := hq.out; have := hp2.out; omega)
     go_wp2_with fail
     go_ret
     exact ⟨A4, c4, by rw [← hqq.out]; rfl, by rw [← hqq.out]; exact hle, hcm, hO, hbr⟩
end Go.Proofs.YtchaahnhpeoomaaGreat
namespace Go.Proofs.YtchaahnhpeoomaaGreat
set_option linter.unusedVariables false
set_option linter.unusedSimpArgs false
set_option maxRecDepth 20000
open Go.RowKit
theorem rotr_ro_2 (x : Nat) (hx : x < 4294967296) : bits .or .u32 ((x / 4 : Nat) : Int) ((x * 1073741824 % 4294967296 : Nat) : Int) = ((rotr x 2 : Nat) : Int) := by
 rw [u32_or_nat _ _ (Nat.lt_of_le_of_lt (Nat.div_le_self _ _) hx) (Nat.mod_lt _ (by decide))]
 rfl
set_option maxHeartbeats 400000 in
theorem refRight_2 (x : Nat) (w : World) (hx : x < 4294967296) :
  Calls Tryz.prog 112 #[.int .u32 (x : Int), .int .u64 2] w (RetU .u32 (rotr x 2) w) := by
 have h2 : IntKind.u32.wrap ((x : Int) * 1073741824) = ((x * 1073741824 % 4294967296 : Nat) : Int) := shl_cast x 1073741824
 have h3 : (x : Int) / 4 = ((x / 4 : Nat) : Int) := shr_cast x 4
 have h4 := rotr_ro_2 x hx
 generalize x * 1073741824 % 4294967296 = A at *
 generalize x / 4 = B at *
 generalize rotr x 2 = R at *
 go_enter Tryz.func112, Tryz.ntmps112
 go_wp2
 go_ret
 exact ⟨rfl, rfl⟩
theorem rotr_ro_6 (x : Nat) (hx : x < 4294967296) : bits .or .u32 ((x / 64 : Nat) : Int) ((x * 67108864 % 4294967296 : Nat) : Int) = ((rotr x 6 : Nat) : Int) := by
 rw [u32_or_nat _ _ (Nat.lt_of_le_of_lt (Nat.div_le_self _ _) hx) (Nat.mod_lt _ (by decide))]
 rfl
set_option maxHeartbeats 400000 in
theorem refRight_6 (x : Nat) (w : World) (hx : x < 4294967296) :
  Calls Tryz.prog 112 #[.int .u32 (x : Int), .int .u64 6] w (RetU .u32 (rotr x 6) w) := by
 have h2 : IntKind.u32.wrap ((x : Int) * 67108864) = ((x * 67108864 % 4294967296 : Nat) : Int) := shl_cast x 67108864
 have h3 : (x : Int) / 64 = ((x / 64 : Nat) : Int) := shr_cast x 64
 have h4 := rotr_ro_6 x hx
 generalize x * 67108864 % 4294967296 = A at *
 generalize x / 64 = B at *
 generalize rotr x 6 = R at *
 go_enter Tryz.func112, Tryz.ntmps112
 go_wp2
 go_ret
 exact ⟨rfl, rfl⟩
theorem rotr_ro_7 (x : Nat) (hx : x < 4294967296) : bits .or .u32 ((x / 128 : Nat) : Int) ((x * 33554432 % 4294967296 : Nat) : Int) = ((rotr x 7 : Nat) : Int) := by
 rw [u32_or_nat _ _ (Nat.lt_of_le_of_lt (Nat.div_le_self _ _) hx) (Nat.mod_lt _ (by decide))]
 rfl
set_option maxHeartbeats 400000 in
theorem refRight_7 (x : Nat) (w : World) (hx : x < 4294967296) :
  Calls Tryz.prog 112 #[.int .u32 (x : Int), .int .u64 7] w (RetU .u32 (rotr x 7) w) := by
 have h2 : IntKind.u32.wrap ((x : Int) * 33554432) = ((x * 33554432 % 4294967296 : Nat) : Int) := shl_cast x 33554432
 have h3 : (x : Int) / 128 = ((x / 128 : Nat) : Int) := shr_cast x 128
 have h4 := rotr_ro_7 x hx
 generalize x * 33554432 % 4294967296 = A at *
 generalize x / 128 = B at *
 generalize rotr x 7 = R at *
 go_enter Tryz.func112, Tryz.ntmps112
 go_wp2
 go_ret
 exact ⟨rfl, rfl⟩
theorem rotr_ro_11 (x : Nat) (hx : x < 4294967296) : bits .or .u32 ((x / 2048 : Nat) : Int) ((x * 2097152 % 4294967296 : Nat) : Int) = ((rotr x 11 : Nat) : Int) := by
 rw [u32_or_nat _ _ (Nat.lt_of_le_of_lt (Nat.div_le_self _ _) hx) (Nat.mod_lt _ (by decide))]
 rfl
set_option maxHeartbeats 400000 in
theorem refRight_11 (x : Nat) (w : World) (hx : x < 4294967296) :
  Calls Tryz.prog 112 #[.int .u32 (x : Int), .int .u64 11] w (RetU .u32 (rotr x 11) w) := by
 have h2 : IntKind.u32.wrap ((x : Int) * 2097152) = ((x * 2097152 % 4294967296 : Nat) : Int) := shl_cast x 2097152
 have h3 : (x : Int) / 2048 = ((x / 2048 : Nat) : Int) := shr_cast x 2048
 have h4 := rotr_ro_11 x hx
 generalize x * 2097152 % 4294967296 = A at *
 generalize x / 2048 = B at *
 generalize rotr x 11 = R at *
 go_enter Tryz.func112, Tryz.ntmps112
 go_wp2
 go_ret
 exact ⟨rfl, rfl⟩
theorem rotr_ro_13 (x : Nat) (hx : x < 4294967296) : bits .or .u32 ((x / 8192 : Nat) : Int) ((x * 524288 % 4294967296 : Nat) : Int) = ((rotr x 13 : Nat) : Int) := by
 rw [u32_or_nat _ _ (Nat.lt_of_le_of_lt (Nat.div_le_self _ _) hx) (Nat.mod_lt _ (by decide))]
 rfl
set_option maxHeartbeats 400000 in
theorem refRight_13 (x : Nat) (w : World) (hx : x < 4294967296) :
  Calls Tryz.prog 112 #[.int .u32 (x : Int), .int .u64 13] w (RetU .u32 (rotr x 13) w) := by
 have h2 : IntKind.u32.wrap ((x : Int) * 524288) = ((x * 524288 % 4294967296 : Nat) : Int) := shl_cast x 524288
 have h3 : (x : Int) / 8192 = ((x / 8192 : Nat) : Int) := shr_cast x 8192
 have h4 := rotr_ro_13 x hx
 generalize x * 524288 % 4294967296 = A at *
 generalize x / 8192 = B at *
 generalize rotr x 13 = R at *
 go_enter Tryz.func112, Tryz.ntmps112
 go_wp2
 go_ret
 exact ⟨rfl, rfl⟩
theorem rotr_ro_17 (x : Nat) (hx : x < 4294967296) : bits .or .u32 ((x / 131072 : Nat) : Int) ((x * 32768 % 4294967296 : Nat) : Int) = ((rotr x 17 : Nat) : Int) := by
 rw [u32_or_nat _ _ (Nat.lt_of_le_of_lt (Nat.div_le_self _ _) hx) (Nat.mod_lt _ (by decide))]
 rfl
set_option maxHeartbeats 400000 in
theorem refRight_17 (x : Nat) (w : World) (hx : x < 4294967296) :
  Calls Tryz.prog 112 #[.int .u32 (x : Int), .int .u64 17] w (RetU .u32 (rotr x 17) w) := by
 have h2 : IntKind.u32.wrap ((x : Int) * 32768) = ((x * 32768 % 4294967296 : Nat) : Int) := shl_cast x 32768
 have h3 : (x : Int) / 131072 = ((x / 131072 : Nat) : Int) := shr_cast x 131072
 have h4 := rotr_ro_17 x hx
 generalize x * 32768 % 4294967296 = A at *
 generalize x / 131072 = B at *
 generalize rotr x 17 = R at *
 go_enter Tryz.func112, Tryz.ntmps112
 go_wp2
 go_ret
 exact ⟨rfl, rfl⟩
theorem rotr_ro_18 (x : Nat) (hx : x < 4294967296) : bits .or .u32 ((x / 262144 : Nat) : Int) ((x * 16384 % 4294967296 : Nat) : Int) = ((rotr x 18 : Nat) : Int) := by
 rw [u32_or_nat _ _ (Nat.lt_of_le_of_lt (Nat.div_le_self _ _) hx) (Nat.mod_lt _ (by decide))]
 rfl
set_option maxHeartbeats 400000 in
theorem refRight_18 (x : Nat) (w : World) (hx : x < 4294967296) :
  Calls Tryz.prog 112 #[.int .u32 (x : Int), .int .u64 18] w (RetU .u32 (rotr x 18) w) := by
 have h2 : IntKind.u32.wrap ((x : Int) * 16384) = ((x * 16384 % 4294967296 : Nat) : Int) := shl_cast x 16384
 have h3 : (x : Int) / 262144 = ((x / 262144 : Nat) : Int) := shr_cast x 262144
 have h4 := rotr_ro_18 x hx
 generalize x * 16384 % 4294967296 = A at *
 generalize x / 262144 = B at *
 generalize rotr x 18 = R at *
 go_enter Tryz.func112, Tryz.ntmps112
 go_wp2
 go_ret
 exact ⟨rfl, rfl⟩
theorem rotr_ro_19 (x : Nat) (hx : x < 4294967296) : bits .or .u32 ((x / 524288 : Nat) : Int) ((x * 8192 % 4294967296 : Nat) : Int) = ((rotr x 19 : Nat) : Int) := by
 rw [u32_or_nat _ _ (Nat.lt_of_le_of_lt (Nat.div_le_self _ _) hx) (Nat.mod_lt _ (by decide))]
 rfl
set_option maxHeartbeats 400000 in
theorem refRight_19 (x : Nat) (w : World) (hx : x < 4294967296) :
  Calls Tryz.prog 112 #[.int .u32 (x : Int), .int .u64 19] w (RetU .u32 (rotr x 19) w) := by
 have h2 : IntKind.u32.wrap ((x : Int) * 8192) = ((x * 8192 % 4294967296 : Nat) : Int) := shl_cast x 8192
 have h3 : (x : Int) / 524288 = ((x / 524288 : Nat) : Int) := shr_cast x 524288
 have h4 := rotr_ro_19 x hx
 generalize x * 8192 % 4294967296 = A at *
 generalize x / 524288 = B at *
 generalize rotr x 19 = R at *
 go_enter Tryz.func112, Tryz.ntmps112
 go_wp2
 go_ret
 exact ⟨rfl, rfl⟩
theorem rotr_ro_22 (x : Nat) (hx : x < 4294967296) : bits .or .u32 ((x / 4194304 : Nat) : Int) ((x * 1024 % 4294967296 : Nat) : Int) = ((rotr x 22 : Nat) : Int) := by
 rw [u32_or_nat _ _ (Nat.lt_of_le_of_lt (Nat.div_le_self _ _) hx) (Nat.mod_lt _ (by decide))]
 rfl
set_option maxHeartbeats 400000 in
theorem refRight_22 (x : Nat) (w : World) (hx : x < 4294967296) :
  Calls Tryz.prog 112 #[.int .u32 (x : Int), .int .u64 22] w (RetU .u32 (rotr x 22) w) := by
 have h2 : IntKind.u32.wrap ((x : Int) * 1024) = ((x * 1024 % 4294967296 : Nat) : Int) := shl_cast x 1024
 have h3 : (x : Int) / 4194304 = ((x / 4194304 : Nat) : Int) := shr_cast x 4194304
 have h4 := rotr_ro_22 x hx
 generalize x * 1024 % 4294967296 = A at *
 generalize x / 4194304 = B at *
 generalize rotr x 22 = R at *
 go_enter Tryz.func112, Tryz.ntmps112
 go_wp2
 go_ret
 exact ⟨rfl, rfl⟩
theorem rotr_ro_25 (x : Nat) (hx : x < 4294967296) : bits .or .u32 ((x / 33554432 : Nat) : Int) ((x * 128 % 4294967296 : Nat) : Int) = ((rotr x 25 : Nat) : Int) := by
 rw [u32_or_nat _ _ (Nat.lt_of_le_of_lt (Nat.div_le_self _ _) hx) (Nat.mod_lt _ (by decide))]
 rfl
set_option maxHeartbeats 400000 in
theorem refRight_25 (x : Nat) (w : World) (hx : x < 4294967296) :
  Calls Tryz.prog 112 #[.int .u32 (x : Int), .int .u64 25] w (RetU .u32 (rotr x 25) w) := by
 have h2 : IntKind.u32.wrap ((x : Int) * 128) = ((x * 128 % 4294967296 : Nat) : Int) := shl_cast x 128
 have h3 : (x : Int) / 33554432 = ((x / 33554432 : Nat) : Int) := shr_cast x 33554432
 have h4 := rotr_ro_25 x hx
 generalize x * 128 % 4294967296 = A at *
 generalize x / 33554432 = B at *
 generalize rotr x 25 = R at *
 go_enter Tryz.func112, Tryz.ntmps112
 go_wp2
 go_ret
 exact ⟨rfl, rfl⟩
theorem getD_get {s : List Nat} {j : Nat} (h : j < s.length) : s[j]? = some (s.getD j 0) := by
 rw [List.getD_eq_getElem?_getD, List.getElem?_eq_getElem h]
 rfl
theorem word_parts (x0 x1 x2 x3 : Nat) (h0 : x0 < 256) (h1 : x1 < 256) (h2 : x2 < 256) (h3 : x3 < 256) :
  IntKind.u32.wrap ((x0 : Int) * 16777216) = ((x0 * 16777216 : Nat) : Int) ∧ IntKind.u32.wrap ((x1 : Int) * 65536) = ((x1 * 65536 : Nat) : Int) ∧ IntKind.u32.wrap ((x2 : Int) * 256) = ((x2 * 256 : Nat) : Int) ∧
  bits .or .u32 ((x0 * 16777216 : Nat) : Int) ((x1 * 65536 : Nat) : Int) = ((x0 * 16777216 + x1 * 65536 : Nat) : Int) ∧ bits .or .u32 ((x0 * 16777216 + x1 * 65536 : Nat) : Int) ((x2 * 256 : Nat) : Int) = ((x0 * 16777216 + x1 * 65536 + x2 * 256 : Nat) : Int) ∧
  bits .or .u32 ((x0 * 16777216 + x1 * 65536 + x2 * 256 : Nat) : Int) (x3 : Int) = ((((x0 * 256 + x1) * 256 + x2) * 256 + x3 : Nat) : Int) := by
 refine ⟨?_, ?_, ?_, ?_, ?_, ?_⟩
 ·rw [IntKind.wrap_u32']; omega
 ·rw [IntKind.wrap_u32']; omega
 ·rw [IntKind.wrap_u32']; omega
 ·rw [u32_or_nat _ _ (by omega) (by omega), show x0 * 16777216 = x0 * 2 ^ 24 by omega, Nat.or_comm]
  have := Nat.shiftLeft_add_eq_or_of_lt (show x1 * 65536 < 2 ^ 24 by omega) x0
  rw [Nat.shiftLeft_eq] at this
  rw [Nat.or_comm, ← this]
 ·rw [u32_or_nat _ _ (by omega) (by omega), show x0 * 16777216 + x1 * 65536 = (x0 * 256 + x1) * 2 ^ 16 by omega]
  have := Nat.shiftLeft_add_eq_or_of_lt (show x2 * 256 < 2 ^ 16 by omega) (x0 * 256 + x1)
  rw [Nat.shiftLeft_eq] at this
  rw [← this]
 ·rw [u32_or_nat _ _ (by omega) (by omega), show x0 * 16777216 + x1 * 65536 + x2 * 256 = ((x0 * 256 + x1) * 256 + x2) * 2 ^ 8 by omega]
  have := Nat.shiftLeft_add_eq_or_of_lt (show x3 < 2 ^ 8 by omega) ((x0 * 256 + x1) * 256 + x2)
  rw [Nat.shiftLeft_eq] at this
  rw [← this]
theorem word_parts2 (x0 x1 x2 x3 : Nat) (h0 : x0 < 256) (h1 : x1 < 256) (h2 : x2 < 256) (h3 : x3 < 256) :
  #[Value.int .u32 (bits .or .u32 (bits .or .u32 (bits .or .u32 (IntKind.u32.wrap (IntKind.u32.wrap (x0 : Int) * 16777216)) (IntKind.u32.wrap (IntKind.u32.wrap (x1 : Int) * 65536))) (IntKind.u32.wrap (IntKind.u32.wrap (x2 : Int) * 256))) (IntKind.u32.wrap (x3 : Int)))]
   = (ints .u32 [((x0 * 256 + x1) * 256 + x2) * 256 + x3]).toArray := by
 obtain ⟨p1, p2, p3, p4, p5, p6⟩ := word_parts x0 x1 x2 x3 h0 h1 h2 h3
 have c : ∀ x : Nat, x < 256 → IntKind.u32.wrap (x : Int) = (x : Int) := fun x h => by rw [IntKind.wrap_u32']; omega
 rw [c x0 h0, c x1 h1, c x2 h2, c x3 h3, p1, p2, p3, p4, p5, p6]
 rfl
theorem expand_form (va vx vc vy : Nat) (hx : vx < 4294967296) (hy : vy < 4294967296) :
  #[Value.int .u32 (IntKind.u32.wrap (IntKind.u32.wrap (IntKind.u32.wrap ((va : Int) + bits .xor .u32 (bits .xor .u32 ((rotr vx 7 : Nat) : Int) ((rotr vx 18 : Nat) : Int)) ((vx : Int) / 8)) + (vc : Int)) + bits .xor .u32 (bits .xor .u32 ((rotr vy 17 : Nat) : Int) ((rotr vy 19 : Nat) : Int)) ((vy : Int) / 1024)))]
   = (ints .u32 [expand va vx vc vy]).toArray := by
 have e1 : bits .xor .u32 ((rotr vx 7 : Nat) : Int) ((rotr vx 18 : Nat) : Int) = ((rotr vx 7 ^^^ rotr vx 18 : Nat) : Int) := u32_xor_nat _ _ (rotr_lt _ _ hx) (rotr_lt _ _ hx)
 have e2 : bits .xor .u32 ((rotr vx 7 ^^^ rotr vx 18 : Nat) : Int) ((vx : Int) / 8) = ((sig0 vx : Nat) : Int) := xor_div _ _ 8 (xor_lt (rotr_lt _ _ hx) (rotr_lt _ _ hx)) hx
 have e3 : bits .xor .u32 ((rotr vy 17 : Nat) : Int) ((rotr vy 19 : Nat) : Int) = ((rotr vy 17 ^^^ rotr vy 19 : Nat) : Int) := u32_xor_nat _ _ (rotr_lt _ _ hy) (rotr_lt _ _ hy)
 have e4 : bits .xor .u32 ((rotr vy 17 ^^^ rotr vy 19 : Nat) : Int) ((vy : Int) / 1024) = ((sig1 vy : Nat) : Int) := xor_div _ _ 1024 (xor_lt (rotr_lt _ _ hy) (rotr_lt _ _ hy)) hy
 have e5 := wrap_add va (sig0 vx)
 have e6 := wrap_add (addw va (sig0 vx)) vc
 have e7 : IntKind.u32.wrap (((addw (addw va (sig0 vx)) vc : Nat) : Int) + ((sig1 vy : Nat) : Int)) = ((expand va vx vc vy : Nat) : Int) := wrap_add _ _
 rw [e1, e2, e3, e4, e5, e6, e7]
 rfl
theorem below_row {w wr w5 : World} {o : Obj} {e : TypeId} {v : Value} {n : Nat} {xs : List Value} (hbel : Below w.heap.size w wr) (hown : wr.ownsRow w.heap.size e 1 v n xs) (hg : (wr.drew.alloc o).grownBy w5 v.ownBlock) : Below w.heap.size w w5 :=
 ((below_drewN hbel 1).alloc (below_drewN hbel 1).size o).grown hg (by have := hbel.size; show w.heap.size ≤ (wr.alloc o).heap.size; simp; omega) (fun k hk => (hown.lt k hk).1)
section
variable {P : Program} {w : World}
theorem run_append_keep (B : Nat) (t ty e : TypeId) (k : IntKind) (bytes : Nat) (ht : P.underlying t = some (.slice e)) (hinfo : (P.info? e).map (fun i => (i.zero, i.size, i.bytes)) = some (some (.int k 0), 1, bytes))
  (g n cap : Nat) (xs : List Nat) (hown : w.ownsRow B e 1 (.slice (some ⟨g, 0, none⟩) n cap) n (ints k xs)) (A : Option Addr) (m c : Nat) (ys : List Nat) (hm : m = ys.length) (hr : Rd k w A ys)
  (h63 : n + m ≤ maxLen) (hbytes : (n + m) * bytes ≤ 140737488355328) {v' : Value} {w' : World} (hrun : (Builtin.append_ #[t, t] ty #[.slice (some ⟨g, 0, none⟩) n cap, .slice A m c]).run P w = .ok v' w')
  (h2 : w'.ownsRow B e 1 v' (n + m) (ints k (xs ++ ys))) : ∀ j u, (ints k xs)[j]? = some u → w'.cell? ⟨g, j, none⟩ = some u := by
 intro j u hu
 obtain ⟨i, hi, hzz⟩ := Option.map_eq_some_iff.1 hinfo
 simp only [Prod.mk.injEq] at hzz
 obtain ⟨hz, hs, hb⟩ := hzz
 have hadd : (⟨g, 0, none⟩ : Addr).add j = ⟨g, j, none⟩ := by unfold Addr.add; split <;> simp_all
 have hold : w.cell? ⟨g, j, none⟩ = some u := by rw [← hadd]; exact hown.cells rfl j u hu
 rcases Nat.eq_zero_or_pos ys.length with h0 | hp
 ·obtain rfl : ys = [] := List.eq_nil_of_length_eq_zero h0
  obtain rfl : m = 0 := hm
  have hnew : v'.ownBlock = some g → w'.cell? ⟨g, j, none⟩ = some u := fun h => by
   rw [← hadd]
   exact h2.cells h j u (by simpa using hu)
  rcases A with _ | ad
  ·rcases hown.2 with ⟨h, _⟩ | ⟨g', cap', cur, hv, hbg, hg, hnc, hcm, hcs, htake⟩
   ·cases h
   ·cases hv
    simp [Builtin.append_, run_underlying ht, sizeOf, typeInfo, hi, Builtin.lenOf, Builtin.firstCells, hnc, storeCells] at hrun
    obtain ⟨rfl, rfl⟩ := hrun
    exact hold
  ·rcases hown.2 with ⟨h, _⟩ | ⟨g', cap', cur, hv, hbg, hg, hnc, hcm, hcs, htake⟩
   ·cases h
   ·cases hv
    have hr2 := run_append_room (P := P) w t ty e i ht hi g n cap cur hg ad 0 c [] (by simp) (by simp) (by simp) (by omega) (by rw [hcs, hs]; simpa using hnc)
    rw [hr2] at hrun
    injection hrun with h3 h4
    exact hnew (by rw [← h3]; rfl)
 ·obtain ⟨ad, rfl, hcells⟩ := rd_cells hr hp
  have hnl : (ints k ys).length = m * i.size := by rw [ints_length, hs]; omega
  rcases hown.2 with ⟨h, _⟩ | ⟨g', cap', cur, hv, hbg, hg, hnc, hcm, hcs, htake⟩
  ·cases h
  ·cases hv
   by_cases hroom : n + m ≤ cap
   ·have hfit : n * i.size + (ints k ys).length ≤ cur.size := by rw [hnl, hcs, hs, ← Nat.add_mul]; exact Nat.mul_le_mul_right _ hroom
    have hr2 := run_append_room (P := P) w t ty e i ht hi g n cap cur hg ad m c (ints k ys) hnl hcells (ints_one k ys) hroom hfit
    rw [hr2] at hrun
    injection hrun with h3 h4
    rw [← hadd]
    refine h2.cells (by rw [← h3]; rfl) j u ?_
    rw [← ints_append, List.getElem?_append_left (List.getElem?_eq_some_iff.1 hu).1]
    exact hu
   ·have hr2 := run_append_grow (P := P) w t ty e i _ ht hi hz ⟨g, 0, none⟩ n cap (ints k xs) (by rw [hs]; exact hown.1) (hown.cells (g := g) rfl) ad m c (ints k ys) hnl hcells (by omega) (by simp only [maxLen] at h63; omega) (growslice_fits (by omega) (by rw [hb]; exact hbytes))
    rw [hr2] at hrun
    injection hrun with h3 h4
    rw [← h4]
    exact (World.cell?_of_block (w := w) (a := ⟨g, j, none⟩) (Below.heap_alloc w.drew _ g (Array.getElem?_eq_some_iff.1 hg).1)).trans hold
theorem step_append_ints {ops : Array Oper} {o : Oper} {a : Act} {K : Act → World → Prop} {Q : Exit → Act → World → Prop} {E : Prop} (hgd : o.guard = none) (s x : Operand) (t : TypeId)
  (ho : o.op = .call { callee := .builtin .append, args := #[s, x], argTypes := #[t, t] })
  (B : Nat) (e : TypeId) (k : IntKind) (bytes : Nat) (ht : P.underlying t = some (.slice e)) (hinfo : (P.info? e).map (fun i => (i.zero, i.size, i.bytes)) = some (some (.int k 0), 1, bytes))
  (v : Value) (n : Nat) (xs : List Nat) (hs : a.eval s = v) (hown : w.ownsRow B e 1 v n (ints k xs)) (A : Option Addr) (m c : Nat) (ys : List Nat) (hx : a.eval x = .slice A m c) (hm : m = ys.length) (hr : Rd k w A ys)
  (h63 : n + m ≤ maxLen) (hbytes : (n + m) * bytes ≤ 140737488355328) (hbase : B ≤ w.heap.size)
  (h : ∀ A' c' w', w'.ownsRow B e 1 (.slice A' (n + m) c') (n + m) (ints k (xs ++ ys)) → w.grownBy w' v.ownBlock → (∀ g cap, v = .slice (some ⟨g, 0, none⟩) n cap → ∀ j u, (ints k xs)[j]? = some u → w'.cell? ⟨g, j, none⟩ = some u) → K (a.put o.dst (.slice A' (n + m) c')) w') :
  if Region.wanted o (yielded ops a.tmps) = true then Oper.wp P o a w K Q else E := by
 have hw : Region.wanted o (yielded ops a.tmps) = true := by simp [Region.wanted, hgd]
 rw [if_pos hw]
 obtain ⟨v', w', hrun, h2, h3, h4⟩ := run_append_ints (P := P) w B t o.type e k bytes ht hinfo v n xs hown A m c ys hm hr h63 hbytes hbase
 have h5 : ∀ g cap, v = .slice (some ⟨g, 0, none⟩) n cap → ∀ j u, (ints k xs)[j]? = some u → w'.cell? ⟨g, j, none⟩ = some u := by
  rintro g cap rfl
  exact run_append_keep B t o.type e k bytes ht hinfo g n cap xs hown A m c ys hm hr h63 hbytes hrun h2
 obtain ⟨A', c', rfl, -⟩ := Own.of_row h2
 unfold Oper.wp execOp
 simp only [ho, resolve, invoke, builtin, Sem.run_bind, Sem.run_pure, Result.andThen_ok, List.map_toArray, List.map_cons, List.map_nil, hs, hx, hrun]
 exact h _ _ _ h2 h3 h5
end
set_option maxRecDepth 100000 in
set_option maxHeartbeats 1600000 in
theorem refSched_any (A : Option Addr) (c : Nat) (b : List Nat) (w : World) (hb : Rd .u8 w A b) (hl : b.length = 64) (lb : Lim 256 b) :
  Calls Tryz.prog 111 #[.slice A 64 c] w (Gives .u32 (sched b 48) w) := by
 have HL := Lib.hid hl
 obtain ⟨bb, o, rfl, hbw, hcell⟩ : ∃ bb o, A = some ⟨bb, o, none⟩ ∧ bb < w.heap.size ∧ ∀ (i x : Nat), b[i]? = some x → w.cell? ⟨bb, o + i, none⟩ = some (.int .u8 (x : Int)) := by
  obtain ⟨x, hx⟩ := get_of_lt (xs := b) (i := 0) (by omega)
  exact hb.pos hx
 have HC := Lib.hid hcell
 clear hl hb hcell
 go_enter Tryz.func111, Tryz.ntmps111
 go_wp2_with fail
 go_loopw [3, 4] (fun s t wr => ∃ (i : Nat) (A : Option Addr) (c : Nat), s = .slice A i c ∧ t = .int .i64 (i : Int) ∧ i ≤ 16 ∧ wr.ownsRow w.heap.size 129 1 (.slice A i c) i (ints .u32 (words b i)) ∧ Below w.heap.size w wr) (fun _ t _ => 16 - (intOf t).toNat)
 case atStart => exact ⟨0, none, 0, rfl, rfl, by omega, World.ownsRow_nil _ _ _ _, Below.refl _ _⟩
 case round =>
  obtain ⟨i, A2, c2, rfl, rfl, hi, hown, hbel⟩ := hrel
  by_cases hlt : i < 16
  ·skip
   obtain ⟨k0, hk0⟩ : ∃ k, k = 4 * i := ⟨_, rfl⟩
   obtain ⟨k1, hk1⟩ : ∃ k, k = k0 + 1 := ⟨_, rfl⟩
   obtain ⟨k2, hk2⟩ : ∃ k, k = k0 + 2 := ⟨_, rfl⟩
   obtain ⟨k3, hk3⟩ : ∃ k, k = k0 + 3 := ⟨_, rfl⟩
   obtain ⟨x0, g0⟩ := get_of_lt (xs := b) (i := k0) (by rw [HL.out]; omega)
   obtain ⟨x1, g1⟩ := get_of_lt (xs := b) (i := k1) (by rw [HL.out]; omega)
   obtain ⟨x2, g2⟩ := get_of_lt (xs := b) (i := k2) (by rw [HL.out]; omega)
   obtain ⟨x3, g3⟩ := get_of_lt (xs := b) (i := k3) (by rw [HL.out]; omega)
   have p6 := word_parts2 x0 x1 x2 x3 (lb.get g0) (lb.get g1) (lb.get g2) (lb.get g3)
   have hbe : ((x0 * 256 + x1) * 256 + x2) * 256 + x3 = be32 b k0 := by rw [be32, ← hk1, ← hk2, ← hk3]; simp [List.getD_eq_getElem?_getD, g0, g1, g2, g3]
   rw [hbe] at p6
   have hbnd : be32 b k0 < 4294967296 := be32_lt lb _
   have hws := words_succ b i
   rw [← hk0] at hws
   have HW := Lib.hid hws
   clear hws
   have q0 := (hbel.cell (p := ⟨bb, o + k0, none⟩) hbw).trans (HC.out _ _ g0)
   have q1 := (hbel.cell (p := ⟨bb, o + (k1), none⟩) hbw).trans (HC.out _ _ g1)
   have q2 := (hbel.cell (p := ⟨bb, o + (k2), none⟩) hbw).trans (HC.out _ _ g2)
   have q3 := (hbel.cell (p := ⟨bb, o + (k3), none⟩) hbw).trans (HC.out _ _ g3)
   have b0 := lb.get g0
   have b1 := lb.get g1
   have b2 := lb.get g2
   have b3 := lb.get g3
   have e0 : IntKind.i64.wrap (4 * (i : Int)) = (k0 : Int) := by rw [IntWalk.i64_in _ (by omega)]; omega
   have e1 : IntKind.i64.wrap ((k0 : Int) + 1) = (k1 : Int) := by rw [IntWalk.i64_in _ (by omega)]; omega
   have e2 : IntKind.i64.wrap ((k0 : Int) + 2) = (k2 : Int) := by rw [IntWalk.i64_in _ (by omega)]; omega
   have e3 : IntKind.i64.wrap ((k0 : Int) + 3) = (k3 : Int) := by rw [IntWalk.i64_in _ (by omega)]; omega
   have l0 : (k0 : Int) < 64 := by omega
   have m0 : (0 : Int) ≤ (k0 : Int) := by omega
   have m1 : (0 : Int) ≤ (k1 : Int) := by omega
   have m2 : (0 : Int) ≤ (k2 : Int) := by omega
   have m3 : (0 : Int) ≤ (k3 : Int) := by omega
   have l1 : (k1 : Int) < 64 := by omega
   have l2 : (k2 : Int) < 64 := by omega
   have l3 : (k3 : Int) < 64 := by omega
   clear g0 g1 g2 g3 hbe hk0 hk1 hk2 hk3
   generalize be32 b k0 = r at *
   go_wp2_with fail
   have hS : ∀ w', Below w.heap.size w w' → (w'.cell? ⟨bb, o + k0, none⟩ = some (.int .u8 (x0 : Int)) ∧ w'.cell? ⟨bb, o + k1, none⟩ = some (.int .u8 (x1 : Int)) ∧ w'.cell? ⟨bb, o + k2, none⟩ = some (.int .u8 (x2 : Int)) ∧ w'.cell? ⟨bb, o + k3, none⟩ = some (.int .u8 (x3 : Int))) := fun w' h =>
    ⟨(h.cell (p := ⟨bb, o + k0, none⟩) hbw).trans ((hbel.cell (p := ⟨bb, o + k0, none⟩) hbw).symm.trans q0), (h.cell (p := ⟨bb, o + k1, none⟩) hbw).trans ((hbel.cell (p := ⟨bb, o + k1, none⟩) hbw).symm.trans q1), (h.cell (p := ⟨bb, o + k2, none⟩) hbw).trans ((hbel.cell (p := ⟨bb, o + k2, none⟩) hbw).symm.trans q2), (h.cell (p := ⟨bb, o + k3, none⟩) hbw).trans ((hbel.cell (p := ⟨bb, o + k3, none⟩) hbw).symm.trans q3)⟩
   have hv := Lib.hid p6
   clear p6
   go_region_held3 (fun w' => w'.cell? ⟨bb, o + k0, none⟩ = some (.int .u8 (x0 : Int)) ∧ w'.cell? ⟨bb, o + k1, none⟩ = some (.int .u8 (x1 : Int)) ∧ w'.cell? ⟨bb, o + k2, none⟩ = some (.int .u8 (x2 : Int)) ∧ w'.cell? ⟨bb, o + k3, none⟩ = some (.int .u8 (x3 : Int)))
    (first | go_keep | exact hS _ hbr5)
    ((refine step_append_ints (by rfl) _ _ _ (by rfl) w.heap.size 129 .u32 4 Tryz.underlying128 info_u32 (.slice A2 i c2) i (words b i) (by rfl) (hown.alloc _) _ 1 1 [r] (by rfl) (by rfl) (Rd.of_all (blk_lit wr [r] _ hv.out)) (by simp only [maxLen]; omega) (by omega) (by have := hbel.size; simp; omega) ?_; intro A5 c5 w5 hown5 hgrow5 hkp5; have hbr5 := below_row hbel hown hgrow5))
   have hown6 : w5.ownsRow w.heap.size 129 1 (.slice A5 (i + 1) c5) (i + 1) (ints .u32 (words b (i + 1))) := by rw [HW.out]; exact hown5
   have hbr5 := below_row hbel hown hgrow5
   clear hS hv HW q0 q1 q2 q3 hown5
   go_wp2_with fail
   go_roundw
   case rel => exact ⟨i + 1, A5, c5, rfl, by go_num, hlt, hown6, hbr5⟩
   case measure => simp [intOf]; omega
  ·obtain rfl : i = 16 := by omega
   have hs0 : words b 16 = sched b 0 := rfl
   rw [hs0] at hown
   clear hs0
   go_wp2_with fail
   rw [show ((16 : Nat) : Int) = 16 from rfl]
   go_loopw [3, 5] (fun s t wr => ∃ (i : Nat) (A : Option Addr) (c : Nat), s = .slice A i c ∧ t = .int .i64 (i : Int) ∧ 16 ≤ i ∧ i ≤ 64 ∧ wr.ownsRow w.heap.size 129 1 (.slice A i c) i (ints .u32 (sched b (i - 16))) ∧ Below w.heap.size w wr) (fun _ t _ => 64 - (intOf t).toNat)
   case atStart => exact ⟨16, A2, c2, rfl, rfl, by omega, by omega, hown, hbel⟩
   case round =>
    clear hown hbel
    obtain ⟨i, A3, c3, rfl, rfl, hi1, hi2, hown, hbel⟩ := hrel
    by_cases hlt2 : i < 64
    ·obtain ⟨A', c', he, -, -, -, hO⟩ := Own.of_row hown
     injection he with he1 _ he2
     subst he1
     subst he2
     clear hO
     obtain ⟨s, hs⟩ : ∃ s, s = sched b (i - 16) := ⟨_, rfl⟩
     have hsl : s.length = i := by rw [hs, sched_length]; omega
     have hs1 := Lib.hid (show sched b (i + 1 - 16) = s ++ [expand (s.getD (i - 16) 0) (s.getD (i - 15) 0) (s.getD (i - 7) 0) (s.getD (i - 2) 0)] by rw [hs, show i + 1 - 16 = (i - 16) + 1 from by omega, sched, show i - 16 + 1 = i - 15 from by omega, show i - 16 + 9 = i - 7 from by omega, show i - 16 + 14 = i - 2 from by omega])
     have hsb : Lim 4294967296 s := by rw [hs]; exact sched_lim lb _
     rw [← hs] at hown
     clear hs
     have ha := getD_get (s := s) (j := i - 16) (by omega)
     have hxx := getD_get (s := s) (j := i - 15) (by omega)
     have hcc := getD_get (s := s) (j := i - 7) (by omega)
     have hyy := getD_get (s := s) (j := i - 2) (by omega)
     have hla := getD_lt (by decide) hsb (i - 16)
     have hlx := getD_lt (by decide) hsb (i - 15)
     have hlc := getD_lt (by decide) hsb (i - 7)
     have hly := getD_lt (by decide) hsb (i - 2)
     have HS := Lib.hid hsl
     generalize s.getD (i - 16) 0 = va at *
     generalize s.getD (i - 15) 0 = vx at *
     generalize s.getD (i - 7) 0 = vc at *
     generalize s.getD (i - 2) 0 = vy at *
     obtain ⟨b3, cap3, he3⟩ : ∃ b3 cap3, Value.slice A3 i c3 = .slice (some ⟨b3, 0, none⟩) i cap3 := by
      rcases hown.2 with ⟨_, h0⟩ | ⟨g, cap, cur, hv, _⟩
      ·omega
      ·exact ⟨g, cap, hv⟩
     injection he3 with he3 _ he4
     subst he3
     subst he4
     have hc3 : ∀ (j x : Nat), s[j]? = some x → wr.cell? ⟨b3, j, none⟩ = some (.int .u32 (x : Int)) := fun j x h => by
      have h2 := hown.cells (g := b3) rfl j _ (ints_get h)
      have h3 : (⟨b3, 0, none⟩ : Addr).add j = ⟨b3, j, none⟩ := by unfold Addr.add; split <;> simp_all
      rwa [h3] at h2
     have h1 := hc3 _ _ ha
     have h2 := hc3 _ _ hxx
     have h3 := hc3 _ _ hcc
     have h4 := hc3 _ _ hyy
     have hk1 := Lib.hid (ints_get (k := .u32) ha)
     have hk3 := Lib.hid (ints_get (k := .u32) hcc)
     clear hc3 ha hxx hcc hyy hsl
     go_wp2_with fail
     have hlt80 : (i : Int) < 64 := by omega
     have e8 : IntKind.i64.wrap ((i : Int) - 16) = (i : Int) - 16 := IntWalk.i64_in _ (by omega)
     have e9 : IntKind.i64.wrap ((i : Int) - 7) = (i : Int) - 7 := IntWalk.i64_in _ (by omega)
     have e10 : ((i : Int) - 16).toNat = i - 16 := by omega
     have e11 : ((i : Int) - 7).toNat = i - 7 := by omega
     have i1 : (0 : Int) ≤ (i : Int) - 16 := by omega
     have i2 : (0 : Int) ≤ (i : Int) - 7 := by omega
     have i3 : (i : Int) - 16 < (i : Int) := by omega
     have i4 : (i : Int) - 7 < (i : Int) := by omega
     have i5 : (16 : Int) ≤ (i : Int) := by omega
     have i6 : (7 : Int) ≤ (i : Int) := by omega
     clear h2 h4
     have hv := Lib.hid (expand_form va vx vc vy hlx hly)
     go_region_held3 (fun w' => w'.cell? ⟨b3, i - 16, none⟩ = some (.int .u32 (va : Int)) ∧ w'.cell? ⟨b3, i - 7, none⟩ = some (.int .u32 (vc : Int)))
      (first | go_keep | exact ⟨hkp5 b3 c3 rfl _ _ hk1.out, hkp5 b3 c3 rfl _ _ hk3.out⟩)
      (first
       | (go_at_call 112; (with_reducible refine (refRight_7 vx _ hlx).mono ?_); rintro e w' ⟨rfl, rfl⟩)
       | (go_at_call 112; (with_reducible refine (refRight_18 vx _ hlx).mono ?_); rintro e w' ⟨rfl, rfl⟩)
       | (go_at_call 112; (with_reducible refine (refRight_17 vy _ hly).mono ?_); rintro e w' ⟨rfl, rfl⟩)
       | (go_at_call 112; (with_reducible refine (refRight_19 vy _ hly).mono ?_); rintro e w' ⟨rfl, rfl⟩)
       | (refine step_append_ints (by rfl) _ _ _ (by rfl) w.heap.size 129 .u32 4 Tryz.underlying128 info_u32 (.slice (some ⟨b3, 0, none⟩) i c3) i s (by rfl) (hown.alloc _) _ 1 1 [expand va vx vc vy] (by rfl) (by rfl) (Rd.of_all (blk_lit wr [expand va vx vc vy] _ hv.out)) (by simp only [maxLen]; omega) (by omega) (by have := hbel.size; simp; omega) ?_; intro A5 c5 w5 hown5 hgrow5 hkp5; have hbr5 := below_row hbel hown hgrow5))
     have hown6 : w5.ownsRow w.heap.size 129 1 (.slice A5 (i + 1) c5) (i + 1) (ints .u32 (sched b (i + 1 - 16))) := by rw [hs1.out]; exact hown5
     have hbr5 := below_row hbel hown hgrow5
     clear hkp5 hv hown5 hk1 hk3 h1 h3 e8 e9 e10 e11 i1 i2 i3 i4 i5 i6
     go_wp2_with fail
     go_roundw
     case rel => exact ⟨i + 1, A5, c5, rfl, by go_num, by omega, by omega, hown6, hbr5⟩
     case measure => simp [intOf]; omega
    ·obtain rfl : i = 64 := by omega
     obtain ⟨A', c', he, -, hle, hcm, hO⟩ := Own.of_row hown
     injection he with he1 _ he2
     subst he1
     subst he2
     have hml := Lib.hid (sched_length b 48)
     go_wp2_with fail
     go_ret
     exact ⟨A3, c3, by rw [hml.out]; rfl, by rw [hml.out]; exact hle, hcm, hO, hbel⟩
end Go.Proofs.YtchaahnhpeoomaaGreat
namespace Go.Proofs.YtchaahnhpeoomaaGreat
set_option linter.unusedVariables false
set_option linter.unusedSimpArgs false
set_option maxRecDepth 20000
open Go.RowKit
theorem blk_of_row {k : IntKind} {w : World} {B n : Nat} {e : TypeId} {v : Value} {xs : List Nat} (h : w.ownsRow B e 1 v n (ints k xs)) (hn : 0 < n) :
  ∃ g cap, v = .slice (some ⟨g, 0, none⟩) n cap ∧ B ≤ g ∧ n ≤ cap ∧ cap ≤ maxLen ∧ Blk k w g xs := by
 rcases h.2 with ⟨_, h0⟩ | ⟨g, cap, cur, rfl, hB, hg, hc, hmx, _, htk⟩
 ·omega
 ·refine ⟨g, cap, rfl, hB, hc, hmx, Blk.of_heap hg fun i x hx => ?_⟩
  have h5 := ints_get (k := k) hx
  rw [← htk, List.getElem?_take] at h5
  split at h5
  ·simpa using h5
  ·cases h5
set_option maxRecDepth 100000 in
set_option maxHeartbeats 3200000 in
theorem refBlock_any (A1 A2 A3 : Option Addr) (c1 c2 c3 : Nat) (hv b : List Nat) (w : World) (hH : Rd .u32 w A1 hv) (hK : Rd .u32 w A2 K64) (hb : Rd .u8 w A3 b) (h8 : hv.length = 8) (lh : Lim 4294967296 hv) (hl : b.length = 64) (lb : Lim 256 b) :
  Calls Tryz.prog 77 #[.slice A1 8 c1, .slice A2 64 c2, .slice A3 64 c3] w (Gives .u32 (compress hv b) w) := by
 obtain ⟨ws, hws⟩ : ∃ ws, ws = sched b 48 := ⟨_, rfl⟩
 have hwl := Lib.hid (show ws.length = 64 by rw [hws, sched_length])
 have HWS := Lib.hid hws
 have H8 := Lib.hid h8
 have hsc : Calls Tryz.prog 111 #[.slice A3 64 c3] w (Gives .u32 ws w) := by rw [hws]; exact refSched_any A3 c3 b w hb hl lb
 have hH0 := hH
 obtain ⟨b1, o1, rfl, hb1, hc1⟩ : ∃ bb o, A1 = some ⟨bb, o, none⟩ ∧ bb < w.heap.size ∧ ∀ (i x : Nat), hv[i]? = some x → w.cell? ⟨bb, o + i, none⟩ = some (.int .u32 (x : Int)) := by
  obtain ⟨x, hx⟩ := get_of_lt (xs := hv) (i := 0) (by omega)
  exact hH.pos hx
 obtain ⟨b2, o2, rfl, hb2, hc2⟩ : ∃ bb o, A2 = some ⟨bb, o, none⟩ ∧ bb < w.heap.size ∧ ∀ (i x : Nat), K64[i]? = some x → w.cell? ⟨bb, o + i, none⟩ = some (.int .u32 (x : Int)) := by
  obtain ⟨x, hx⟩ := get_of_lt (xs := K64) (i := 0) (by rw [K64_length]; omega)
  exact hK.pos hx
 have HC1 := Lib.hid hc1
 have HC2 := Lib.hid hc2
 clear hl hws h8 hb hH hK hc1 hc2
 go_enter Tryz.func77, Tryz.ntmps77
 go_wp2_with fail
 refine hsc.mono ?_
 rintro e w1 ⟨A4, c4, rfl, h64, hcm, hO, hbw1⟩
 rw [hwl.out] at h64 ⊢
 have hH1 := hH0.below hbw1
 obtain ⟨b4, o4, rfl, hb4, hc4⟩ : ∃ bb o, A4 = some ⟨bb, o, none⟩ ∧ bb < w1.heap.size ∧ ∀ (i x : Nat), ws[i]? = some x → w1.cell? ⟨bb, o + i, none⟩ = some (.int .u32 (x : Int)) := by
  obtain ⟨x, hx⟩ := get_of_lt (xs := ws) (i := 0) (by rw [hwl.out]; omega)
  exact hO.rd.pos hx
 have HC4 := Lib.hid hc4
 clear hO hc4 h64 hcm hH0
 go_wp2_with (at_builtin; refine wpList_append_ints _ rfl (.tmp 17) (.tmp 18) _ rfl w1.heap.size 129 .u32 4 Tryz.underlying128 info_u32 (.slice none 0 0) 0 [] rfl (World.ownsRow_nil _ _ _ _) _ 8 c1 hv rfl H8.out.symm hH1 (by simp only [maxLen]; omega) (by omega) (Nat.le_refl _) ?_; intro v5 w5 hown5 hgrow5 _)
 have hb5 : Below w1.heap.size w1 w5 := (Below.refl _ _).grown hgrow5 (Nat.le_refl _) (fun k hk => by cases hk)
 obtain ⟨g5, c5, rfl, hg5, hc5, hm5, hk5⟩ := blk_of_row hown5 (by omega)
 simp only [List.nil_append, Nat.zero_add] at hk5 hc5 ⊢
 clear hown5 hgrow5 hH1
 go_wp2_with fail
 go_loopw [8, 9] (fun v s wr => ∃ (t gv cv : Nat), v = .slice (some ⟨gv, 0, none⟩) 8 cv ∧ s = .int .i64 (t : Int) ∧ t ≤ 64 ∧ 8 ≤ cv ∧ Blk .u32 wr gv (rounds8 hv K64 ws t) ∧ Below w1.heap.size w1 wr) (fun _ s _ => 64 - (intOf s).toNat)
 case atStart => exact ⟨0, g5, c5, rfl, rfl, by omega, hc5, hk5, hb5⟩
 case round =>
  clear hk5 hb5
  obtain ⟨t, gv, cv, rfl, rfl, ht, hcv, hw6, hbx⟩ := hrel
  by_cases hlt : t < 64
  ·obtain ⟨a, b1', c1', d, e, f, g, h, hV, la, lb1, lc1, ld, le, lf, lg, lh1⟩ := rounds8_form hv K64 ws t H8.out lh
   obtain ⟨k, hk⟩ : ∃ k, k = K64.getD t 0 := ⟨_, rfl⟩
   obtain ⟨x, hx⟩ : ∃ x, x = ws.getD t 0 := ⟨_, rfl⟩
   have hstep := Lib.hid (show rounds8 hv K64 ws (t + 1) = [addw (oneW h e f g k x) (twoW a b1' c1'), a, b1', c1', addw d (oneW h e f g k x), e, f, g] by rw [rounds8, hV, hk, hx]; rfl)
   rw [hV] at hw6
   have HV := Lib.hid hV
   have q0 := hw6.cell (i := 0) rfl
   have q1 := hw6.cell (i := 1) rfl
   have q2 := hw6.cell (i := 2) rfl
   have q3 := hw6.cell (i := 3) rfl
   have q4 := hw6.cell (i := 4) rfl
   have q5 := hw6.cell (i := 5) rfl
   have q6 := hw6.cell (i := 6) rfl
   have q7 := hw6.cell (i := 7) rfl
   have qx := (hbx.cell (p := ⟨b4, o4 + t, none⟩) hb4).trans (HC4.out t x (by rw [hx, List.getD_eq_getElem?_getD, List.getElem?_eq_getElem (by rw [hwl.out]; exact hlt)]; rfl))
   have hbw : Below w.heap.size w wr := hbw1.trans (hbx.mono hbw1.size)
   have qk := (hbw.cell (p := ⟨b2, o2 + t, none⟩) hb2).trans (HC2.out t k (by rw [hk, List.getD_eq_getElem?_getD, List.getElem?_eq_getElem (by rw [K64_length]; exact hlt)]; rfl))
   have hkl : k < 4294967296 := by rw [hk]; exact getD_lt (by decide) K64_lim t
   clear hk hx hV hbw
   have hsg : IntKind.u32.signed = false := rfl
   have f1 : bits .xor .u32 ((rotr e 6 : Nat) : Int) ((rotr e 11 : Nat) : Int) = ((rotr e 6 ^^^ rotr e 11 : Nat) : Int) := u32_xor_nat _ _ (rotr_lt _ _ le) (rotr_lt _ _ le)
   have f2 : bits .xor .u32 ((rotr e 6 ^^^ rotr e 11 : Nat) : Int) ((rotr e 25 : Nat) : Int) = ((Sig1 e : Nat) : Int) := u32_xor_nat _ _ (xor_lt (rotr_lt _ _ le) (rotr_lt _ _ le)) (rotr_lt _ _ le)
   have f3 := wrap_add h (Sig1 e)
   have f4 := u32_and_nat e f le lf
   have f5 := not_cast e le
   have f6 := u32_and_nat (4294967295 ^^^ e) g (xor_lt (by decide) le) lg
   have f7 : bits .xor .u32 ((e &&& f : Nat) : Int) (((4294967295 ^^^ e) &&& g : Nat) : Int) = ((chw e f g : Nat) : Int) := u32_xor_nat _ _ (and_lt le f) (and_lt (xor_lt (by decide) le) g)
   have f8 := wrap_add (addw h (Sig1 e)) (chw e f g)
   have f9 := wrap_add (addw (addw h (Sig1 e)) (chw e f g)) k
   have f10 : IntKind.u32.wrap (((addw (addw (addw h (Sig1 e)) (chw e f g)) k : Nat) : Int) + (x : Int)) = ((oneW h e f g k x : Nat) : Int) := wrap_add _ _
   go_wp2_with fail
   go_quiet (first
    | ((go_at_call 112; with_reducible exact Calls.quiet_of_same (still_of (refRight_6 e _ le))))
    | ((go_at_call 112; with_reducible exact Calls.quiet_of_same (still_of (refRight_11 e _ le))))
    | ((go_at_call 112; with_reducible exact Calls.quiet_of_same (still_of (refRight_25 e _ le)))))
   replace q0 : (wr.drewN nq).cell? ⟨gv, 0, none⟩ = some (.int .u32 (a : Int)) := q0
   replace q1 : (wr.drewN nq).cell? ⟨gv, 1, none⟩ = some (.int .u32 (b1' : Int)) := q1
   replace q2 : (wr.drewN nq).cell? ⟨gv, 2, none⟩ = some (.int .u32 (c1' : Int)) := q2
   replace q3 : (wr.drewN nq).cell? ⟨gv, 3, none⟩ = some (.int .u32 (d : Int)) := q3
   replace q4 : (wr.drewN nq).cell? ⟨gv, 4, none⟩ = some (.int .u32 (e : Int)) := q4
   replace q5 : (wr.drewN nq).cell? ⟨gv, 5, none⟩ = some (.int .u32 (f : Int)) := q5
   replace q6 : (wr.drewN nq).cell? ⟨gv, 6, none⟩ = some (.int .u32 (g : Int)) := q6
   replace q7 : (wr.drewN nq).cell? ⟨gv, 7, none⟩ = some (.int .u32 (h : Int)) := q7
   replace hw6 : Blk .u32 (wr.drewN nq) gv [a, b1', c1', d, e, f, g, h] := hw6
   replace hbx : Below w1.heap.size w1 (wr.drewN nq) := below_drewN hbx nq
   clear qx qk
   generalize wr.drewN nq = wr at *
   clear f1 f2 f3 f4 f5 f6 f7 f8 f9 f10
   have f1 : bits .xor .u32 ((rotr a 2 : Nat) : Int) ((rotr a 13 : Nat) : Int) = ((rotr a 2 ^^^ rotr a 13 : Nat) : Int) := u32_xor_nat _ _ (rotr_lt _ _ la) (rotr_lt _ _ la)
   have f2 : bits .xor .u32 ((rotr a 2 ^^^ rotr a 13 : Nat) : Int) ((rotr a 22 : Nat) : Int) = ((Sig0 a : Nat) : Int) := u32_xor_nat _ _ (xor_lt (rotr_lt _ _ la) (rotr_lt _ _ la)) (rotr_lt _ _ la)
   have f3 := u32_and_nat a b1' la lb1
   have f4 := u32_and_nat a c1' la lc1
   have f5 := u32_and_nat b1' c1' lb1 lc1
   have f6 := u32_xor_nat (a &&& b1') (a &&& c1') (and_lt la _) (and_lt la _)
   have f7 : bits .xor .u32 (((a &&& b1') ^^^ (a &&& c1') : Nat) : Int) ((b1' &&& c1' : Nat) : Int) = ((maj a b1' c1' : Nat) : Int) := u32_xor_nat _ _ (xor_lt (and_lt la _) (and_lt la _)) (and_lt lb1 _)
   have f8 : IntKind.u32.wrap (((Sig0 a : Nat) : Int) + ((maj a b1' c1' : Nat) : Int)) = ((twoW a b1' c1' : Nat) : Int) := wrap_add _ _
   go_wp2_with fail
   go_quiet (first
    | ((go_at_call 112; with_reducible exact Calls.quiet_of_same (still_of (refRight_2 a _ la))))
    | ((go_at_call 112; with_reducible exact Calls.quiet_of_same (still_of (refRight_13 a _ la))))
    | ((go_at_call 112; with_reducible exact Calls.quiet_of_same (still_of (refRight_22 a _ la)))))
   replace q0 : (wr.drewN nq).cell? ⟨gv, 0, none⟩ = some (.int .u32 (a : Int)) := q0
   replace q1 : (wr.drewN nq).cell? ⟨gv, 1, none⟩ = some (.int .u32 (b1' : Int)) := q1
   replace q2 : (wr.drewN nq).cell? ⟨gv, 2, none⟩ = some (.int .u32 (c1' : Int)) := q2
   replace q3 : (wr.drewN nq).cell? ⟨gv, 3, none⟩ = some (.int .u32 (d : Int)) := q3
   replace q4 : (wr.drewN nq).cell? ⟨gv, 4, none⟩ = some (.int .u32 (e : Int)) := q4
   replace q5 : (wr.drewN nq).cell? ⟨gv, 5, none⟩ = some (.int .u32 (f : Int)) := q5
   replace q6 : (wr.drewN nq).cell? ⟨gv, 6, none⟩ = some (.int .u32 (g : Int)) := q6
   replace q7 : (wr.drewN nq).cell? ⟨gv, 7, none⟩ = some (.int .u32 (h : Int)) := q7
   replace hw6 : Blk .u32 (wr.drewN nq) gv [a, b1', c1', d, e, f, g, h] := hw6
   replace hbx : Below w1.heap.size w1 (wr.drewN nq) := below_drewN hbx nq
   generalize wr.drewN nq = wr at *
   clear f1 f2 f3 f4 f5 f6 f7 f8
   have f1 := wrap_add (oneW h e f g k x) (twoW a b1' c1')
   have f2 := wrap_add d (oneW h e f g k x)
   go_wp2_with fail
   refine wp_region_still_tail 26 (by kernel_rfl) (by kernel_rfl) ?_
   simp only [List.take_succ_cons, List.take_zero, List.drop_succ_cons, List.drop_zero]
   show wpStill Tryz.prog _ wr.drew (fun a' => wpList Tryz.prog _ _ _ a' wr.drew) _ _
   replace q0 : wr.drew.cell? ⟨gv, 0, none⟩ = some (.int .u32 (a : Int)) := q0
   replace q1 : wr.drew.cell? ⟨gv, 1, none⟩ = some (.int .u32 (b1' : Int)) := q1
   replace q2 : wr.drew.cell? ⟨gv, 2, none⟩ = some (.int .u32 (c1' : Int)) := q2
   replace q3 : wr.drew.cell? ⟨gv, 3, none⟩ = some (.int .u32 (d : Int)) := q3
   replace q4 : wr.drew.cell? ⟨gv, 4, none⟩ = some (.int .u32 (e : Int)) := q4
   replace q5 : wr.drew.cell? ⟨gv, 5, none⟩ = some (.int .u32 (f : Int)) := q5
   replace q6 : wr.drew.cell? ⟨gv, 6, none⟩ = some (.int .u32 (g : Int)) := q6
   replace q7 : wr.drew.cell? ⟨gv, 7, none⟩ = some (.int .u32 (h : Int)) := q7
   replace hbx : Below w1.heap.size w1 wr.drew := below_drewN hbx 1
   clear hw6
   generalize wr.drew = wz at *
   iterate 26 still_step
   refine wpStill_nil ?_
   clear f1 f2
   have hnew := Lib.hid (blk_lit (k := .u32) (t := 129) wz [addw (oneW h e f g k x) (twoW a b1' c1'), a, b1', c1', addw d (oneW h e f g k x), e, f, g] _ rfl)
   clear q0 q1 q2 q3 q4 q5 q6 q7
   go_wp2_with fail
   go_roundw
   case rel => exact ⟨t + 1, wz.heap.size, 8, rfl, by go_num, by omega, by omega, by rw [hstep.out]; exact hnew.out, hbx.alloc hbx.size _⟩
   case measure => simp [intOf]; omega
  ·have h64 : t = 64 := by omega
   rw [h64] at hw6
   have hge : ((t : Int) < 64) = False := by simp; omega
   obtain ⟨V, hV⟩ : ∃ V, V = rounds8 hv K64 ws 64 := ⟨_, rfl⟩
   have hVl := Lib.hid (show V.length = 8 by rw [hV]; exact (rounds8_ok hv K64 ws 64 H8.out lh).1)
   have hVb : Lim 4294967296 V := by rw [hV]; exact (rounds8_ok hv K64 ws 64 H8.out lh).2
   have HV := Lib.hid hV
   rw [← hV] at hw6
   have hbw : Below w.heap.size w wr := hbw1.trans (hbx.mono hbw1.size)
   clear h64 hV
   obtain ⟨t64, rfl⟩ : ∃ j, j = t := ⟨_, rfl⟩
   go_wp2_with (at_make; refine wpList_make_ints _ rfl _ _ _ rfl .u32 129 4 Tryz.underlying128 info_u32 _ _ 8 _ _ rfl rfl (by omega) (by omega) (by omega) (by omega) ?_; intro g w2 hg hw2 hs2 hb2)
   have hgl : wr.heap.size ≤ g := by rw [hg.out]; exact Nat.le_refl _
   have hgl' : w.heap.size ≤ g := Nat.le_trans hbw.size hgl
   have hbw2 := hbw.trans (hb2.mono hbw.size)
   have hgv : gv ≠ g := by have := hw6.lt; omega
   have hw62 := hw6.below hb2
   have hout : Blk .u32 w2 g (pad 8 (outs hv V 0)) := hw2.blk
   clear hw6 hw2 hbx hbw hb2 hs2
   go_wp2_with fail
   go_loopw [14] (fun s wr => ∃ i : Nat, s = .int .i64 (i : Int) ∧ i ≤ 8 ∧ Blk .u32 wr gv V ∧ Blk .u32 wr g (pad 8 (outs hv V i)) ∧ Below w.heap.size w wr) (fun s _ => 8 - (intOf s).toNat)
   case atStart => exact ⟨0, rfl, by omega, hw62, hout, hbw2⟩
   case round =>
    clear hw62 hout hbw2
    obtain ⟨i, rfl, hi, hw6, hw4', hbw⟩ := hrel
    by_cases hlt8 : i < 8
    ·obtain ⟨a, hga⟩ := get_of_lt (xs := hv) (i := i) (by rw [H8.out]; exact hlt8)
     obtain ⟨v, hgv2⟩ := get_of_lt (xs := V) (i := i) (by rw [hVl.out]; exact hlt8)
     have HS := Lib.hid (show outs hv V (i + 1) = outs hv V i ++ [addw a v] by rw [outs_succ, List.getD_eq_getElem?_getD, hga, List.getD_eq_getElem?_getD, hgv2]; rfl)
     have q1 := (hbw.cell (p := ⟨b1, o1 + i, none⟩) hb1).trans (HC1.out i a hga)
     have q2 := hw6.cell hgv2
     have hpl : (outs hv V i).length < 8 := by rw [outs_length]; exact hlt8
     have hat := pad_at hpl
     rw [outs_length] at hat
     have hat' := Lib.hid hat
     have q3 := hw4'.cell hat
     have q4 := hw4'.frozen hat
     have f1 := wrap_add a v
     clear hga hgv2 hat hpl
     go_wp2_with fail
     refine wp_region_still_tail 12 (by kernel_rfl) (by kernel_rfl) ?_
     simp only [List.take_succ_cons, List.take_zero, List.drop_succ_cons, List.drop_zero]
     show wpStill Tryz.prog _ wr.drew (fun a' => wpList Tryz.prog _ _ _ a' wr.drew) _ _
     replace q1 : wr.drew.cell? ⟨b1, o1 + i, none⟩ = some (.int .u32 (a : Int)) := q1
     replace q2 : wr.drew.cell? ⟨gv, i, none⟩ = some (.int .u32 (v : Int)) := q2
     replace q3 : wr.drew.cell? ⟨g, i, none⟩ = some (.int .u32 ((0 : Nat) : Int)) := q3
     replace q4 : wr.drew.frozen? ⟨g, i, none⟩ = false := q4
     replace hw6 : Blk .u32 wr.drew gv V := hw6
     replace hw4' : Blk .u32 wr.drew g (pad 8 (outs hv V i)) := hw4'
     replace hbw : Below w.heap.size w wr.drew := below_drewN hbw 1
     generalize wr.drew = wz at *
     have i1 : (0 : Int) ≤ (i : Int) := by omega
     have i2 : (i : Int) < 8 := by omega
     iterate 12 still_step
     refine wpStill_nil ?_
     clear i1 i2
     go_wp2_with fail
     go_roundw
     case rel =>
      refine ⟨i + 1, by go_num, by omega, hw6.far (p := ⟨g, i, none⟩) hgv _, ?_, hbw.setCell (p := ⟨g, i, none⟩) hgl' _⟩
      have h := hw4'.set hat'.out (addw a v)
      have h7 := pad_set (n := 8) (l := outs hv V i) (by rw [outs_length]; exact hlt8) (addw a v)
      rw [outs_length] at h7
      rw [h7, ← HS.out] at h
      exact h
     case measure => simp [intOf]; omega
    ·obtain rfl : i = 8 := by omega
     have hfin : pad 8 (outs hv V 8) = compress hv b := by rw [pad_full (outs_length hv V 8), HV.out, HWS.out]; rfl
     rw [hfin] at hw4'
     have hcl8 := Lib.hid (show (compress hv b).length = 8 by simp [compress])
     clear hfin hw6
     generalize compress hv b = O at *
     go_wp2_with fail
     go_ret
     exact ⟨_, _, by rw [hcl8.out]; rfl, by rw [hcl8.out]; exact Nat.le_refl _, by simp only [maxLen]; omega, Own.of_blk hw4' hgl', hbw⟩
end Go.Proofs.YtchaahnhpeoomaaGreat
namespace Go.Proofs.YtchaahnhpeoomaaGreat
set_option linter.unusedVariables false
set_option linter.unusedSimpArgs false
set_option maxRecDepth 20000
open Go.RowKit
theorem padded_length (m : List Nat) : ∃ q, (m ++ padding m.length).length = 64 * q ∧ q ≤ m.length / 64 + 2 := by
 have h := padding_length m.length
 have h2 : (padding m.length).length ≤ 73 := by simp [padding, be64]; omega
 refine ⟨(m ++ padding m.length).length / 64, ?_, ?_⟩
 ·rw [List.length_append]
  omega
 ·rw [List.length_append]
  omega
theorem Rd.cell_at {k : IntKind} {w : World} {b o : Nat} {xs : List Nat} {i x : Nat} (h : Rd k w (some ⟨b, o, none⟩) xs) (hx : xs[i]? = some x) : w.cell? ⟨b, o + i, none⟩ = some (.int k (x : Int)) := by
 obtain ⟨b', o', he, _, hc⟩ := h.pos hx
 injection he with he
 injection he with h1 h2
 subst h1
 subst h2
 exact hc _ _ hx
set_option maxRecDepth 100000 in
set_option maxHeartbeats 3200000 in
theorem refSum_any (A : Option Addr) (n c : Nat) (m : List Nat) (w : World) (hn : n = m.length) (hl : n ≤ 1099511627776) (hb : Rd .u8 w A m) (lb : Lim 256 m) :
  Calls Tryz.prog 41 #[.slice A n c] w (GivesArr .u8 (digest m) w) := by
 obtain ⟨q, hML, hq⟩ := padded_length m
 have HDG := Lib.hid (show digest m = outTo (blocks H8 (m ++ padding m.length) q) 32 by
  rw [digest, hML, Nat.mul_div_cancel_left _ (by omega)]
  rfl)
 have hlM : Lim 256 (m ++ padding m.length) := lb.append (padding_lim _)
 have hql : 64 * q ≤ 1099511627920 := by omega
 have HN := Lib.hid hn
 have HQ := Lib.hid hML
 clear hML hq hn
 go_enter Tryz.func41, Tryz.ntmps41
 go_wp2_with fail
 have hw2 : Whl .u8 49 (w.alloc (.cells (ints .u8 (List.replicate 32 0)).toArray 49)) w.heap.size (List.replicate 32 0) := whl_new0 w _
 have hba : Below w.heap.size w (w.alloc (.cells (ints .u8 (List.replicate 32 0)).toArray 49)) := (Below.refl _ _).alloc (Nat.le_refl _) _
 change Calls _ _ _ (w.alloc (.cells (ints .u8 (List.replicate 32 0)).toArray 49)) _
 have hra := hb.below hba
 generalize w.alloc (.cells (ints .u8 (List.replicate 32 0)).toArray 49) = wa at *
 have hltw := hw2.lt
 refine (roots_H _).mono ?_
 rintro e w1 ⟨A1, c1, rfl, -, -, hO1, hb1⟩
 rw [H8_length]
 have hr1 := hO1.rd
 clear hO1
 go_wp2_with fail
 refine (roots_K _).mono ?_
 rintro e w2 ⟨A2, c2, rfl, -, -, hO2, hb2⟩
 rw [K64_length]
 have hr2 := hO2.rd
 clear hO2
 replace hr1 := hr1.below hb2
 have hra2 := (hra.below hb1).below hb2
 have hbA2 : Below wa.heap.size wa w2 := hb1.trans (hb2.mono hb1.size)
 clear hra hb1 hb2
 go_wp2_with fail
 refine (padded_any A n c m _ HN.out hl hra2).mono ?_
 rintro e w3 ⟨A3, c3, rfl, hc3, hcm3, hO3, hb3⟩
 rw [HQ.out] at hc3 ⊢
 have hr3 := hO3.rd
 clear hO3 hra2
 replace hr1 := hr1.below hb3
 replace hr2 := hr2.below hb3
 have hbA3 : Below wa.heap.size wa w3 := hbA2.trans (hb3.mono hbA2.size)
 clear hbA2 hb3
 obtain ⟨M, hM⟩ : ∃ M, M = m ++ padding m.length := ⟨_, rfl⟩
 rw [← hM] at HDG HQ hlM hr3
 clear hM
 have hMc : M.length ≤ c3 := by rw [HQ.out]; exact hc3
 go_wp2_with fail
 go_loopw [3, 6] (fun u s wr => ∃ (j p : Nat) (Ah : Option Addr) (ch : Nat), u = .slice Ah 8 ch ∧ s = .int .i64 (p : Int) ∧ Hid (p = 64 * j) ∧ j ≤ q ∧ Rd .u32 wr Ah (blocks H8 M j) ∧ Below w3.heap.size w3 wr) (fun _ s _ => 64 * q - (intOf s).toNat)
 case atStart => exact ⟨0, 0, A1, c1, rfl, rfl, rfl, Nat.zero_le _, hr1, Below.refl _ _⟩
 case round =>
  clear hr1
  obtain ⟨j, p, Ah, ch, rfl, rfl, hp, hj, hr1, hbel⟩ := hrel
  by_cases hlt : j < q
  ·obtain ⟨t, ht⟩ : ∃ t, t = p + 64 := ⟨_, rfl⟩
   have hpq : p < 64 * q := by have := hp.out; omega
   have htq : t ≤ 64 * q := by have := hp.out; omega
   have hte : (p : Int) + 64 = (t : Int) := by omega
   have hsl := slice_lh A3 (64 * q) c3 p t (by omega) (by omega)
   rw [show t - p = 64 by omega] at hsl
   have hr4 : Rd .u8 wr (cutAddr A3 p c3) ((M.drop (64 * j)).take 64) := by rw [← hp.out]; exact (rd_cut (hr3.below hbel) p c3 hMc).take _
   have hlen := Lib.hid (show ((M.drop (64 * j)).take 64).length = 64 by rw [List.length_take, List.length_drop, HQ.out]; omega)
   have hok := blocks_ok H8_length H8_lim M j
   have hrk := hr2.below hbel
   have HT := Lib.hid ht
   clear ht
   go_wp2_with fail
   refine (refBlock_any Ah A2 (cutAddr A3 p c3) ch c2 (c3 - p) (blocks H8 M j) ((M.drop (64 * j)).take 64) _ hr1 hrk hr4 hok.1 hok.2 hlen.out ((hlM.drop _).take _)).mono ?_
   rintro e w5 ⟨A5, c5, rfl, -, -, hO5, hb5⟩
   have hl8 : (compress (blocks H8 M j) ((M.drop (64 * j)).take 64)).length = 8 := compress_length _ _
   rw [hl8]
   have hr5 := hO5.rd
   clear hO5 hl8 hr4 hrk hok
   go_wp2_with fail
   go_roundw
   case rel => exact ⟨j + 1, t, A5, c5, rfl, rfl, by show t = 64 * (j + 1); have := HT.out; have := hp.out; omega, hlt, hr5, hbel.trans (hb5.mono hbel.size)⟩
   case measure => simp [intOf]; have := HT.out; omega
  ·obtain rfl : j = q := by omega
   obtain ⟨H, hH⟩ : ∃ H, H = blocks H8 M j := ⟨_, rfl⟩
   have hok := blocks_ok H8_length H8_lim M j
   rw [← hH] at hr1 HDG hok
   obtain ⟨hHl, hHb⟩ := hok
   have HHl := Lib.hid hHl
   have hpe : ((p : Int) < 64 * (j : Int)) = False := by have := hp.out; simp; omega
   clear hH hHl
   obtain ⟨bh, oh, rfl, hbh, hch⟩ : ∃ bb o, Ah = some ⟨bb, o, none⟩ ∧ bb < wr.heap.size ∧ ∀ (i x : Nat), H[i]? = some x → wr.cell? ⟨bb, o + i, none⟩ = some (.int .u32 (x : Int)) := by
    obtain ⟨x, hx⟩ := get_of_lt (xs := H) (i := 0) (by rw [HHl.out]; omega)
    exact hr1.pos hx
   have hbg : bh ≠ wr.heap.size := by omega
   clear hch
   have hbA : Below wa.heap.size wa wr := hbA3.trans (hbel.mono hbA3.size)
   go_wp2_with fail
   have hw7 : Whl .u8 49 (wr.alloc (.cells (ints .u8 (List.replicate 32 0)).toArray 49)) wr.heap.size (pad 32 (outTo H 0)) := whl_new0 wr _
   have hbx : Below w.heap.size w (wr.alloc (.cells (ints .u8 (List.replicate 32 0)).toArray 49)) := (hba.trans (hbA.mono hba.size)).alloc (Nat.le_trans hba.size hbA.size) _
   have hw2' : Whl .u8 49 (wr.alloc (.cells (ints .u8 (List.replicate 32 0)).toArray 49)) w.heap.size (List.replicate 32 0) := (hw2.below hbA).alloc _
   have hbn : Below wr.heap.size wr (wr.alloc (.cells (ints .u8 (List.replicate 32 0)).toArray 49)) := (Below.refl _ _).alloc (Nat.le_refl _) _
   have hne : w.heap.size ≠ wr.heap.size := by have := (hw2.below hbA).lt; omega
   have hB7 : w.heap.size ≤ wr.heap.size := Nat.le_trans hba.size hbA.size
   have hrx := hr1.below hbn
   change Code.wp _ _ _ _ (wr.alloc (.cells (ints .u8 (List.replicate 32 0)).toArray 49))
   clear hbA hbel hbn hr2 hr3 hw2 hba hbA3
   generalize wr.alloc (.cells (ints .u8 (List.replicate 32 0)).toArray 49) = wx at *
   clear hbh hltw hr1
   generalize wr.heap.size = g7 at *
   go_loopw [8] (fun s wr => ∃ i : Nat, s = .int .i64 (i : Int) ∧ i ≤ 32 ∧ Whl .u8 49 wr g7 (pad 32 (outTo H i)) ∧ Whl .u8 49 wr w.heap.size (List.replicate 32 0) ∧ Rd .u32 wr (some ⟨bh, oh, none⟩) H ∧ Below w.heap.size w wr) (fun s _ => 32 - (intOf s).toNat)
   case atStart => exact ⟨0, rfl, by omega, hw7, hw2', hrx, hbx⟩
   case round =>
    clear hw7 hw2' hrx hbx
    obtain ⟨i, rfl, hi32, hw7, hw2, hrx, hbx⟩ := hrel
    by_cases hlt32 : i < 32
    ·obtain ⟨x, hx⟩ := get_of_lt (xs := H) (i := i / 4) (by rw [HHl.out]; omega)
     have q1 := hrx.cell_at hx
     obtain ⟨y, hy⟩ : ∃ y, y = x / 2 ^ (24 - 8 * (i % 4)) % 256 := ⟨_, rfl⟩
     have hv := Lib.hid (show ((y : Nat) : Int) = (x : Int) / 2 ^ (24 - 8 * (i % 4)) % 256 by rw [hy]; push_cast; rfl)
     have HS := Lib.hid (show outTo H (i + 1) = outTo H i ++ [y] by rw [outTo_succ, List.getD_eq_getElem?_getD, hx, hy]; rfl)
     have hpl : (outTo H i).length < 32 := by rw [outTo_length]; exact hlt32
     have hat := pad_at hpl
     rw [outTo_length] at hat
     have q3 := hw7.blk.cell hat
     have q4 := hw7.blk.frozen hat
     clear hx hy hat hpl
     go_wp2_with fail
     go_roundw
     case rel =>
      refine ⟨i + 1, by go_num, by omega, ?_, hw2.far (p := ⟨g7, i, none⟩) hne _, hrx.setCell (p := ⟨g7, i, none⟩) (Off.of_ne hbg) _, hbx.setCell (p := ⟨g7, i, none⟩) hB7 _⟩
      have h := hw7.set i y
      have h7 := pad_set (n := 32) (l := outTo H i) (by rw [outTo_length]; exact hlt32) y
      rw [outTo_length] at h7
      rw [h7, ← HS.out, hv.out] at h
      exact h
     case measure => simp [intOf]; omega
    ·obtain rfl : i = 32 := by omega
     rw [pad_full (outTo_length H 32), ← HDG.out] at hw7
     obtain ⟨D, hD⟩ : ∃ D, D = digest m := ⟨_, rfl⟩
     have hDl := Lib.hid (show D.length = 32 by rw [hD]; exact digest_length m)
     rw [← hD] at hw7
     have HD := Lib.hid hD
     clear hD HDG hrx
     go_wp2_with (first | (refine wpList_load_whl rfl 49 (.tmp 7) rfl g7 rfl .u8 _ D hw7 _ Tryz.underlying49 rfl (by rw [hDl.out]; exact size_32u8_s) ?_) | (refine wpList_store_whl rfl 49 (.tmp 2) (.tmp 45) rfl w.heap.size .u8 _ (List.replicate 32 0) D rfl rfl hw2 hDl.out size_32u8_s ?_; intro w9 hw9 hg9 hs9))
     exact bodyPost_ret (v := .agg (ints .u8 D).toArray) (results_whl rfl _ _ w.heap.size .u8 _ D _ rfl hw9 Tryz.underlying49 rfl (by rw [hDl.out]; exact size_32u8_s)) rfl ⟨by rw [HD.out], below_only hbx hg9 hbx.size (Nat.le_refl _)⟩
end Go.Proofs.YtchaahnhpeoomaaGreat
namespace Go.Proofs.YtchaahnhpeoomaaGreat
set_option linter.unusedVariables false
set_option linter.unusedSimpArgs false
set_option maxRecDepth 20000
open Go.RowKit
end Go.Proofs.YtchaahnhpeoomaaGreat
