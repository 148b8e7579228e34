/-
  The reference's roots: root, by halving with products of limbs.
-/
import Derived.Test.YtmbkehmgpcmicaaShaS
namespace Go.Proofs.Ytmbkehmgpcmicaa
set_option linter.unusedVariables false
set_option linter.unusedSimpArgs false
open Go.RowKit

/-- It returns this word, and nothing that was there has turned. -/
def RetN (k : IntKind) (n : Nat) (w : World) (e : Ending) (w' : World) : Prop := e = .returned (.int k (n : Int)) ∧ Below w.heap.size w w'

theorem sqF_pow (p x : Nat) : sqF p x = decide (p * 4294967296 ^ 2 < x ^ 2) := by
  rw [sqF, show (4294967296 : Nat) ^ 2 = 18446744073709551616 by decide, show x ^ 2 = x * x by rw [Nat.pow_succ, Nat.pow_one]]
theorem cuF_pow (p x : Nat) : cuF p x = decide (p * 4294967296 ^ 3 < x ^ 3) := by
  rw [cuF, show (4294967296 : Nat) ^ 3 = 79228162514264337593543950336 by decide, show x ^ 3 = x * x * x by rw [Nat.pow_succ, Nat.pow_succ, Nat.pow_one]]
theorem val_two (x : Nat) : val [x % 4294967296, x / 4294967296] = x := by simp [val]; omega
theorem wrap_cast (x : Nat) : IntKind.u32.wrap (x : Int) = ((x % 4294967296 : Nat) : Int) := by
  rw [IntKind.wrap_u32', Int.natCast_emod]
  rfl
theorem val_want (n p : Nat) (hn : n < 2 * n) : val ((List.replicate (2 * n) 0).set n p) = p * 4294967296 ^ n := by
  have h : (List.replicate (2 * n) 0)[n]? = some 0 := by rw [List.getElem?_replicate, if_pos hn]
  have := val_set h p
  rw [val_replicate, Nat.mul_zero, Nat.add_zero, Nat.zero_add] at this
  rw [this, Nat.mul_comm]

set_option maxHeartbeats 1600000 in
theorem root_any (F : Nat → Bool) (p n : Nat) (w : World) (hp : p < 65536) (hn : n = 2 ∨ n = 3) (hF : ∀ x, F x = decide (p * 4294967296 ^ n < x ^ n)) :
    Calls Try.prog 30 #[.int .u32 (p : Int), .int .i64 (n : Int)] w (RetN .u32 (rootN F 38 0 137438953472 % 4294967296) w) := by
  obtain ⟨R, hR⟩ : ∃ R, rootN F 38 0 137438953472 = R := ⟨_, rfl⟩
  rw [hR]
  have HR := Lib.hid hR
  clear hR
  have hn2 : n < 2 * n := by omega
  have hn0 : 0 < n := by omega
  have hn3 : n ≤ 3 := by omega
  clear hn
  have hz : (List.replicate (2 * n) 0)[n]? = some 0 := by rw [List.getElem?_replicate, if_pos hn2]
  have HZ := Lib.hid hz
  clear hz
  have HW := Lib.hid (val_want n p hn2)
  go_enter Try.func30, Try.ntmps30
  go_wp2_with (at_make; refine wpList_make_ints _ rfl _ _ _ rfl .u32 32 4 Try.underlying51 info_u32 _ _ (2 * n) _ _ rfl rfl (by omega) (by omega) (by omega) (by omega) ?_; intro g w1 hg hw1 hs1 hb1; have hc0 := hw1.blk.cell HZ.out; have hf0 := hw1.blk.frozen HZ.out)
  have hgl : w.heap.size ≤ g := by rw [hg.out]; exact Nat.le_refl _
  have hbW := hw1.blk.set HZ.out p
  have hbelW := hb1.setCell (p := ⟨g, n, none⟩) hgl (.int .u32 (p : Int))
  have hwl : ((List.replicate (2 * n) 0).set n p).length = 2 * n := by simp
  have hwm : Lim 4294967296 ((List.replicate (2 * n) 0).set n p) := (Lim.replicate (by omega)).set (by omega)
  clear HZ
  generalize (List.replicate (2 * n) 0).set n p = want at *
  go_loopw [6, 7] (fun s t wr => ∃ lo hi k : Nat, s = .int .u64 (lo : Int) ∧ t = .int .u64 (hi : Int) ∧ hi ≤ 137438953472 ∧ lo ≤ hi ∧ hi - lo ≤ 2 ^ k ∧ Hid (rootN F k lo hi = R) ∧ Blk .u32 wr g want ∧ Below w.heap.size w wr) (fun s t _ => (intOf t).toNat - (intOf s).toNat)
  case atStart => exact ⟨0, 137438953472, 38, rfl, rfl, Nat.le_refl _, by omega, by decide, HR, hbW, hbelW⟩
  case round =>
    obtain ⟨lo, hi, k, rfl, rfl, h1, h2, h3, h4, hbr, hbel⟩ := hrel
    by_cases hlt : 1 < hi - lo
    · obtain ⟨m, hm⟩ : ∃ m, m = (lo + hi) / 2 := ⟨_, rfl⟩
      have hmi : ((lo : Int) + (hi : Int)) / 2 = (m : Int) := by omega
      have hm1 : lo < m := by omega
      have hm2 : m < hi := by omega
      have HM := Lib.hid hm
      obtain ⟨j, rfl⟩ : ∃ j, k = j + 1 := by
        rcases k with _ | j
        · simp at h3; omega
        · exact ⟨j, rfl⟩
      have h3' : m - lo ≤ 2 ^ j ∧ hi - m ≤ 2 ^ j := by rw [Nat.pow_succ] at h3; omega
      have e1 := wrap_cast m
      have e2 : (m : Int) / 4294967296 = ((m / 4294967296 : Nat) : Int) := shr_cast m 4294967296
      have e3 := wrap_cast (m / 4294967296)
      rw [Nat.mod_eq_of_lt (show m / 4294967296 < 4294967296 by omega)] at e3
      have hv := Lib.hid (val_two m)
      have hlm : Lim 4294967296 [m % 4294967296, m / 4294967296] := lim_small (by simp; omega)
      clear hm h3
      generalize m % 4294967296 = la at *
      generalize m / 4294967296 = lb at *
      have hdl : decide ((1 : Int) < (hi : Int) - (lo : Int)) = true := decide_eq_true (by omega)
      go_wp2_with fail
      simp only [hmi, hdl]
      clear hdl
      have hbl := blk_lit (k := .u32) (t := 32) wr [la, lb] #[.int .u32 (la : Int), .int .u32 (lb : Int)] rfl
      have hbr2 := hbr.alloc (.cells #[.int .u32 (la : Int), .int .u32 (lb : Int)] 32)
      have hbel2 := hbel.alloc hbel.size (.cells #[.int .u32 (la : Int), .int .u32 (lb : Int)] 32)
      have hgl2 : w.heap.size ≤ wr.heap.size := hbel.size
      generalize wr.alloc (.cells #[.int .u32 (la : Int), .int .u32 (lb : Int)] 32) = wv at *
      generalize wr.heap.size = g2 at *
      have hlen2 := Lib.hid (show [la, lb].length = 2 from rfl)
      generalize [la, lb] = ls at *
      go_loopw [10, 11] (fun y t wr' => ∃ (i : Nat) (A : Option Addr) (c : Nat) (ys : List Nat), y = .slice A ys.length c ∧ t = .int .i64 (i : Int) ∧ 1 ≤ i ∧ i ≤ n ∧ Hid (ys.length = 2 * i) ∧ Rd .u32 wr' A ys ∧ Lim 4294967296 ys ∧ Hid (val ys = m ^ i) ∧ Blk .u32 wr' g2 ls ∧ Blk .u32 wr' g want ∧ Below w.heap.size w wr') (fun _ t _ => n - (intOf t).toNat)
      case atStart => exact ⟨1, _, _, ls, by rw [hlen2.out], rfl, Nat.le_refl _, by omega, hlen2, Rd.of_all hbl, hlm, by show _ = _; rw [hv.out, Nat.pow_one], hbl, hbr2, hbel2⟩
      case round =>
        obtain ⟨i, A, c, ys, rfl, rfl, hi1, hin, hyl, hyr, hym, hyv, hb2, hb3, hbel3⟩ := hrel
        by_cases hlt2 : i < n
        · have hls := Rd.of_all hb2
          have HT := Lib.hid (mulTo_ok (xs := ys) (ys := ls) hym hlm (Nat.le_refl ys.length))
          have HL := Lib.hid (mulTo_length ys ls ys.length)
          go_wp2_with fail
          refine (times_any A (some ⟨g2, 0, none⟩) ys.length 2 c 2 ys ls _ rfl hlen2.out.symm (by have := hyl.out; omega) (by omega) hyr hls hym hlm).mono ?_
          rintro e w' ⟨A', c', rfl, _, _, ho, hb⟩
          have hyv2 : val (mulTo ys ls ys.length) = m ^ (i + 1) := by
            rw [HT.out.1, List.take_length, hyv.out, hv.out, Nat.pow_succ]
          have HV := Lib.hid hyv2
          have hb2' := hb2.below hb
          have hb3' := hb3.below hb
          have hbel4 := hbel3.trans (hb.mono hbel3.size)
          have hlm2 := HT.out.2.1
          clear hyv2
          go_wp2_with fail
          go_roundw
          case rel => exact ⟨i + 1, A', c', mulTo ys ls ys.length, rfl, by go_num, by omega, by omega, by show _ = _; rw [HL.out, hyl.out, hlen2.out]; omega, ho.rd, hlm2, HV, hb2', hb3', hbel4⟩
          case measure => simp [intOf] <;> omega
        · obtain rfl : i = n := by omega
          have HU := Lib.hid hwl
          have hFm : decide (val want < val ys) = F m := by rw [hF, HW.out, hyv.out]
          have HF := Lib.hid hFm
          have hwr := Rd.of_all hb3
          clear hFm hwl
          cases hc : F m with
          | true =>
            have HY := Lib.hid ((rootN_yes hlt HM.out hc).symm.trans h4.out)
            have HC := Lib.hid hc
            clear hc
            go_wp2_with fail
            refine (above_any A (some ⟨g, 0, none⟩) ys.length (2 * i) c (2 * i) ys want _ rfl hyl.out.symm (by rw [hyl.out, HU.out]) (by have := hyl.out; omega) hyr hwr hym hwm).mono ?_
            rw [HF.out, HC.out]
            rintro e w' ⟨rfl, q, rfl⟩
            go_wp2_with fail
            go_roundw
            case rel => exact ⟨lo, m, j, rfl, rfl, by omega, by omega, h3'.1, HY, hb3.drewN q, below_drewN hbel3 q⟩
            case measure => simp [intOf] <;> omega
          | false =>
            have HY := Lib.hid ((rootN_no hlt HM.out hc).symm.trans h4.out)
            have HC := Lib.hid hc
            clear hc
            go_wp2_with fail
            refine (above_any A (some ⟨g, 0, none⟩) ys.length (2 * i) c (2 * i) ys want _ rfl hyl.out.symm (by rw [hyl.out, HU.out]) (by have := hyl.out; omega) hyr hwr hym hwm).mono ?_
            rw [HF.out, HC.out]
            rintro e w' ⟨rfl, q, rfl⟩
            go_wp2_with fail
            go_roundw
            case rel => exact ⟨m, hi, j, rfl, rfl, h1, by omega, h3'.2, HY, hb3.drewN q, below_drewN hbel3 q⟩
            case measure => simp [intOf] <;> omega
    · have HY := Lib.hid ((rootN_done F k (lo := lo) (hi := hi) (by omega)).symm.trans h4.out)
      have e1 := wrap_cast lo
      go_wp2_with fail
      go_ret
      exact ⟨by rw [← HY.out]; rfl, hbel⟩

theorem root_sq (p : Nat) (w : World) (hp : p < 65536) : Calls Try.prog 30 #[.int .u32 (p : Int), .int .i64 2] w (RetN .u32 (rootN (sqF p) 38 0 137438953472 % 4294967296) w) := root_any (sqF p) p 2 w hp (.inl rfl) (sqF_pow p)
theorem root_cu (p : Nat) (w : World) (hp : p < 65536) : Calls Try.prog 30 #[.int .u32 (p : Int), .int .i64 3] w (RetN .u32 (rootN (cuF p) 38 0 137438953472 % 4294967296) w) := root_any (cuF p) p 3 w hp (.inr rfl) (cuF_pow p)
end Go.Proofs.Ytmbkehmgpcmicaa
