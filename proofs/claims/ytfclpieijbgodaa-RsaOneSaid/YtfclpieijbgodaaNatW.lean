/-
  The reference's quotient, bit by bit (Div).
-/
import Derived.Test.YtfclpieijbgodaaNatV
namespace Go.Proofs.Ytfclpieijbgodaa
set_option linter.unusedVariables false
set_option linter.unusedSimpArgs false
open Go.RowKit

theorem dbl_or (z b : Nat) (hb : b ≤ 1) : bits .or .u32 ((z : Int) * 2 % 4294967296) (b : Int) = ((2 * z % 4294967296 + b : Nat) : Int) := by
  have e : ((z : Int) * 2 % 4294967296) = ((2 * z % 4294967296 : Nat) : Int) := by omega
  have h2 : b < 2 ^ 1 := by omega
  have h := or_shift (x := b) (y := z % 2147483648) (s := 1) h2
  rw [e, u32_or_nat _ _ (by omega) (by omega), show 2 * z % 4294967296 = z % 2147483648 * 2 ^ 1 by omega, Nat.or_comm, h, Nat.add_comm]
set_option maxRecDepth 100000 in
set_option maxHeartbeats 3200000 in
theorem refDiv_ok (A B : Option Addr) (n m c d : Nat) (xs ys : List Nat) (w : World) (hn : n = xs.length) (hm : m = ys.length) (hl : n ≤ 30000) (hl' : m ≤ 30000) (hx : Rd .u32 w A xs) (hy : Rd .u32 w B ys) (lx : Lim 4294967296 xs) (ly : Lim 4294967296 ys)
    (r1 : isRight xs = true) (r2 : isRight ys = true) (hne : ys ≠ []) :
    Calls Try.prog 25 #[.slice A n c, .slice B m d] w (Gives3 (limbs (val xs / val ys)) (limbs (val xs % val ys)) 0 w) := by
  subst hn
  subst hm
  have hYp := canon_pos (isRight_canon ly r2) hne
  have hyl : 0 < ys.length := List.length_pos_iff.2 hne
  have hyz : decide ((ys.length : Int) = 0) = false := by simp; exact hne
  clear hne
  go_enter Try.func25, Try.ntmps25
  go_wp2_with fail
  refine (refRight_any _ _ c xs _ rfl (by omega) hx).mono ?_
  rintro e w' ⟨rfl, rfl⟩
  go_wp2_with fail
  refine (refRight_any _ _ d ys _ rfl (by omega) hy).mono ?_
  rintro e w' ⟨rfl, rfl⟩
  go_wp2_with (first
    | (at_make; refine wpList_make_ints _ rfl (.tmp 30) (.tmp 30) _ rfl .u32 33 4 Try.underlying22 info_u32 _ _ xs.length _ _ rfl rfl (by omega) (by omega) (by omega) (by omega) ?_; intro gq w1 hgq hw1 hs1 hb1)
    | (at_make; refine wpList_make_ints _ rfl (.tmp 34) (.tmp 34) _ rfl .u32 33 4 Try.underlying22 info_u32 _ _ (ys.length + 1) _ _ rfl rfl (by omega) (by omega) (by omega) (by omega) ?_; intro gr w2 hgr hw2 hs2 hb2))
  have hqr : gq ≠ gr := by rw [hgq.out, hgr.out, hs1]; omega
  have hqB : w.heap.size ≤ gq := by rw [hgq.out]; exact Nat.le_refl _
  have hrB : w.heap.size ≤ gr := by rw [hgr.out, hs1]; omega
  have hbq := hw1.blk.below hb2
  have hbr := hw2.blk
  have hbel2 := hb1.trans (hb2.mono hb1.size)
  clear hgq hgr hw1 hw2 hs1 hs2 hb1 hb2
  have hst : val (List.replicate xs.length 0) = val xs / 2 ^ (32 * xs.length) / val ys * 2 ^ (32 * xs.length) ∧ val (List.replicate (ys.length + 1) 0) = val xs / 2 ^ (32 * xs.length) % val ys := by
    have h := val_lt lx
    rw [pow_limb] at h
    rw [val_replicate, val_replicate, Nat.div_eq_of_lt h, Nat.zero_div, Nat.zero_mul, Nat.zero_mod]
    exact ⟨rfl, rfl⟩
  go_loopw [9] (fun s wr => ∃ (k : Nat) (qs rs : List Nat), s = .int .i64 ((k : Int) - 1) ∧ k ≤ 32 * xs.length ∧ Blk .u32 wr gq qs ∧ Blk .u32 wr gr rs ∧ Hid (qs.length = xs.length) ∧ Hid (rs.length = ys.length + 1) ∧ Lim 4294967296 qs ∧ Lim 4294967296 rs ∧ Hid (val qs = val xs / 2 ^ k / val ys * 2 ^ k ∧ val rs = val xs / 2 ^ k % val ys) ∧ Below w.heap.size w wr) (fun s _ => (intOf s + 1).toNat)
  case atStart => exact ⟨32 * xs.length, _, _, by simp, Nat.le_refl _, hbq, hbr, List.length_replicate, List.length_replicate, Lim.replicate (by omega), Lim.replicate (by omega), hst, hbel2⟩
  case round =>
    clear hst hbq hbr hbel2
    obtain ⟨k, qs, rs, rfl, hk, hbq, hbr, hql, hrl, lq, lr, hv, hbel⟩ := hrel
    rcases Nat.eq_zero_or_pos k with rfl | hp
    · have h1 := hv.out.1
      have h2 := hv.out.2
      rw [Nat.pow_zero, Nat.div_one, Nat.mul_one] at h1
      rw [Nat.pow_zero, Nat.div_one] at h2
      have HQ := Lib.hid h1
      have HR := Lib.hid h2
      clear h1 h2
      go_wp2_with fail
      refine (refTrim_any _ xs.length xs.length qs _ hql.out.symm (Nat.le_refl _) (by omega) (Rd.of_all hbq) lq).mono ?_
      rintro e w3 ⟨A1, c1, rfl, f1, f2, f3, f4⟩
      rw [HQ.out] at f1 f3 ⊢
      have hbr3 := hbr.below f4
      have hbel3 := hbel.trans (f4.mono hbel.size)
      go_wp2_with fail
      refine (refTrim_any _ (ys.length + 1) (ys.length + 1) rs _ hrl.out.symm (Nat.le_refl _) (by omega) (Rd.of_all hbr3) lr).mono ?_
      rintro e w4 ⟨A2, c2, rfl, g1, g2, g3, g4⟩
      rw [HR.out] at g1 g3 ⊢
      go_wp2_with fail
      go_ret3
      exact ⟨A1, c1, A2, c2, rfl, ⟨f1, f2⟩, ⟨g1, g2⟩, (f3.below g4).mono hbel.size, g3.mono hbel3.size, hbel3.trans (g4.mono hbel3.size)⟩
    · obtain ⟨k, rfl⟩ : ∃ j, k = j + 1 := ⟨k - 1, by omega⟩
      have hk1 : (((k + 1 : Nat) : Int) - 1) = (k : Int) := by omega
      rw [hk1]
      clear hk1 hp
      obtain ⟨x, hgx⟩ := get_of_lt (xs := xs) (i := k / 32) (by omega)
      obtain ⟨b, o, rfl, hbw, hcl⟩ := ((hx.below hbel).pos hgx)
      have hcell := hcl _ x hgx
      have hxb := lx.get hgx
      obtain ⟨bit, hbit⟩ : ∃ bit, bit = val xs / 2 ^ k % 2 := ⟨_, rfl⟩
      have hbx : bits .and .u32 ((x : Int) / 2 ^ (k % 32)) 1 = (bit : Int) := by
        have e : ((x : Int) / 2 ^ (k % 32)) = ((x / 2 ^ (k % 32) : Nat) : Int) := by simp
        rw [e, show (1 : Int) = ((1 : Nat) : Int) from rfl, u32_and_nat _ _ (Nat.lt_of_le_of_lt (Nat.div_le_self _ _) hxb) (by omega), Nat.and_one_is_mod, bit_at lx hgx, hbit]
      have hb1 : bit ≤ 1 := by omega
      have HB := Lib.hid hbit
      clear hcl hgx hbit
      have hrlB := Lib.hid (show 2 * val rs + bit < 4294967296 ^ rs.length by
        have h1 := hv.out.2
        have h2 := val_lt ly
        have h3 := Nat.mod_lt (val xs / 2 ^ (k + 1)) hYp
        rw [← h1] at h3
        rw [hrl.out, Nat.pow_succ]
        omega)
      go_wp2_with fail
      go_loopw [10, 11] (fun s10 s11 w3 => ∃ (j b : Nat) (ds : List Nat), s10 = .int .u32 (b : Int) ∧ s11 = .int .i64 (j : Int) ∧ j ≤ ys.length + 1 ∧ Hid (dblTo rs bit j = (ds, b)) ∧ Blk .u32 w3 gr ds ∧ Blk .u32 w3 gq qs ∧ Below w.heap.size w w3) (fun _ s11 _ => ys.length + 1 - (intOf s11).toNat)
      case atStart => exact ⟨0, bit, rs, rfl, rfl, Nat.zero_le _, rfl, hbr, hbq, hbel⟩
      case round =>
        clear hbr hbq hbel hcell hbx
        obtain ⟨j, b2, ds, rfl, rfl, hj, hd, hbr, hbq, hbel⟩ := hrel
        obtain ⟨d1, d2, d3, d4, d5⟩ := dblTo_ok lr hb1 j (by rw [hrl.out]; exact hj)
        rw [hd.out] at d1 d2 d3
        simp only at d1 d2 d3
        clear d4 d5
        by_cases hjl : j < ys.length + 1
        · obtain ⟨z, hgz⟩ := get_of_lt (xs := ds) (i := j) (by rw [d1, hrl.out]; exact hjl)
          have hzb := d2.get hgz
          have hcz := hbr.cell hgz
          have hfz := hbr.frozen hgz
          have hor := dbl_or z b2 d3
          have hstep := Lib.hid (dblTo_succ hd.out hgz)
          have HZ := Lib.hid hgz
          have hset := hbr.set hgz (2 * z % 4294967296 + b2)
          rw [show ((2 * z % 4294967296 + b2 : Nat) : Int) = 2 * (z : Int) % 4294967296 + (b2 : Int) by simp] at hset
          have HS := Lib.hid hset
          clear hgz d1 hset
          go_wp2_with fail
          go_roundw
          case rel => exact ⟨j + 1, z / 2147483648, _, by simp, by go_num, hjl, hstep, HS.out, hbq.far hqr _, hbel.setCell hrB _⟩
          case measure => simp [intOf]; omega
        · obtain rfl : j = ys.length + 1 := by omega
          have hval := dblTo_val lr hb1 (ds := ds) (c := b2) (by rw [hrl.out]; exact hd.out) hrlB.out
          obtain ⟨es, top, rfl⟩ : ∃ es top, ds = es ++ [top] := ⟨ds.dropLast, ds.getLast (by intro h; rw [h] at d1; simp at d1; have := hrl.out; omega), (List.dropLast_concat_getLast _).symm⟩
          have hel : es.length = ys.length := by have := hrl.out; simp at d1; omega
          have les : Lim 4294967296 es := fun z hz => d2 z (by simp [hz])
          have ltop : top < 4294967296 := d2 top (by simp)
          have hst := div_bit (X := val xs) (Y := val ys) (i := k) (R := val rs) (b := bit) hYp hv.out.2 HB.out
          rw [← hval] at hst
          have HST := Lib.hid hst
          have HVAL := Lib.hid hval
          have HEL := Lib.hid hel
          have hah := Lib.hid (ahead_any (some ⟨gr, 0, none⟩) B (ys.length + 1) ys.length (ys.length + 1) d es ys top wr (by rw [hel]) hel.symm hel (by omega) (Rd.of_all hbr) (hy.below hbel) les ltop ly)
          have HDL := Lib.hid d1
          clear hst hval hel d1 d3 hd hrlB
          by_cases hle : val ys ≤ val (es ++ [top])
          · rw [show decide (val ys ≤ val (es ++ [top])) = true by simpa using hle] at hah
            have HLE := Lib.hid hle
            clear hle
            go_wp2_with fail
            refine hah.out.mono ?_
            rintro e w4 ⟨rfl, q, rfl⟩
            have hbr4 := hbr.drewN q
            have hbq4 := hbq.drewN q
            have hbel4 := below_drewN hbel q
            clear hbr hbq hbel hah
            generalize wr.drewN q = w4 at *
            have HL2 := Lib.hid (show (es ++ [top]).length = ys.length + 1 by simp [HEL.out])
            clear HEL les ltop HDL HVAL
            generalize es ++ [top] = cs at *
            go_wp2_with fail
            go_loopw [13, 14] (fun s13 s14 w5 => ∃ (j b2 : Nat) (fs : List Nat), s13 = .int .u64 (b2 : Int) ∧ s14 = .int .i64 (j : Int) ∧ j ≤ ys.length + 1 ∧ Hid (takeTo cs 0 ys j = (fs, b2)) ∧ Blk .u32 w5 gr fs ∧ Blk .u32 w5 gq qs ∧ Below w.heap.size w w5) (fun _ s14 _ => ys.length + 1 - (intOf s14).toNat)
            case atStart => exact ⟨0, 0, cs, rfl, rfl, Nat.zero_le _, rfl, hbr4, hbq4, hbel4⟩
            case round =>
              clear hbr4 hbq4 hbel4
              obtain ⟨j, b3, fs, rfl, rfl, hj, hd, hbr, hbq, hbel⟩ := hrel
              have k1 := takeTo_borrow cs 0 ys j
              have k2 := takeTo_lim cs 0 ys j d2
              have k3 := takeTo_length cs 0 ys j
              rw [hd.out] at k1 k2 k3
              simp only at k1 k2 k3
              by_cases hjl : j < ys.length + 1
              · obtain ⟨z, hgz⟩ := get_of_lt (xs := fs) (i := j) (by rw [k3, HL2.out]; exact hjl)
                have hzb := k2.get hgz
                have hcz := hbr.cell hgz
                have hfz := hbr.frozen hgz
                have hyb := getD_lim ly (by omega) j
                have hstep := takeTo_succ rfl hd.out (by rw [Nat.zero_add]; exact hgz)
                rw [Nat.zero_add] at hstep
                have hay : Hid (∀ w', Rd .u32 w' B ys → Calls Try.prog 72 #[.slice B ys.length d, .int .i64 (j : Int)] w' (fun e w'' => e = .returned (.int .u64 ((ys.getD j 0 : Nat) : Int)) ∧ w'' = w')) := fun w' h => (at_any B _ d j ys w' rfl h ly).mono fun _ _ h => ⟨h.1, h.2.symm⟩
                generalize ys.getD j 0 = y at *
                obtain ⟨e1, e2⟩ := diff_mod hzb hyb k1
                obtain ⟨T, hT⟩ : ∃ T, T = z + 4294967296 - y - b3 := ⟨_, rfl⟩
                rw [← hT] at e1 e2
                have f1 : (z : Int) + 4294967296 - (y : Int) - (b3 : Int) = (T : Int) := by omega
                have f2 : (1 : Int) - (T : Int) / 4294967296 = (borrow32 z y b3 : Int) := by rw [← e2]; omega
                have hm := mask32 T (by omega)
                have hTl : T < 8589934592 := by omega
                have hb32 : borrow32 z y b3 ≤ 1 := by unfold borrow32; split <;> omega
                have hy5 := hy.below hbel
                have HZ := Lib.hid hgz
                have HQL := Lib.hid k3
                have HST2 := Lib.hid hstep
                have HE := Lib.hid e1
                clear hgz hstep e1 e2 hT k3
                go_wp2_with fail
                go_quiet ((go_at_call 72; exact Calls.quiet_of_same (hay.out _ (by first | exact hy5 | exact hy5.drewN _))))
                have hset := (hbr.drewN nq).set HZ.out (T % 4294967296)
                rw [show ((T % 4294967296 : Nat) : Int) = (T : Int) % 4294967296 by simp, HE.out] at hset
                have HS := Lib.hid hset
                have hbq6 := hbq.drewN nq
                have hbel6 := below_drewN hbel nq
                clear hset hay hbq hbel hbr hy5
                replace hcz : (wr.drewN nq).cell? ⟨gr, j, none⟩ = some (.int .u32 (z : Int)) := hcz
                replace hfz : (wr.drewN nq).frozen? ⟨gr, j, none⟩ = false := hfz
                generalize wr.drewN nq = w6 at *
                go_wp2_with fail
                go_roundw
                case rel => exact ⟨j + 1, borrow32 z y b3, _, rfl, by go_num, hjl, HST2.out, HS.out, hbq6.far hqr _, hbel6.setCell hrB _⟩
                case measure => simp [intOf]; omega
              · obtain rfl : j = ys.length + 1 := by omega
                obtain ⟨v1, v2⟩ := takeTo_sub (cs := cs) (ys := ys) (off := 0) (n := ys.length + 1) (by rw [HL2.out]; omega) d2 ly (by omega) (by rw [Nat.pow_zero, Nat.one_mul]; exact HLE.out)
                rw [hd.out, Nat.pow_zero, Nat.one_mul] at v2
                simp only at v2
                obtain ⟨g1, g2⟩ := HST.out.1 HLE.out
                obtain ⟨z, hgz⟩ := get_of_lt (xs := qs) (i := k / 32) (by have := hql.out; omega)
                have hzb := lq.get hgz
                obtain ⟨s1, s2, s3⟩ := set_bit lq hgz hv.out.1
                have hcz := hbq.cell hgz
                have hfz := hbq.frozen hgz
                have hset := hbq.set hgz (z + 2 ^ (k % 32))
                have HV2 := Lib.hid (show val (qs.set (k / 32) (z + 2 ^ (k % 32))) = val xs / 2 ^ k / val ys * 2 ^ k ∧ val fs = val xs / 2 ^ k % val ys from ⟨by rw [s3, g2, hv.out.1], by rw [v2, g1]⟩)
                have HQ2 := Lib.hid (show (qs.set (k / 32) (z + 2 ^ (k % 32))).length = xs.length by rw [List.length_set]; exact hql.out)
                have lq2 := lq.set (i := k / 32) s1
                have HFL := Lib.hid (show fs.length = ys.length + 1 by rw [k3, HL2.out])
                have hp32 : 2 ^ (k % 32) < 4294967296 := by omega
                have hor : bits .or .u32 (z : Int) ((2 : Int) ^ (k % 32) % 4294967296) = (z : Int) + 2 ^ (k % 32) := by
                  rw [show ((2 : Int) ^ (k % 32)) % 4294967296 = ((2 ^ (k % 32) % 4294967296 : Nat) : Int) by simp, Nat.mod_eq_of_lt hp32, u32_or_nat _ _ hzb hp32, s2]
                  simp
                have HSET := Lib.hid hset
                clear hgz v1 v2 g1 g2 s2 s3 hset k1 k3 hd hql hp32
                go_wp2_with fail
                go_region
                have hcast : ((z + 2 ^ (k % 32) : Nat) : Int) = (z : Int) + 2 ^ (k % 32) := by simp
                have h7 := HSET.out
                rw [hcast] at h7
                have hbq7 := h7.drew
                have hbr7 := (hbr.far (p := ⟨gq, k / 32, none⟩) (fun e => hqr e.symm) (.int .u32 ((z : Int) + 2 ^ (k % 32)))).drew
                have hbel7 := below_drewN (hbel.setCell (p := ⟨gq, k / 32, none⟩) hqB (.int .u32 ((z : Int) + 2 ^ (k % 32)))) 1
                clear h7 hcast
                clear HSET hbq hbr hbel hcz hfz
                go_wp2_with fail
                go_roundw
                case rel => exact ⟨k, _, fs, by go_num, by omega, hbq7, hbr7, HQ2, HFL, lq2, k2, HV2, hbel7⟩
                case measure => simp [intOf]
          · have h2 := HST.out.2 (by omega)
            rw [show decide (val ys ≤ val (es ++ [top])) = false by simpa using hle] at hah
            have HV2 := Lib.hid (show val qs = val xs / 2 ^ k / val ys * 2 ^ k ∧ val (es ++ [top]) = val xs / 2 ^ k % val ys from ⟨by rw [hv.out.1, h2.2], h2.1⟩)
            have HL2 := Lib.hid (show (es ++ [top]).length = ys.length + 1 by simp [HEL.out])
            clear h2 hle
            go_wp2_with fail
            refine hah.out.mono ?_
            rintro e w4 ⟨rfl, q, rfl⟩
            have hbr4 := hbr.drewN q
            have hbq4 := hbq.drewN q
            have hbel4 := below_drewN hbel q
            clear hbr hbq hbel hah
            generalize wr.drewN q = w4 at *
            go_wp2_with fail
            go_roundw
            case rel => exact ⟨k, qs, es ++ [top], by go_num, by omega, hbq4, hbr4, hql, HL2, lq, d2, HV2, hbel4⟩
            case measure => simp [intOf]
end Go.Proofs.Ytfclpieijbgodaa
