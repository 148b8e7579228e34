/-
  The walk of the statement MontPrimes: modulo four great primes every number to the power of the prime less 1 is 1.
-/
import Derived.Test.YtfclpieijbgodaaMonM
import Derived.Test.YtfclpieijbgodaaPri
namespace Go.Proofs.Ytfclpieijbgodaa
set_option linter.unusedVariables false
set_option linter.unusedSimpArgs false
open Go.RowKit

/-- n limbs, of which the lowest k bits are set. -/
def onesTo (n : Nat) : Nat → List Nat
  | 0 => List.replicate n 0
  | k + 1 => (onesTo n k).set (k / 32) ((onesTo n k).getD (k / 32) 0 ||| (2 ^ (k % 32) % 4294967296))
theorem onesTo_length (n k : Nat) : (onesTo n k).length = n := by
  induction k with
  | zero => simp [onesTo]
  | succ k ih => simp [onesTo, ih]
theorem onesTo_lim (n k : Nat) : Lim 4294967296 (onesTo n k) := by
  induction k with
  | zero => exact Lim.replicate (by omega)
  | succ k ih =>
    refine ih.set ?_
    exact Nat.or_lt_two_pow (n := 32) (getD_lim ih (by omega) _) (Nat.mod_lt _ (by omega))
theorem onesTo_succ {n k x : Nat} (hx : (onesTo n k)[k / 32]? = some x) : onesTo n (k + 1) = (onesTo n k).set (k / 32) (x ||| (2 ^ (k % 32) % 4294967296)) := by
  rw [onesTo, List.getD_eq_getElem?_getD, hx]
  rfl
theorem ones_step (x k : Nat) (hx : x < 4294967296) : bits .or .u32 (x : Int) ((2 : Int) ^ (k % 32) % 4294967296) = ((x ||| (2 ^ (k % 32) % 4294967296) : Nat) : Int) := by
  have e : ((2 : Int) ^ (k % 32) % 4294967296) = ((2 ^ (k % 32) % 4294967296 : Nat) : Int) := by simp
  rw [e]
  exact u32_or_nat _ _ hx (Nat.mod_lt _ (by omega))
structure PM (a n : Nat) (ms ls : List Nat) (x : Nat) : Prop where
  len : ms.length = n
  ones : onesTo n a = ms
  may : MayM ms
  pr : Pri.Pr (val ms)
  hd : ms[0]? = some (x + 1)
  less : ls = ms.set 0 x
  vl : val ls = val ms - 1
  right : isRight ls = true
  lim : Lim 4294967296 ls
theorem pm_of {a n : Nat} {M x : Nat} {ms ls : List Nat} (hl : ms.length = n) (h1 : onesTo n a = ms) (hm : mayB ms = true) (hp : Pri.Pr M) (hv : val ms = M) (hd : ms[0]? = some (x + 1)) (hs : ls = ms.set 0 x) (hvl : val ls = val ms - 1) (hr : isRight ls = true) : PM a n ms ls x := by
  have hM := mayB_out (h1 ▸ onesTo_lim n a) hm
  refine ⟨hl, h1, hM, hv ▸ hp, hd, hs, hvl, hr, ?_⟩
  rw [hs]
  exact hM.lm.set (by have := hM.lm.get hd; omega)
theorem pm31 : PM 31 1 [2147483647] [2147483646] 2147483646 := pm_of rfl (by decide +kernel) (by decide +kernel) Pri.prime31 (by decide +kernel) rfl rfl (by decide +kernel) (by decide +kernel)
theorem pm61 : PM 61 2 [4294967295, 536870911] [4294967294, 536870911] 4294967294 := pm_of rfl (by decide +kernel) (by decide +kernel) Pri.prime61 (by decide +kernel) rfl rfl (by decide +kernel) (by decide +kernel)
theorem pm127 : PM 127 4 [4294967295, 4294967295, 4294967295, 2147483647] [4294967294, 4294967295, 4294967295, 2147483647] 4294967294 := pm_of rfl (by decide +kernel) (by decide +kernel) Pri.prime127 (by decide +kernel) rfl rfl (by decide +kernel) (by decide +kernel)
theorem pm521 : PM 521 17 (List.replicate 16 4294967295 ++ [511]) ((List.replicate 16 4294967295 ++ [511]).set 0 4294967294) 4294967294 := pm_of rfl (by decide +kernel) (by decide +kernel) Pri.prime521 (by decide +kernel) rfl rfl (by decide +kernel) (by decide +kernel)
/-- Any of the four, told only by what is known of it. -/
theorem pm_hid {a n : Nat} {ms ls : List Nat} {x : Nat} (h : PM a n ms ls x) : ∃ ms ls x, PM a n ms ls x := ⟨_, _, _, h⟩
theorem expAny {ms : List Nat} (hM : MayM ms) {x : Nat} {es : List Nat} (hx : x < val ms) (le : Lim 4294967296 es) (re : isRight es = true) (B g : Nat) (X Y : Option Addr) (c d : Nat) (w : World) (hO : ModOk w B g ms) (h1 : Rd .u32 w X (limbs x)) (h2 : Rd .u32 w Y es) :
    Calls Try.prog 37 #[.pointer (some ⟨g, 0, none⟩), .slice X (limbs x).length c, .slice Y es.length d] w (Gives2 .u32 (limbs (x ^ val es % val ms)) 0 w) := by
  have h := mexp_any B g ms X Y _ _ c d (limbs x) es w hO hM rfl rfl (by have := limbs_in hM hx; omega) (by have := isRight_len re; omega) h1 h2 (limbs_lim _) le
  unfold expMOf at h
  rw [if_pos ⟨may_in hM hx, re⟩, val_limbs] at h
  exact h
set_option maxRecDepth 100000 in
set_option maxHeartbeats 1600000 in
theorem montPrimes0_any (A1 : Option Addr) (n1 c1 q : Nat) (xs : List Nat) (w : World) (hq : q < 256) (hqr : (q : Int) % 4 = 0) (hn : n1 = xs.length) (hl : n1 ≤ 300) (hc : n1 ≤ c1) (r1 : Rd .u32 w A1 xs) (lx : Lim 4294967296 xs) :
    Calls Try.prog 8 #[.int .u8 (q : Int), .slice A1 n1 c1] w (Yes w) := by
  subst hn
  obtain ⟨ms, ls, x, hPM⟩ := pm_hid pm31
  have hM := hPM.may
  have hpos : 0 < val ms := by have := hM.three; omega
  have hml := hPM.len
  obtain ⟨S, hS, hSE⟩ : ∃ S, S < val ms ∧ Hid (belowOf xs ms = limbs S) := ⟨_, Nat.mod_lt _ hpos, rfl⟩
  have hSl := limbs_in hM hS
  obtain ⟨ps, HP, hcase⟩ : ∃ ps, Hid (ps = limbs (S ^ val ls % val ms)) ∧ ((limbs S).length = 0 ∧ ps = [] ∨ 0 < (limbs S).length ∧ ps = [1]) := by
    refine ⟨_, rfl, ?_⟩
    rw [hPM.vl]
    rcases Nat.eq_zero_or_pos S with h0 | h0
    · left
      subst h0
      rw [Nat.zero_pow (by have := hM.three; omega), Nat.zero_mod]
      exact ⟨rfl, rfl⟩
    · right
      rw [Pri.fermat_less hPM.pr h0 hS]
      refine ⟨?_, rfl⟩
      rw [limbs_pos (by omega)]
      simp
  have HS : Hid (S ^ val ms % val ms = S) := by
    have h := Pri.fermat hPM.pr S
    rw [Nat.mod_eq_of_lt hS] at h
    exact h
  have hOnes := Lib.hid hPM.ones
  have hHd := Lib.hid hPM.hd
  have hLs := Lib.hid hPM.less
  have hx1 : x + 1 < 4294967296 := hM.lm.get hPM.hd
  have hE1 := Lib.hid (fun B g X Y c d w hO h1 h2 => expAny hM (es := ls) hS hPM.lim hPM.right B g X Y c d w hO h1 h2)
  have hE2 := Lib.hid (fun B g X Y c d w hO h1 h2 => expAny hM (es := ms) hS hM.lm hM.right B g X Y c d w hO h1 h2)
  rw [← HP.out] at hE1
  rw [HS.out] at hE2
  have hlsl : ls.length = 1 := by rw [hPM.less, List.length_set, hml]
  rw [hlsl] at hE1
  rw [hml] at hE2
  clear HP HS hPM
  go_enter Try.func8, Try.ntmps8
  go_wp2_with (at_make; refine wpList_make_ints _ rfl _ _ _ rfl .u32 33 4 Try.underlying22 info_u32 _ _ 1 _ _ rfl rfl (by omega) (by omega) (by omega) (by omega) ?_; intro g w1 hg hw1 hs1 hb1)
  have hgl : w.heap.size ≤ g := by rw [hg.out]; simp
  have hbe1 : Below w.heap.size w w1 := ((Below.refl _ _).alloc (Nat.le_refl _) _).trans (hb1.mono (by simp))
  clear hb1 hg hs1
  go_loopw [7] (fun t wr => ∃ k : Nat, t = .int .i64 (k : Int) ∧ k ≤ 31 ∧ Blk .u32 wr g (onesTo 1 k) ∧ Below w.heap.size w wr) (fun t _ => 31 - (intOf t).toNat)
  case atStart => exact ⟨0, rfl, Nat.zero_le _, hw1.blk, hbe1⟩
  case round =>
    clear hw1 hbe1
    obtain ⟨k, rfl, hk, hbr, hbel⟩ := hrel
    by_cases hlt : k < 31
    · have hdl : k / 32 < (onesTo 1 k).length := by rw [onesTo_length]; omega
      obtain ⟨y, hgx⟩ := get_of_lt hdl
      have hcx := hbr.cell hgx
      have hfx := hbr.frozen hgx
      have hyb := (onesTo_lim 1 k).get hgx
      have HO := Lib.hid (onesTo_succ hgx)
      have HX := Lib.hid hgx
      clear hgx hdl
      go_wp2
      go_region
      go_wp2
      go_roundw
      case rel =>
        refine ⟨k + 1, by go_num, by omega, ?_, ?_⟩
        · rw [HO.out, ones_step y k hyb]
          exact (hbr.set HX.out _).drew
        · exact (hbel.setCell hgl _).drew
      case measure => simp [intOf] <;> omega
    · obtain rfl : k = 31 := by omega
      rw [hOnes.out] at hbr
      have hbl := hbr.lt
      clear hOnes
      go_wp2_with fail
      refine (newYes_any _ _ 1 ms wr hml.symm (Rd.of_all hbr) hM).mono ?_
      rintro e w2 ⟨gk, rfl, hO, hb2⟩
      have hbr2 := hbr.below hb2
      have hbel2 := hbel.trans (hb2.mono hbel.size)
      clear hbr hbel hb2
      generalize wr.heap.size = B0 at hO
      go_wp2_with fail
      refine (below5_any A1 (some ⟨g, 0, none⟩) _ _ c1 1 xs ms w2 rfl hml.symm (by omega) hc (r1.below hbel2) (Rd.of_all hbr2) lx hM).mono ?_
      rintro e w3 ⟨A3, c3, rfl, _, _, hoS, hb3⟩
      rw [hSE.out] at hoS ⊢
      go_wp2_with fail
      refine (twin5_any (some ⟨g, 0, none⟩) _ 1 ms w3 hml.symm (by omega) (Rd.of_all (hbr2.below hb3))).mono ?_
      rintro e w4 ⟨gl, cl, rfl, hgn, hbt, hcl1, hcl2, hb4⟩
      rw [hml]
      have hgL := hbt.lt
      have hq1 : w4.cell? ⟨gl, 0, none⟩ = some (.int .u32 ((x : Int) + 1)) := by simpa using hbt.cell hHd.out
      have hq2 := hbt.frozen hHd.out
      have hbt2 := hbt.set hHd.out x
      rw [← hLs.out] at hbt2
      have hb5 := hb4.setCell (p := ⟨gl, 0, none⟩) hgn (.int .u32 (x : Int))
      clear hbt hb4
      go_wp2_with fail
      clear hq1 hq2
      generalize w4.setCell ⟨gl, 0, none⟩ (.int .u32 (x : Int)) = w5 at *
      have hb0 := hb3.trans (hb5.mono hb3.size)
      have hOw := (Owns.nil w5 w2.heap.size).put (hoS.below hb5)
      have hO5 := hO.below hb0
      have hbr5 := hbr2.below hb0
      clear hoS hO hbr2 hb3 hb5
      refine (hE1.out B0 gk A3 (some ⟨gl, 0, none⟩) c3 cl w5 hO5 (hOw.rd 0 rfl) (Rd.of_all hbt2)).mono ?_
      rintro e w6 ⟨A6, c6, rfl, hc6, hm6, ho, hb⟩
      replace hOw := hOw.add hb ho hb0.size
      have hO6 := hO5.below hb
      have hbr6 := hbr5.below hb
      replace hb0 := hb0.trans (hb.mono hb0.size)
      clear hb ho hbt2 hO5 hbr5
      go_wp2_with fail
      refine (hE2.out B0 gk A3 (some ⟨g, 0, none⟩) c3 1 w6 hO6 (hOw.rd 0 rfl) (Rd.of_all hbr6)).mono ?_
      rintro e w7 ⟨A7, c7, rfl, _, _, ho, hb⟩
      replace hOw := hOw.add hb ho hb0.size
      replace hb0 := hb0.trans (hb.mono hb0.size)
      clear hb ho hO6 hbr6
      simp only [List.nil_append, List.cons_append] at hOw
      go_wp2_with fail
      refine (same_any A7 A3 _ _ c7 c3 (limbs S) (limbs S) w7 rfl rfl (by omega) (by omega) (hOw.rd 2 rfl) (hOw.rd 0 rfl)).mono ?_
      rintro e w' ⟨rfl, q', rfl⟩
      rw [show decide (limbs S = limbs S) = true by simp]
      replace hOw := hOw.drewN q'
      replace hb0 := below_drewN hb0 q'
      generalize w7.drewN q' = w8 at *
      rcases hcase with ⟨hz, rfl⟩ | ⟨hz, rfl⟩
      · go_wp2_with fail
        refine (works5_any _).mono ?_
        rintro e w25 ⟨rfl, hbz⟩
        go_wp2_with fail
        go_ret
        exact ⟨rfl, hbel2.trans ((hb0.trans (hbz.mono hb0.size)).mono hbel2.size)⟩
      · go_wp2_with fail
        refine (same_any A6 _ 1 1 c6 1 [1] [1] _ rfl rfl (by omega) (by omega) ((hOw.rd 1 rfl).alloc _) (rd_lit w8 1 #[.int .u32 1] rfl)).mono ?_
        rintro e w' ⟨rfl, q'', rfl⟩
        replace hb0 := below_drewN (hb0.alloc hb0.size (.cells #[.int .u32 1] 33)) q''
        rw [show decide ([1] = [1]) = true by decide]
        go_wp2_with fail
        refine (works5_any _).mono ?_
        rintro e w25 ⟨rfl, hbz⟩
        go_wp2_with fail
        go_ret
        exact ⟨rfl, hbel2.trans ((hb0.trans (hbz.mono hb0.size)).mono hbel2.size)⟩
set_option maxRecDepth 100000 in
set_option maxHeartbeats 1600000 in
theorem montPrimes1_any (A1 : Option Addr) (n1 c1 q : Nat) (xs : List Nat) (w : World) (hq : q < 256) (hqr : (q : Int) % 4 = 1) (hn : n1 = xs.length) (hl : n1 ≤ 300) (hc : n1 ≤ c1) (r1 : Rd .u32 w A1 xs) (lx : Lim 4294967296 xs) :
    Calls Try.prog 8 #[.int .u8 (q : Int), .slice A1 n1 c1] w (Yes w) := by
  subst hn
  obtain ⟨ms, ls, x, hPM⟩ := pm_hid pm61
  have hM := hPM.may
  have hpos : 0 < val ms := by have := hM.three; omega
  have hml := hPM.len
  obtain ⟨S, hS, hSE⟩ : ∃ S, S < val ms ∧ Hid (belowOf xs ms = limbs S) := ⟨_, Nat.mod_lt _ hpos, rfl⟩
  have hSl := limbs_in hM hS
  obtain ⟨ps, HP, hcase⟩ : ∃ ps, Hid (ps = limbs (S ^ val ls % val ms)) ∧ ((limbs S).length = 0 ∧ ps = [] ∨ 0 < (limbs S).length ∧ ps = [1]) := by
    refine ⟨_, rfl, ?_⟩
    rw [hPM.vl]
    rcases Nat.eq_zero_or_pos S with h0 | h0
    · left
      subst h0
      rw [Nat.zero_pow (by have := hM.three; omega), Nat.zero_mod]
      exact ⟨rfl, rfl⟩
    · right
      rw [Pri.fermat_less hPM.pr h0 hS]
      refine ⟨?_, rfl⟩
      rw [limbs_pos (by omega)]
      simp
  have HS : Hid (S ^ val ms % val ms = S) := by
    have h := Pri.fermat hPM.pr S
    rw [Nat.mod_eq_of_lt hS] at h
    exact h
  have hOnes := Lib.hid hPM.ones
  have hHd := Lib.hid hPM.hd
  have hLs := Lib.hid hPM.less
  have hx1 : x + 1 < 4294967296 := hM.lm.get hPM.hd
  have hE1 := Lib.hid (fun B g X Y c d w hO h1 h2 => expAny hM (es := ls) hS hPM.lim hPM.right B g X Y c d w hO h1 h2)
  have hE2 := Lib.hid (fun B g X Y c d w hO h1 h2 => expAny hM (es := ms) hS hM.lm hM.right B g X Y c d w hO h1 h2)
  rw [← HP.out] at hE1
  rw [HS.out] at hE2
  have hlsl : ls.length = 2 := by rw [hPM.less, List.length_set, hml]
  rw [hlsl] at hE1
  rw [hml] at hE2
  clear HP HS hPM
  go_enter Try.func8, Try.ntmps8
  go_wp2_with (at_make; refine wpList_make_ints _ rfl _ _ _ rfl .u32 33 4 Try.underlying22 info_u32 _ _ 2 _ _ rfl rfl (by omega) (by omega) (by omega) (by omega) ?_; intro g w1 hg hw1 hs1 hb1)
  have hgl : w.heap.size ≤ g := by rw [hg.out]; simp
  have hbe1 : Below w.heap.size w w1 := ((Below.refl _ _).alloc (Nat.le_refl _) _).trans (hb1.mono (by simp))
  clear hb1 hg hs1
  go_loopw [7] (fun t wr => ∃ k : Nat, t = .int .i64 (k : Int) ∧ k ≤ 61 ∧ Blk .u32 wr g (onesTo 2 k) ∧ Below w.heap.size w wr) (fun t _ => 61 - (intOf t).toNat)
  case atStart => exact ⟨0, rfl, Nat.zero_le _, hw1.blk, hbe1⟩
  case round =>
    clear hw1 hbe1
    obtain ⟨k, rfl, hk, hbr, hbel⟩ := hrel
    by_cases hlt : k < 61
    · have hdl : k / 32 < (onesTo 2 k).length := by rw [onesTo_length]; omega
      obtain ⟨y, hgx⟩ := get_of_lt hdl
      have hcx := hbr.cell hgx
      have hfx := hbr.frozen hgx
      have hyb := (onesTo_lim 2 k).get hgx
      have HO := Lib.hid (onesTo_succ hgx)
      have HX := Lib.hid hgx
      clear hgx hdl
      go_wp2
      go_region
      go_wp2
      go_roundw
      case rel =>
        refine ⟨k + 1, by go_num, by omega, ?_, ?_⟩
        · rw [HO.out, ones_step y k hyb]
          exact (hbr.set HX.out _).drew
        · exact (hbel.setCell hgl _).drew
      case measure => simp [intOf] <;> omega
    · obtain rfl : k = 61 := by omega
      rw [hOnes.out] at hbr
      have hbl := hbr.lt
      clear hOnes
      go_wp2_with fail
      refine (newYes_any _ _ 2 ms wr hml.symm (Rd.of_all hbr) hM).mono ?_
      rintro e w2 ⟨gk, rfl, hO, hb2⟩
      have hbr2 := hbr.below hb2
      have hbel2 := hbel.trans (hb2.mono hbel.size)
      clear hbr hbel hb2
      generalize wr.heap.size = B0 at hO
      go_wp2_with fail
      refine (below5_any A1 (some ⟨g, 0, none⟩) _ _ c1 2 xs ms w2 rfl hml.symm (by omega) hc (r1.below hbel2) (Rd.of_all hbr2) lx hM).mono ?_
      rintro e w3 ⟨A3, c3, rfl, _, _, hoS, hb3⟩
      rw [hSE.out] at hoS ⊢
      go_wp2_with fail
      refine (twin5_any (some ⟨g, 0, none⟩) _ 2 ms w3 hml.symm (by omega) (Rd.of_all (hbr2.below hb3))).mono ?_
      rintro e w4 ⟨gl, cl, rfl, hgn, hbt, hcl1, hcl2, hb4⟩
      rw [hml]
      have hgL := hbt.lt
      have hq1 : w4.cell? ⟨gl, 0, none⟩ = some (.int .u32 ((x : Int) + 1)) := by simpa using hbt.cell hHd.out
      have hq2 := hbt.frozen hHd.out
      have hbt2 := hbt.set hHd.out x
      rw [← hLs.out] at hbt2
      have hb5 := hb4.setCell (p := ⟨gl, 0, none⟩) hgn (.int .u32 (x : Int))
      clear hbt hb4
      go_wp2_with fail
      clear hq1 hq2
      generalize w4.setCell ⟨gl, 0, none⟩ (.int .u32 (x : Int)) = w5 at *
      have hb0 := hb3.trans (hb5.mono hb3.size)
      have hOw := (Owns.nil w5 w2.heap.size).put (hoS.below hb5)
      have hO5 := hO.below hb0
      have hbr5 := hbr2.below hb0
      clear hoS hO hbr2 hb3 hb5
      refine (hE1.out B0 gk A3 (some ⟨gl, 0, none⟩) c3 cl w5 hO5 (hOw.rd 0 rfl) (Rd.of_all hbt2)).mono ?_
      rintro e w6 ⟨A6, c6, rfl, hc6, hm6, ho, hb⟩
      replace hOw := hOw.add hb ho hb0.size
      have hO6 := hO5.below hb
      have hbr6 := hbr5.below hb
      replace hb0 := hb0.trans (hb.mono hb0.size)
      clear hb ho hbt2 hO5 hbr5
      go_wp2_with fail
      refine (hE2.out B0 gk A3 (some ⟨g, 0, none⟩) c3 2 w6 hO6 (hOw.rd 0 rfl) (Rd.of_all hbr6)).mono ?_
      rintro e w7 ⟨A7, c7, rfl, _, _, ho, hb⟩
      replace hOw := hOw.add hb ho hb0.size
      replace hb0 := hb0.trans (hb.mono hb0.size)
      clear hb ho hO6 hbr6
      simp only [List.nil_append, List.cons_append] at hOw
      go_wp2_with fail
      refine (same_any A7 A3 _ _ c7 c3 (limbs S) (limbs S) w7 rfl rfl (by omega) (by omega) (hOw.rd 2 rfl) (hOw.rd 0 rfl)).mono ?_
      rintro e w' ⟨rfl, q', rfl⟩
      rw [show decide (limbs S = limbs S) = true by simp]
      replace hOw := hOw.drewN q'
      replace hb0 := below_drewN hb0 q'
      generalize w7.drewN q' = w8 at *
      rcases hcase with ⟨hz, rfl⟩ | ⟨hz, rfl⟩
      · go_wp2_with fail
        refine (works5_any _).mono ?_
        rintro e w25 ⟨rfl, hbz⟩
        go_wp2_with fail
        go_ret
        exact ⟨rfl, hbel2.trans ((hb0.trans (hbz.mono hb0.size)).mono hbel2.size)⟩
      · go_wp2_with fail
        refine (same_any A6 _ 1 1 c6 1 [1] [1] _ rfl rfl (by omega) (by omega) ((hOw.rd 1 rfl).alloc _) (rd_lit w8 1 #[.int .u32 1] rfl)).mono ?_
        rintro e w' ⟨rfl, q'', rfl⟩
        replace hb0 := below_drewN (hb0.alloc hb0.size (.cells #[.int .u32 1] 33)) q''
        rw [show decide ([1] = [1]) = true by decide]
        go_wp2_with fail
        refine (works5_any _).mono ?_
        rintro e w25 ⟨rfl, hbz⟩
        go_wp2_with fail
        go_ret
        exact ⟨rfl, hbel2.trans ((hb0.trans (hbz.mono hb0.size)).mono hbel2.size)⟩
set_option maxRecDepth 100000 in
set_option maxHeartbeats 1600000 in
theorem montPrimes2_any (A1 : Option Addr) (n1 c1 q : Nat) (xs : List Nat) (w : World) (hq : q < 256) (hqr : (q : Int) % 4 = 2) (hn : n1 = xs.length) (hl : n1 ≤ 300) (hc : n1 ≤ c1) (r1 : Rd .u32 w A1 xs) (lx : Lim 4294967296 xs) :
    Calls Try.prog 8 #[.int .u8 (q : Int), .slice A1 n1 c1] w (Yes w) := by
  subst hn
  obtain ⟨ms, ls, x, hPM⟩ := pm_hid pm127
  have hM := hPM.may
  have hpos : 0 < val ms := by have := hM.three; omega
  have hml := hPM.len
  obtain ⟨S, hS, hSE⟩ : ∃ S, S < val ms ∧ Hid (belowOf xs ms = limbs S) := ⟨_, Nat.mod_lt _ hpos, rfl⟩
  have hSl := limbs_in hM hS
  obtain ⟨ps, HP, hcase⟩ : ∃ ps, Hid (ps = limbs (S ^ val ls % val ms)) ∧ ((limbs S).length = 0 ∧ ps = [] ∨ 0 < (limbs S).length ∧ ps = [1]) := by
    refine ⟨_, rfl, ?_⟩
    rw [hPM.vl]
    rcases Nat.eq_zero_or_pos S with h0 | h0
    · left
      subst h0
      rw [Nat.zero_pow (by have := hM.three; omega), Nat.zero_mod]
      exact ⟨rfl, rfl⟩
    · right
      rw [Pri.fermat_less hPM.pr h0 hS]
      refine ⟨?_, rfl⟩
      rw [limbs_pos (by omega)]
      simp
  have HS : Hid (S ^ val ms % val ms = S) := by
    have h := Pri.fermat hPM.pr S
    rw [Nat.mod_eq_of_lt hS] at h
    exact h
  have hOnes := Lib.hid hPM.ones
  have hHd := Lib.hid hPM.hd
  have hLs := Lib.hid hPM.less
  have hx1 : x + 1 < 4294967296 := hM.lm.get hPM.hd
  have hE1 := Lib.hid (fun B g X Y c d w hO h1 h2 => expAny hM (es := ls) hS hPM.lim hPM.right B g X Y c d w hO h1 h2)
  have hE2 := Lib.hid (fun B g X Y c d w hO h1 h2 => expAny hM (es := ms) hS hM.lm hM.right B g X Y c d w hO h1 h2)
  rw [← HP.out] at hE1
  rw [HS.out] at hE2
  have hlsl : ls.length = 4 := by rw [hPM.less, List.length_set, hml]
  rw [hlsl] at hE1
  rw [hml] at hE2
  clear HP HS hPM
  go_enter Try.func8, Try.ntmps8
  go_wp2_with (at_make; refine wpList_make_ints _ rfl _ _ _ rfl .u32 33 4 Try.underlying22 info_u32 _ _ 4 _ _ rfl rfl (by omega) (by omega) (by omega) (by omega) ?_; intro g w1 hg hw1 hs1 hb1)
  have hgl : w.heap.size ≤ g := by rw [hg.out]; simp
  have hbe1 : Below w.heap.size w w1 := ((Below.refl _ _).alloc (Nat.le_refl _) _).trans (hb1.mono (by simp))
  clear hb1 hg hs1
  go_loopw [7] (fun t wr => ∃ k : Nat, t = .int .i64 (k : Int) ∧ k ≤ 127 ∧ Blk .u32 wr g (onesTo 4 k) ∧ Below w.heap.size w wr) (fun t _ => 127 - (intOf t).toNat)
  case atStart => exact ⟨0, rfl, Nat.zero_le _, hw1.blk, hbe1⟩
  case round =>
    clear hw1 hbe1
    obtain ⟨k, rfl, hk, hbr, hbel⟩ := hrel
    by_cases hlt : k < 127
    · have hdl : k / 32 < (onesTo 4 k).length := by rw [onesTo_length]; omega
      obtain ⟨y, hgx⟩ := get_of_lt hdl
      have hcx := hbr.cell hgx
      have hfx := hbr.frozen hgx
      have hyb := (onesTo_lim 4 k).get hgx
      have HO := Lib.hid (onesTo_succ hgx)
      have HX := Lib.hid hgx
      clear hgx hdl
      go_wp2
      go_region
      go_wp2
      go_roundw
      case rel =>
        refine ⟨k + 1, by go_num, by omega, ?_, ?_⟩
        · rw [HO.out, ones_step y k hyb]
          exact (hbr.set HX.out _).drew
        · exact (hbel.setCell hgl _).drew
      case measure => simp [intOf] <;> omega
    · obtain rfl : k = 127 := by omega
      rw [hOnes.out] at hbr
      have hbl := hbr.lt
      clear hOnes
      go_wp2_with fail
      refine (newYes_any _ _ 4 ms wr hml.symm (Rd.of_all hbr) hM).mono ?_
      rintro e w2 ⟨gk, rfl, hO, hb2⟩
      have hbr2 := hbr.below hb2
      have hbel2 := hbel.trans (hb2.mono hbel.size)
      clear hbr hbel hb2
      generalize wr.heap.size = B0 at hO
      go_wp2_with fail
      refine (below5_any A1 (some ⟨g, 0, none⟩) _ _ c1 4 xs ms w2 rfl hml.symm (by omega) hc (r1.below hbel2) (Rd.of_all hbr2) lx hM).mono ?_
      rintro e w3 ⟨A3, c3, rfl, _, _, hoS, hb3⟩
      rw [hSE.out] at hoS ⊢
      go_wp2_with fail
      refine (twin5_any (some ⟨g, 0, none⟩) _ 4 ms w3 hml.symm (by omega) (Rd.of_all (hbr2.below hb3))).mono ?_
      rintro e w4 ⟨gl, cl, rfl, hgn, hbt, hcl1, hcl2, hb4⟩
      rw [hml]
      have hgL := hbt.lt
      have hq1 : w4.cell? ⟨gl, 0, none⟩ = some (.int .u32 ((x : Int) + 1)) := by simpa using hbt.cell hHd.out
      have hq2 := hbt.frozen hHd.out
      have hbt2 := hbt.set hHd.out x
      rw [← hLs.out] at hbt2
      have hb5 := hb4.setCell (p := ⟨gl, 0, none⟩) hgn (.int .u32 (x : Int))
      clear hbt hb4
      go_wp2_with fail
      clear hq1 hq2
      generalize w4.setCell ⟨gl, 0, none⟩ (.int .u32 (x : Int)) = w5 at *
      have hb0 := hb3.trans (hb5.mono hb3.size)
      have hOw := (Owns.nil w5 w2.heap.size).put (hoS.below hb5)
      have hO5 := hO.below hb0
      have hbr5 := hbr2.below hb0
      clear hoS hO hbr2 hb3 hb5
      refine (hE1.out B0 gk A3 (some ⟨gl, 0, none⟩) c3 cl w5 hO5 (hOw.rd 0 rfl) (Rd.of_all hbt2)).mono ?_
      rintro e w6 ⟨A6, c6, rfl, hc6, hm6, ho, hb⟩
      replace hOw := hOw.add hb ho hb0.size
      have hO6 := hO5.below hb
      have hbr6 := hbr5.below hb
      replace hb0 := hb0.trans (hb.mono hb0.size)
      clear hb ho hbt2 hO5 hbr5
      go_wp2_with fail
      refine (hE2.out B0 gk A3 (some ⟨g, 0, none⟩) c3 4 w6 hO6 (hOw.rd 0 rfl) (Rd.of_all hbr6)).mono ?_
      rintro e w7 ⟨A7, c7, rfl, _, _, ho, hb⟩
      replace hOw := hOw.add hb ho hb0.size
      replace hb0 := hb0.trans (hb.mono hb0.size)
      clear hb ho hO6 hbr6
      simp only [List.nil_append, List.cons_append] at hOw
      go_wp2_with fail
      refine (same_any A7 A3 _ _ c7 c3 (limbs S) (limbs S) w7 rfl rfl (by omega) (by omega) (hOw.rd 2 rfl) (hOw.rd 0 rfl)).mono ?_
      rintro e w' ⟨rfl, q', rfl⟩
      rw [show decide (limbs S = limbs S) = true by simp]
      replace hOw := hOw.drewN q'
      replace hb0 := below_drewN hb0 q'
      generalize w7.drewN q' = w8 at *
      rcases hcase with ⟨hz, rfl⟩ | ⟨hz, rfl⟩
      · go_wp2_with fail
        refine (works5_any _).mono ?_
        rintro e w25 ⟨rfl, hbz⟩
        go_wp2_with fail
        go_ret
        exact ⟨rfl, hbel2.trans ((hb0.trans (hbz.mono hb0.size)).mono hbel2.size)⟩
      · go_wp2_with fail
        refine (same_any A6 _ 1 1 c6 1 [1] [1] _ rfl rfl (by omega) (by omega) ((hOw.rd 1 rfl).alloc _) (rd_lit w8 1 #[.int .u32 1] rfl)).mono ?_
        rintro e w' ⟨rfl, q'', rfl⟩
        replace hb0 := below_drewN (hb0.alloc hb0.size (.cells #[.int .u32 1] 33)) q''
        rw [show decide ([1] = [1]) = true by decide]
        go_wp2_with fail
        refine (works5_any _).mono ?_
        rintro e w25 ⟨rfl, hbz⟩
        go_wp2_with fail
        go_ret
        exact ⟨rfl, hbel2.trans ((hb0.trans (hbz.mono hb0.size)).mono hbel2.size)⟩
set_option maxRecDepth 100000 in
set_option maxHeartbeats 1600000 in
theorem montPrimes3_any (A1 : Option Addr) (n1 c1 q : Nat) (xs : List Nat) (w : World) (hq : q < 256) (hqr : (q : Int) % 4 = 3) (hn : n1 = xs.length) (hl : n1 ≤ 300) (hc : n1 ≤ c1) (r1 : Rd .u32 w A1 xs) (lx : Lim 4294967296 xs) :
    Calls Try.prog 8 #[.int .u8 (q : Int), .slice A1 n1 c1] w (Yes w) := by
  subst hn
  obtain ⟨ms, ls, x, hPM⟩ := pm_hid pm521
  have hM := hPM.may
  have hpos : 0 < val ms := by have := hM.three; omega
  have hml := hPM.len
  obtain ⟨S, hS, hSE⟩ : ∃ S, S < val ms ∧ Hid (belowOf xs ms = limbs S) := ⟨_, Nat.mod_lt _ hpos, rfl⟩
  have hSl := limbs_in hM hS
  obtain ⟨ps, HP, hcase⟩ : ∃ ps, Hid (ps = limbs (S ^ val ls % val ms)) ∧ ((limbs S).length = 0 ∧ ps = [] ∨ 0 < (limbs S).length ∧ ps = [1]) := by
    refine ⟨_, rfl, ?_⟩
    rw [hPM.vl]
    rcases Nat.eq_zero_or_pos S with h0 | h0
    · left
      subst h0
      rw [Nat.zero_pow (by have := hM.three; omega), Nat.zero_mod]
      exact ⟨rfl, rfl⟩
    · right
      rw [Pri.fermat_less hPM.pr h0 hS]
      refine ⟨?_, rfl⟩
      rw [limbs_pos (by omega)]
      simp
  have HS : Hid (S ^ val ms % val ms = S) := by
    have h := Pri.fermat hPM.pr S
    rw [Nat.mod_eq_of_lt hS] at h
    exact h
  have hOnes := Lib.hid hPM.ones
  have hHd := Lib.hid hPM.hd
  have hLs := Lib.hid hPM.less
  have hx1 : x + 1 < 4294967296 := hM.lm.get hPM.hd
  have hE1 := Lib.hid (fun B g X Y c d w hO h1 h2 => expAny hM (es := ls) hS hPM.lim hPM.right B g X Y c d w hO h1 h2)
  have hE2 := Lib.hid (fun B g X Y c d w hO h1 h2 => expAny hM (es := ms) hS hM.lm hM.right B g X Y c d w hO h1 h2)
  rw [← HP.out] at hE1
  rw [HS.out] at hE2
  have hlsl : ls.length = 17 := by rw [hPM.less, List.length_set, hml]
  rw [hlsl] at hE1
  rw [hml] at hE2
  clear HP HS hPM
  go_enter Try.func8, Try.ntmps8
  go_wp2_with (at_make; refine wpList_make_ints _ rfl _ _ _ rfl .u32 33 4 Try.underlying22 info_u32 _ _ 17 _ _ rfl rfl (by omega) (by omega) (by omega) (by omega) ?_; intro g w1 hg hw1 hs1 hb1)
  have hgl : w.heap.size ≤ g := by rw [hg.out]; simp
  have hbe1 : Below w.heap.size w w1 := ((Below.refl _ _).alloc (Nat.le_refl _) _).trans (hb1.mono (by simp))
  clear hb1 hg hs1
  go_loopw [7] (fun t wr => ∃ k : Nat, t = .int .i64 (k : Int) ∧ k ≤ 521 ∧ Blk .u32 wr g (onesTo 17 k) ∧ Below w.heap.size w wr) (fun t _ => 521 - (intOf t).toNat)
  case atStart => exact ⟨0, rfl, Nat.zero_le _, hw1.blk, hbe1⟩
  case round =>
    clear hw1 hbe1
    obtain ⟨k, rfl, hk, hbr, hbel⟩ := hrel
    by_cases hlt : k < 521
    · have hdl : k / 32 < (onesTo 17 k).length := by rw [onesTo_length]; omega
      obtain ⟨y, hgx⟩ := get_of_lt hdl
      have hcx := hbr.cell hgx
      have hfx := hbr.frozen hgx
      have hyb := (onesTo_lim 17 k).get hgx
      have HO := Lib.hid (onesTo_succ hgx)
      have HX := Lib.hid hgx
      clear hgx hdl
      go_wp2
      go_region
      go_wp2
      go_roundw
      case rel =>
        refine ⟨k + 1, by go_num, by omega, ?_, ?_⟩
        · rw [HO.out, ones_step y k hyb]
          exact (hbr.set HX.out _).drew
        · exact (hbel.setCell hgl _).drew
      case measure => simp [intOf] <;> omega
    · obtain rfl : k = 521 := by omega
      rw [hOnes.out] at hbr
      have hbl := hbr.lt
      clear hOnes
      go_wp2_with fail
      refine (newYes_any _ _ 17 ms wr hml.symm (Rd.of_all hbr) hM).mono ?_
      rintro e w2 ⟨gk, rfl, hO, hb2⟩
      have hbr2 := hbr.below hb2
      have hbel2 := hbel.trans (hb2.mono hbel.size)
      clear hbr hbel hb2
      generalize wr.heap.size = B0 at hO
      go_wp2_with fail
      refine (below5_any A1 (some ⟨g, 0, none⟩) _ _ c1 17 xs ms w2 rfl hml.symm (by omega) hc (r1.below hbel2) (Rd.of_all hbr2) lx hM).mono ?_
      rintro e w3 ⟨A3, c3, rfl, _, _, hoS, hb3⟩
      rw [hSE.out] at hoS ⊢
      go_wp2_with fail
      refine (twin5_any (some ⟨g, 0, none⟩) _ 17 ms w3 hml.symm (by omega) (Rd.of_all (hbr2.below hb3))).mono ?_
      rintro e w4 ⟨gl, cl, rfl, hgn, hbt, hcl1, hcl2, hb4⟩
      rw [hml]
      have hgL := hbt.lt
      have hq1 : w4.cell? ⟨gl, 0, none⟩ = some (.int .u32 ((x : Int) + 1)) := by simpa using hbt.cell hHd.out
      have hq2 := hbt.frozen hHd.out
      have hbt2 := hbt.set hHd.out x
      rw [← hLs.out] at hbt2
      have hb5 := hb4.setCell (p := ⟨gl, 0, none⟩) hgn (.int .u32 (x : Int))
      clear hbt hb4
      go_wp2_with fail
      clear hq1 hq2
      generalize w4.setCell ⟨gl, 0, none⟩ (.int .u32 (x : Int)) = w5 at *
      have hb0 := hb3.trans (hb5.mono hb3.size)
      have hOw := (Owns.nil w5 w2.heap.size).put (hoS.below hb5)
      have hO5 := hO.below hb0
      have hbr5 := hbr2.below hb0
      clear hoS hO hbr2 hb3 hb5
      refine (hE1.out B0 gk A3 (some ⟨gl, 0, none⟩) c3 cl w5 hO5 (hOw.rd 0 rfl) (Rd.of_all hbt2)).mono ?_
      rintro e w6 ⟨A6, c6, rfl, hc6, hm6, ho, hb⟩
      replace hOw := hOw.add hb ho hb0.size
      have hO6 := hO5.below hb
      have hbr6 := hbr5.below hb
      replace hb0 := hb0.trans (hb.mono hb0.size)
      clear hb ho hbt2 hO5 hbr5
      go_wp2_with fail
      refine (hE2.out B0 gk A3 (some ⟨g, 0, none⟩) c3 17 w6 hO6 (hOw.rd 0 rfl) (Rd.of_all hbr6)).mono ?_
      rintro e w7 ⟨A7, c7, rfl, _, _, ho, hb⟩
      replace hOw := hOw.add hb ho hb0.size
      replace hb0 := hb0.trans (hb.mono hb0.size)
      clear hb ho hO6 hbr6
      simp only [List.nil_append, List.cons_append] at hOw
      go_wp2_with fail
      refine (same_any A7 A3 _ _ c7 c3 (limbs S) (limbs S) w7 rfl rfl (by omega) (by omega) (hOw.rd 2 rfl) (hOw.rd 0 rfl)).mono ?_
      rintro e w' ⟨rfl, q', rfl⟩
      rw [show decide (limbs S = limbs S) = true by simp]
      replace hOw := hOw.drewN q'
      replace hb0 := below_drewN hb0 q'
      generalize w7.drewN q' = w8 at *
      rcases hcase with ⟨hz, rfl⟩ | ⟨hz, rfl⟩
      · go_wp2_with fail
        refine (works5_any _).mono ?_
        rintro e w25 ⟨rfl, hbz⟩
        go_wp2_with fail
        go_ret
        exact ⟨rfl, hbel2.trans ((hb0.trans (hbz.mono hb0.size)).mono hbel2.size)⟩
      · go_wp2_with fail
        refine (same_any A6 _ 1 1 c6 1 [1] [1] _ rfl rfl (by omega) (by omega) ((hOw.rd 1 rfl).alloc _) (rd_lit w8 1 #[.int .u32 1] rfl)).mono ?_
        rintro e w' ⟨rfl, q'', rfl⟩
        replace hb0 := below_drewN (hb0.alloc hb0.size (.cells #[.int .u32 1] 33)) q''
        rw [show decide ([1] = [1]) = true by decide]
        go_wp2_with fail
        refine (works5_any _).mono ?_
        rintro e w25 ⟨rfl, hbz⟩
        go_wp2_with fail
        go_ret
        exact ⟨rfl, hbel2.trans ((hb0.trans (hbz.mono hb0.size)).mono hbel2.size)⟩
set_option maxHeartbeats 400000 in
theorem montPrimes_any (A1 : Option Addr) (n1 c1 q : Nat) (xs : List Nat) (w : World) (hq : q < 256) (hn : n1 = xs.length) (hl : n1 ≤ 9223372036854775807) (hc : n1 ≤ c1) (r1 : Rd .u32 w A1 xs) (lx : Lim 4294967296 xs) :
    Calls Try.prog 8 #[.int .u8 (q : Int), .slice A1 n1 c1] w (Yes w) := by
  by_cases h1 : 300 < n1
  · have z1 : decide ((300 : Int) < (n1 : Int)) = true := by simp; omega
    clear hn
    go_enter Try.func8, Try.ntmps8
    go_wp2_with fail
    refine (works5_any _).mono ?_
    rintro e w1 ⟨rfl, hb⟩
    go_wp2_with fail
    go_ret
    exact ⟨rfl, hb⟩
  · rcases (show (q : Int) % 4 = 0 ∨ (q : Int) % 4 = 1 ∨ (q : Int) % 4 = 2 ∨ (q : Int) % 4 = 3 by omega) with h | h | h | h
    · exact montPrimes0_any A1 n1 c1 q xs w hq h hn (by omega) hc r1 lx
    · exact montPrimes1_any A1 n1 c1 q xs w hq h hn (by omega) hc r1 lx
    · exact montPrimes2_any A1 n1 c1 q xs w hq h hn (by omega) hc r1 lx
    · exact montPrimes3_any A1 n1 c1 q xs w hq h hn (by omega) hc r1 lx
end Go.Proofs.Ytfclpieijbgodaa
