/-
  The walk of the statement MontReckons: which modulus may be, and rests of products and of powers, are told as the document says.
-/
import Derived.Test.YtfclpieijbgodaaMonH
namespace Go.Proofs.Ytfclpieijbgodaa
set_option linter.unusedVariables false
set_option linter.unusedSimpArgs false
open Go.RowKit

def vast5 (n m : Nat) : Bool := decide (130 < n) || decide (300 < m) || decide (8192 < m * n * n)
set_option maxHeartbeats 400000 in
theorem vast5_any (A B : Option Addr) (n m c d : Nat) (w : World) (hn : n ≤ 9223372036854775807) (hm : m ≤ 9223372036854775807) :
    Calls Try.prog 30 #[.slice A n c, .slice B m d] w (fun e w' => e = .returned (.bool (vast5 n m)) ∧ w = w') := by
  by_cases h1 : 130 < n
  · have z1 : decide ((130 : Int) < (n : Int)) = true := by simp; omega
    have HR := Lib.hid (show vast5 n m = true by simp [vast5, h1])
    go_enter Try.func30, Try.ntmps30
    go_wp2
    go_ret
    exact ⟨by rw [HR.out]; rfl, rfl⟩
  have z1 : decide ((130 : Int) < (n : Int)) = false := by simp; omega
  by_cases h2 : 300 < m
  · have z2 : decide ((300 : Int) < (m : Int)) = true := by simp; omega
    have HR := Lib.hid (show vast5 n m = true by simp [vast5, h2])
    go_enter Try.func30, Try.ntmps30
    go_wp2
    go_ret
    exact ⟨by rw [HR.out]; rfl, rfl⟩
  have z2 : decide ((300 : Int) < (m : Int)) = false := by simp; omega
  have k1 : m * n ≤ 300 * 130 := Nat.mul_le_mul (by omega) (by omega)
  have k2 : m * n * n ≤ 300 * 130 * 130 := Nat.mul_le_mul k1 (by omega)
  have HR := Lib.hid (show vast5 n m = decide (8192 < m * n * n) by simp [vast5]; omega)
  obtain ⟨p, hp⟩ : ∃ p, p = m * n := ⟨_, rfl⟩
  obtain ⟨q, hq⟩ : ∃ q, q = m * n * n := ⟨_, rfl⟩
  have e1 : (m : Int) * (n : Int) = (p : Int) := by rw [hp]; simp
  have e2 : (p : Int) * (n : Int) = (q : Int) := by rw [hq, hp]; simp
  rw [← hq] at HR k2
  rw [← hp] at k1
  clear hp hq
  go_enter Try.func30, Try.ntmps30
  go_wp2
  all_goals go_ret
  all_goals refine ⟨?_, rfl⟩
  all_goals rw [HR.out]
  all_goals refine ret_bool ?_
  all_goals first | rfl | (simp; done) | (simp; omega) | (rw [Bool.eq_iff_iff]; simp; omega)
theorem expMOf_len {xs es ms : List Nat} (hM : MayM ms) : (expMOf xs es ms).1.length ≤ 256 := by
  unfold expMOf
  split
  · have h1 : val xs ^ val es % val ms < val ms := Nat.mod_lt _ (by have := hM.three; omega)
    exact limbs_le_len hM.lm hM.right (Nat.le_of_lt h1)
  · simp
theorem mulMOf_len {xs ys ms : List Nat} (hM : MayM ms) : (mulMOf xs ys ms).1.length ≤ 256 := by
  unfold mulMOf
  split
  · have h1 : val xs * val ys % val ms < val ms := Nat.mod_lt _ (by have := hM.three; omega)
    exact limbs_le_len hM.lm hM.right (Nat.le_of_lt h1)
  · simp
set_option maxRecDepth 100000 in
set_option maxHeartbeats 3200000 in
theorem montReckons_any (A0 A1 A2 A3 : Option Addr) (n0 n1 n2 n3 c0 c1 c2 c3 : Nat) (ms xs ys es : List Nat) (w : World) (hn0 : n0 = ms.length) (hn1 : n1 = xs.length) (hn2 : n2 = ys.length) (hn3 : n3 = es.length)
    (hl0 : n0 ≤ 9223372036854775807) (hl1 : n1 ≤ 9223372036854775807) (hl2 : n2 ≤ 9223372036854775807) (hl3 : n3 ≤ 9223372036854775807)
    (r0 : Rd .u32 w A0 ms) (r1 : Rd .u32 w A1 xs) (r2 : Rd .u32 w A2 ys) (r3 : Rd .u32 w A3 es) (lm : Lim 4294967296 ms) (lx : Lim 4294967296 xs) (ly : Lim 4294967296 ys) (le : Lim 4294967296 es) :
    Calls Try.prog 4 #[.slice A0 n0 c0, .slice A1 n1 c1, .slice A2 n2 c2, .slice A3 n3 c3] w (Yes w) := by
  subst hn0
  subst hn1
  subst hn2
  subst hn3
  cases hv : vast5 ms.length es.length with
  | true =>
    go_enter Try.func4, Try.ntmps4
    go_wp2_with fail
    refine (vast5_any A0 A3 ms.length es.length c0 c3 _ (by omega) (by omega)).mono ?_
    rintro e w' ⟨rfl, rfl⟩
    rw [hv]
    go_wp2_with fail
    refine (works5_any _).mono ?_
    rintro e w1 ⟨rfl, hb⟩
    go_wp2_with fail
    go_ret
    exact ⟨rfl, hb⟩
  | false =>
    have hsm : ms.length ≤ 130 ∧ es.length ≤ 300 := by simp [vast5] at hv; omega
    obtain ⟨hm3, he3⟩ := hsm
    by_cases h1 : 300 < xs.length
    · have z1 : decide ((300 : Int) < (xs.length : Int)) = true := by simp; omega
      go_enter Try.func4, Try.ntmps4
      go_wp2_with fail
      refine (vast5_any A0 A3 ms.length es.length c0 c3 _ (by omega) (by omega)).mono ?_
      rintro e w' ⟨rfl, rfl⟩
      rw [hv]
      go_wp2_with fail
      refine (works5_any _).mono ?_
      rintro e w1 ⟨rfl, hb⟩
      go_wp2_with fail
      go_ret
      exact ⟨rfl, hb⟩
    have z1 : decide ((300 : Int) < (xs.length : Int)) = false := by simp; omega
    by_cases h2 : 300 < ys.length
    · have z2 : decide ((300 : Int) < (ys.length : Int)) = true := by simp; omega
      go_enter Try.func4, Try.ntmps4
      go_wp2_with fail
      refine (vast5_any A0 A3 ms.length es.length c0 c3 _ (by omega) (by omega)).mono ?_
      rintro e w' ⟨rfl, rfl⟩
      rw [hv]
      go_wp2_with fail
      refine (works5_any _).mono ?_
      rintro e w1 ⟨rfl, hb⟩
      go_wp2_with fail
      go_ret
      exact ⟨rfl, hb⟩
    have z2 : decide ((300 : Int) < (ys.length : Int)) = false := by simp; omega
    have hx3 : xs.length ≤ 300 := by omega
    have hy3 : ys.length ≤ 300 := by omega
    clear h1 h2
    go_enter Try.func4, Try.ntmps4
    go_wp2_with fail
    refine (vast5_any A0 A3 ms.length es.length c0 c3 _ (by omega) (by omega)).mono ?_
    rintro e w' ⟨rfl, rfl⟩
    rw [hv]
    clear hv
    go_wp2_with fail
    refine (twin5_any A0 _ c0 ms w rfl (by omega) r0).mono ?_
    rintro e w1 ⟨gn, cn, rfl, hgn, hbn, hcn, hcn2, hb1⟩
    have hgnl := hbn.lt
    cases hmay : mayB ms with
    | false =>
      go_wp2_with fail
      refine (newNo_any _ _ cn ms w1 rfl (by omega) (Rd.of_all hbn) lm hmay).mono ?_
      rintro e w' ⟨rfl, rfl⟩
      go_wp2_with fail
      refine (refMay_any A0 _ c0 ms _ rfl (by omega) (r0.below hb1) lm).mono ?_
      rintro e w' ⟨rfl, rfl⟩
      rw [hmay]
      go_wp2_with fail
      refine (refMay_any A0 _ c0 ms _ rfl (by omega) (r0.below hb1) lm).mono ?_
      rintro e w' ⟨rfl, rfl⟩
      rw [hmay]
      go_wp2_with fail
      refine (same_any _ A0 _ _ cn c0 ms ms _ rfl rfl (by omega) (by omega) (Rd.of_all hbn) (r0.below hb1)).mono ?_
      rintro e w' ⟨rfl, q, rfl⟩
      rw [show decide (ms = ms) = true by simp]
      have hb2 := below_drewN hb1 q
      go_wp2_with fail
      refine (works5_any _).mono ?_
      rintro e w2 ⟨rfl, hb⟩
      go_wp2_with fail
      go_ret
      exact ⟨rfl, hb2.trans (hb.mono hb2.size)⟩
    | true =>
      have hM := mayB_out lm hmay
      go_wp2_with fail
      refine (newYes_any _ _ cn ms w1 rfl (Rd.of_all hbn) hM).mono ?_
      rintro e w2 ⟨g, rfl, hO, hb2⟩
      have hbel2 := hb1.trans (hb2.mono hb1.size)
      have hbn2 := hbn.below hb2
      go_wp2_with fail
      refine (refMay_any A0 _ c0 ms _ rfl (by omega) (r0.below hbel2) lm).mono ?_
      rintro e w' ⟨rfl, rfl⟩
      rw [hmay]
      go_wp2_with fail
      refine (refMay_any A0 _ c0 ms _ rfl (by omega) (r0.below hbel2) lm).mono ?_
      rintro e w' ⟨rfl, rfl⟩
      rw [hmay]
      go_wp2_with fail
      refine (same_any _ A0 _ _ cn c0 ms ms _ rfl rfl (by omega) (by omega) (Rd.of_all hbn2) (r0.below hbel2)).mono ?_
      rintro e w' ⟨rfl, q, rfl⟩
      rw [show decide (ms = ms) = true by simp]
      have hbel3 := below_drewN hbel2 q
      have hO3 := hO.drewN q
      have hbn3 := hbn2.drewN q
      generalize w2.drewN q = w3 at *
      clear hbn hbn2 hb1 hb2 hO hbel2
      go_wp2_with fail
      go_loopw [12] (fun s wr => ∃ (i : Nat) (ns : List Nat), s = .int .i64 (i : Int) ∧ i ≤ ms.length ∧ Hid (ns.length = ms.length) ∧ Blk .u32 wr gn ns ∧ ModOk wr w1.heap.size g ms ∧ Below w.heap.size w wr) (fun s _ => ms.length - (intOf s).toNat)
      case atStart => exact ⟨0, ms, rfl, Nat.zero_le _, rfl, hbn3, hO3, hbel3⟩
      case round =>
        clear hbn3 hO3 hbel3
        obtain ⟨i, ns, rfl, hi, hnl, hbn, hO, hbel⟩ := hrel
        by_cases hlt : i < ms.length
        · obtain ⟨y, hy⟩ := get_of_lt (xs := ns) (i := i) (by rw [hnl.out]; exact hlt)
          have hyc := hbn.cell hy
          have hyf := hbn.frozen hy
          have hset := hbn.set hy 4008636142
          have hnl2 := Lib.hid (show (ns.set i 4008636142).length = ms.length by rw [List.length_set]; exact hnl.out)
          have hO2 := hO.set (p := ⟨gn, i, none⟩) hgnl (.int .u32 ((4008636142 : Nat) : Int))
          have hbel2 := hbel.setCell (p := ⟨gn, i, none⟩) hgn (.int .u32 ((4008636142 : Nat) : Int))
          clear hy hbn hO hbel
          go_wp2_with fail
          go_roundw
          case rel => exact ⟨i + 1, _, by go_num, hlt, hnl2, hset, hO2, hbel2⟩
          case measure => simp [intOf]; omega
        · clear hbn hnl
          generalize hw0 : w1.heap.size = B0 at *
          obtain ⟨p1, er1, hp1, hP1, hR1⟩ : ∃ (p : List Nat) (er : Int), p.length ≤ 256 ∧ Hid (∀ A B c d w, ModOk w B0 g ms → Rd .u32 w A xs → Rd .u32 w B ys → Calls Try.prog 35 #[.pointer (some ⟨g, 0, none⟩), .slice A xs.length c, .slice B ys.length d] w (Gives2 .u32 p er w)) ∧ Hid (∀ A B D c d f w, Rd .u32 w A xs → Rd .u32 w B ys → Rd .u32 w D ms → Calls Try.prog 36 #[.slice A xs.length c, .slice B ys.length d, .slice D ms.length f] w (Gives2 .u32 p er w)) :=
            ⟨_, _, mulMOf_len (xs := xs) (ys := ys) hM, fun A B c d w hO hx hy => mmul_any B0 g ms A B _ _ c d xs ys w hO hM rfl rfl (by omega) (by omega) hx hy lx ly, fun A B D c d f w hx hy hD => refMul5_any D A B _ _ _ c d f xs ys ms w hM rfl rfl rfl (by omega) (by omega) hx hy hD lx ly⟩
          obtain ⟨p2, er2, hp2, hP2, hR2⟩ : ∃ (p : List Nat) (er : Int), p.length ≤ 256 ∧ Hid (∀ A B c d w, ModOk w B0 g ms → Rd .u32 w A xs → Rd .u32 w B es → Calls Try.prog 37 #[.pointer (some ⟨g, 0, none⟩), .slice A xs.length c, .slice B es.length d] w (Gives2 .u32 p er w)) ∧ Hid (∀ A B D c d f w, Rd .u32 w A xs → Rd .u32 w B es → Rd .u32 w D ms → Calls Try.prog 38 #[.slice A xs.length c, .slice B es.length d, .slice D ms.length f] w (Gives2 .u32 p er w)) :=
            ⟨_, _, expMOf_len (xs := xs) (es := es) hM, fun A B c d w hO hx hy => mexp_any B0 g ms A B _ _ c d xs es w hO hM rfl rfl (by omega) (by omega) hx hy lx le, fun A B D c d f w hx hy hD => refExp5_any D A B _ _ _ c d f xs es ms w hM rfl rfl rfl (by omega) (by omega) hx hy hD lx le⟩
          have hq1 : (er1 == er1) = true := by simp
          have hq2 : (er2 == er2) = true := by simp
          clear hw0
          go_wp2_with fail
          refine (twin5_any A1 _ c1 xs wr rfl (by omega) (r1.below hbel)).mono ?_
          rintro e w4 ⟨gs, cs, rfl, _, hbs, _, _, hb4⟩
          replace hO := hO.below hb4
          replace hbel := hbel.trans (hb4.mono hbel.size)
          go_wp2_with fail
          refine (twin5_any A2 _ c2 ys w4 rfl (by omega) (r2.below hbel)).mono ?_
          rintro e w5 ⟨gt, ct, rfl, _, hbt, _, _, hb5⟩
          replace hO := hO.below hb5
          replace hbs := hbs.below hb5
          replace hbel := hbel.trans (hb5.mono hbel.size)
          go_wp2_with fail
          refine (twin5_any A3 _ c3 es w5 rfl (by omega) (r3.below hbel)).mono ?_
          rintro e w6 ⟨gu, cu, rfl, _, hbu, _, _, hb6⟩
          replace hO := hO.below hb6
          replace hbs := hbs.below hb6
          replace hbt := hbt.below hb6
          replace hbel := hbel.trans (hb6.mono hbel.size)
          have hOw := Owns.nil w6 w6.heap.size
          have hb0 := Below.refl w6.heap.size w6
          clear hb4 hb5 hb6
          go_wp2_with fail
          refine (hP1.out _ _ _ _ _ (hO.below hb0) (Rd.of_all (hbs.below hb0)) (Rd.of_all (hbt.below hb0))).mono ?_
          rintro e w7 ⟨A1q, c1q, rfl, _, _, ho, hb⟩
          replace hOw := hOw.add hb ho hb0.size
          replace hb0 := hb0.trans (hb.mono hb0.size)
          clear hb ho
          go_wp2_with fail
          refine (hR1.out _ _ _ _ _ _ _ (r1.below (hbel.trans (hb0.mono hbel.size))) (r2.below (hbel.trans (hb0.mono hbel.size))) (r0.below (hbel.trans (hb0.mono hbel.size)))).mono ?_
          rintro e w8 ⟨A1rq, c1rq, rfl, _, _, ho, hb⟩
          replace hOw := hOw.add hb ho hb0.size
          replace hb0 := hb0.trans (hb.mono hb0.size)
          clear hb ho
          go_wp2_with fail
          refine (hP2.out _ _ _ _ _ (hO.below hb0) (Rd.of_all (hbs.below hb0)) (Rd.of_all (hbu.below hb0))).mono ?_
          rintro e w9 ⟨A2q, c2q, rfl, _, _, ho, hb⟩
          replace hOw := hOw.add hb ho hb0.size
          replace hb0 := hb0.trans (hb.mono hb0.size)
          clear hb ho
          go_wp2_with fail
          refine (hR2.out _ _ _ _ _ _ _ (r1.below (hbel.trans (hb0.mono hbel.size))) (r3.below (hbel.trans (hb0.mono hbel.size))) (r0.below (hbel.trans (hb0.mono hbel.size)))).mono ?_
          rintro e w10 ⟨A2rq, c2rq, rfl, _, _, ho, hb⟩
          replace hOw := hOw.add hb ho hb0.size
          replace hb0 := hb0.trans (hb.mono hb0.size)
          clear hb ho
          simp only [List.nil_append, List.cons_append] at hOw
          go_wp2_with fail
          refine (same_any A1q A1rq _ _ c1q c1rq p1 p1 w10 rfl rfl (by omega) (by omega) (hOw.rd 0 rfl) (hOw.rd 1 rfl)).mono ?_
          rintro e w' ⟨rfl, q, rfl⟩
          rw [show decide (p1 = p1) = true by simp]
          replace hOw := hOw.drewN q
          replace hb0 := below_drewN hb0 q
          generalize w10.drewN q = w11 at *
          go_wp2_with fail
          refine (same_any A2q A2rq _ _ c2q c2rq p2 p2 w11 rfl rfl (by omega) (by omega) (hOw.rd 2 rfl) (hOw.rd 3 rfl)).mono ?_
          rintro e w' ⟨rfl, q, rfl⟩
          rw [show decide (p2 = p2) = true by simp]
          replace hOw := hOw.drewN q
          replace hb0 := below_drewN hb0 q
          generalize w11.drewN q = w12 at *
          go_wp2_with fail
          refine (same_any (some ⟨gs, 0, none⟩) A1 _ _ cs c1 xs xs w12 rfl rfl (by omega) (by omega) (Rd.of_all (hbs.below hb0)) (r1.below (hbel.trans (hb0.mono hbel.size)))).mono ?_
          rintro e w' ⟨rfl, q, rfl⟩
          rw [show decide (xs = xs) = true by simp]
          replace hb0 := below_drewN hb0 q
          generalize w12.drewN q = w13 at *
          go_wp2_with fail
          refine (same_any (some ⟨gt, 0, none⟩) A2 _ _ ct c2 ys ys w13 rfl rfl (by omega) (by omega) (Rd.of_all (hbt.below hb0)) (r2.below (hbel.trans (hb0.mono hbel.size)))).mono ?_
          rintro e w' ⟨rfl, q, rfl⟩
          rw [show decide (ys = ys) = true by simp]
          replace hb0 := below_drewN hb0 q
          generalize w13.drewN q = w14 at *
          go_wp2_with fail
          refine (same_any (some ⟨gu, 0, none⟩) A3 _ _ cu c3 es es w14 rfl rfl (by omega) (by omega) (Rd.of_all (hbu.below hb0)) (r3.below (hbel.trans (hb0.mono hbel.size)))).mono ?_
          rintro e w' ⟨rfl, q, rfl⟩
          rw [show decide (es = es) = true by simp]
          replace hb0 := below_drewN hb0 q
          generalize w14.drewN q = w15 at *
          go_wp2_with fail
          refine (works5_any _).mono ?_
          rintro e w16 ⟨rfl, hbz⟩
          go_wp2_with fail
          go_ret
          exact ⟨rfl, hbel.trans ((hb0.trans (hbz.mono hb0.size)).mono hbel.size)⟩
end Go.Proofs.Ytfclpieijbgodaa
