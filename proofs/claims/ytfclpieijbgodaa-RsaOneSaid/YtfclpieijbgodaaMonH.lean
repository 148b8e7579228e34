/-
  The reference's modulus: which may be, rests of products and of powers.
-/
import Derived.Test.YtfclpieijbgodaaMonG
namespace Go.Proofs.Ytfclpieijbgodaa
set_option linter.unusedVariables false
set_option linter.unusedSimpArgs false
open Go.RowKit

set_option maxHeartbeats 800000 in
theorem refMay_any (A : Option Addr) (n c : Nat) (ms : List Nat) (w : World) (hn : n = ms.length) (hl : n ≤ 70000) (hx : Rd .u32 w A ms) (lm : Lim 4294967296 ms) :
    Calls Try.prog 34 #[.slice A n c] w (fun e w' => e = .returned (.bool (mayB ms)) ∧ w = w') := by
  subst hn
  cases r : isRight ms with
  | false =>
    have HR := Lib.hid (show mayB ms = false by simp [mayB, r])
    go_enter Try.func34, Try.ntmps34
    go_wp2_with fail
    refine (refRight_any _ _ c ms _ rfl (by omega) hx).mono ?_
    rintro e w' ⟨rfl, rfl⟩
    go_wp2_with fail
    go_ret
    exact ⟨by rw [HR.out]; rfl, rfl⟩
  | true =>
    rcases Nat.eq_zero_or_pos ms.length with h0 | h0
    · obtain rfl : ms = [] := List.eq_nil_of_length_eq_zero h0
      have HR := Lib.hid (show mayB [] = false by simp [mayB])
      clear h0
      go_enter Try.func34, Try.ntmps34
      go_wp2_with fail
      refine (refRight_any _ _ c [] _ rfl (by omega) hx).mono ?_
      rintro e w' ⟨rfl, rfl⟩
      rw [r]
      go_wp2_with fail
      go_ret
      exact ⟨by rw [HR.out]; rfl, rfl⟩
    have z1 : ((ms.length : Int) == 0) = false := by simp; intro h; rw [h] at h0; simp at h0
    by_cases h128 : 128 < ms.length
    · have z2 : decide ((128 : Int) < (ms.length : Int)) = true := by simp; omega
      have HR := Lib.hid (show mayB ms = false by simp [mayB]; omega)
      go_enter Try.func34, Try.ntmps34
      go_wp2_with fail
      refine (refRight_any _ _ c ms _ rfl (by omega) hx).mono ?_
      rintro e w' ⟨rfl, rfl⟩
      go_wp2_with fail
      go_ret
      exact ⟨by rw [HR.out]; rfl, rfl⟩
    have z2 : decide ((128 : Int) < (ms.length : Int)) = false := by simp; omega
    obtain ⟨m0, hm0⟩ := get_of_lt (xs := ms) (i := 0) h0
    obtain ⟨b, o, rfl, hbw, hcl⟩ := hx.pos hm0
    have hcell := hcl 0 m0 hm0
    rw [Nat.add_zero] at hcell
    have hb0 := lm.get hm0
    have i0 : (0 : Int) < (ms.length : Int) := by omega
    have v2 := val_mod2 lm hm0
    have v3 := val_three lm r hm0
    clear hcl hm0
    by_cases hodd : m0 % 2 = 0
    · have z3 : ((m0 : Int) % 2 == 0) = true := by simp; omega
      have HR := Lib.hid (show mayB ms = false by simp [mayB]; omega)
      clear v2 v3 hodd
      go_enter Try.func34, Try.ntmps34
      go_wp2_with fail
      refine (refRight_any _ _ c ms _ rfl (by omega) hx).mono ?_
      rintro e w' ⟨rfl, rfl⟩
      go_wp2_with fail
      go_ret
      exact ⟨by rw [HR.out]; rfl, rfl⟩
    have z3 : ((m0 : Int) % 2 == 0) = false := by simp; omega
    by_cases hl1 : 1 < ms.length
    · have z4 : decide ((1 : Int) < (ms.length : Int)) = true := by simp; omega
      have h3 := v3.2 (.inl (by omega))
      have HR := Lib.hid (show mayB ms = true by simp [mayB, r]; omega)
      clear v2 v3 hodd
      go_enter Try.func34, Try.ntmps34
      go_wp2_with fail
      refine (refRight_any _ _ c ms _ rfl (by omega) hx).mono ?_
      rintro e w' ⟨rfl, rfl⟩
      go_wp2_with fail
      go_ret
      exact ⟨by rw [HR.out]; rfl, rfl⟩
    · have z4 : decide ((1 : Int) < (ms.length : Int)) = false := by simp; omega
      have HR := Lib.hid (show mayB ms = decide (3 ≤ m0) by
        have e : decide (3 ≤ val ms) = decide (3 ≤ m0) := by
          rw [decide_eq_decide, v3]
          omega
        simp only [mayB, r, Bool.true_and, e]
        rw [decide_eq_true h0, decide_eq_true (show ms.length ≤ 128 by omega), decide_eq_true (show val ms % 2 = 1 by omega)]
        rfl)
      clear v2 v3 hodd
      go_enter Try.func34, Try.ntmps34
      go_wp2_with fail
      refine (refRight_any _ _ c ms _ rfl (by omega) hx).mono ?_
      rintro e w' ⟨rfl, rfl⟩
      go_wp2_with fail
      go_ret
      refine ⟨?_, rfl⟩
      rw [HR.out]
      refine ret_bool ?_
      first | rfl | (simp; done) | (simp; omega) | (rw [Bool.eq_iff_iff]; simp; omega)
set_option maxHeartbeats 400000 in
theorem refBelow_any (A X : Option Addr) (n m c cA : Nat) (xs ms : List Nat) (w : World) (rm : isRight ms = true) (hn : n = xs.length) (hm : m = ms.length) (hl : n ≤ 70000) (hx : Rd .u32 w X xs) (hA : Rd .u32 w A ms) (lx : Lim 4294967296 xs) (lm : Lim 4294967296 ms) :
    Calls Try.prog 79 #[.slice X n c, .slice A m cA] w (Quiet (.bool (mayOf xs ms)) w) := by
  subst hn
  subst hm
  have hml := isRight_len rm
  cases r : isRight xs with
  | false =>
    have HR := Lib.hid (show mayOf xs ms = false by simp [mayOf, r])
    go_enter Try.func79, Try.ntmps79
    go_wp2_with fail
    refine (refRight_any _ _ c xs _ rfl (by omega) hx).mono ?_
    rintro e w' ⟨rfl, rfl⟩
    go_wp2_with fail
    go_ret
    exact Quiet.mk0 (congrArg Value.bool HR.out.symm)
  | true =>
    obtain ⟨cm, hcm⟩ : ∃ cm, cm = cmpN (val xs) (val ms) := ⟨_, rfl⟩
    have HR := Lib.hid (show mayOf xs ms = decide (cm < 0) by rw [hcm]; simp [mayOf, r, cmpN_neg])
    have hc := Lib.hid (show Calls Try.prog 28 #[.slice X xs.length c, .slice A ms.length cA] w (Quiet (.int .i64 cm) w) by
      have := refCmpAny_any X A _ _ c cA xs ms w rfl rfl hl (by omega) hx hA lx lm
      rw [if_pos ⟨r, rm⟩, ← hcm] at this
      exact this)
    clear hcm
    go_enter Try.func79, Try.ntmps79
    go_wp2_with fail
    refine (refRight_any _ _ c xs _ rfl (by omega) hx).mono ?_
    rintro e w' ⟨rfl, rfl⟩
    go_wp2_with fail
    refine hc.out.mono ?_
    rintro e w' ⟨rfl, q, rfl⟩
    go_wp2_with fail
    go_ret
    exact Quiet.mk (congrArg Value.bool HR.out.symm) _
set_option maxHeartbeats 400000 in
theorem refmul5_any (A X Y : Option Addr) (n m p c d cA : Nat) (xs ys ms : List Nat) (w : World) (hM : MayM ms) (hn : n = xs.length) (hm : m = ys.length) (hp : p = ms.length) (hx : Rd .u32 w X xs) (hy : Rd .u32 w Y ys) (hA : Rd .u32 w A ms) (lx : Lim 4294967296 xs) (ly : Lim 4294967296 ys)
    (h1 : mayOf xs ms = true) (h2 : mayOf ys ms = true) :
    Calls Try.prog 80 #[.slice X n c, .slice Y m d, .slice A p cA] w (Gives .u32 (limbs (val xs * val ys % val ms)) w) := by
  subst hn
  subst hm
  subst hp
  obtain ⟨rx, hxM, hxl⟩ := mayOf_out hM.lm lx h1
  obtain ⟨ry, hyM, hyl⟩ := mayOf_out hM.lm ly h2
  have hml := hM.len
  have hfit : (limbs (val xs * val ys)).length ≤ 256 := by
    refine Nat.le_trans (limbs_length_le (k := ms.length + ms.length) ?_) (by omega)
    rw [Nat.pow_add]
    have := val_lt hM.lm
    exact Nat.mul_lt_mul'' (by omega) (by omega)
  have hmul := refMul_all X Y _ _ c d xs ys w rfl rfl (by omega) (by omega) hx hy lx ly
  rw [show mulOf xs ys = (limbs (val xs * val ys), 0) by simp [mulOf, rx, ry, fitsOf_ok hfit]] at hmul
  have hdiv : ∀ (P : Option Addr) (cp : Nat) (w' : World), Rd .u32 w' P (limbs (val xs * val ys)) → Rd .u32 w' A ms → Calls Try.prog 25 #[.slice P (limbs (val xs * val ys)).length cp, .slice A ms.length cA] w' (Gives3 (limbs (val xs * val ys / val ms)) (limbs (val xs * val ys % val ms)) 0 w') := by
    intro P cp w' h1 h2
    have h3 := refDiv_all P A _ _ cp cA (limbs (val xs * val ys)) ms w' rfl rfl (by omega) (by omega) h1 h2 (limbs_lim _) hM.lm
    rw [divOf_ok (isRight_limbs hfit) hM.right (by have := hM.pos; intro h; rw [h] at this; simp at this), val_limbs] at h3
    exact h3
  have HD := Lib.hid hdiv
  have HMUL := Lib.hid hmul
  clear hdiv hmul h1 h2
  generalize limbs (val xs * val ys % val ms) = R at *
  generalize limbs (val xs * val ys / val ms) = Q at *
  generalize limbs (val xs * val ys) = P at *
  go_enter Try.func80, Try.ntmps80
  go_wp2_with fail
  refine HMUL.out.mono ?_
  rintro e w1 ⟨A1, c1, rfl, f1, f2, f3, f4⟩
  go_wp2_with fail
  refine (HD.out A1 c1 w1 f3.rd (hA.below f4)).mono ?_
  rintro e w2 ⟨A2, c2, A3, c3, rfl, _, ⟨g1, g2⟩, _, g4, g5⟩
  go_wp2_with fail
  go_ret
  exact ⟨A3, c3, rfl, g1, g2, g4.mono f4.size, f4.trans (g5.mono f4.size)⟩
set_option maxHeartbeats 400000 in
theorem refMul5_any (A X Y : Option Addr) (n m p c d cA : Nat) (xs ys ms : List Nat) (w : World) (hM : MayM ms) (hn : n = xs.length) (hm : m = ys.length) (hp : p = ms.length) (hl : n ≤ 70000) (hl' : m ≤ 70000) (hx : Rd .u32 w X xs) (hy : Rd .u32 w Y ys) (hA : Rd .u32 w A ms) (lx : Lim 4294967296 xs) (ly : Lim 4294967296 ys) :
    Calls Try.prog 36 #[.slice X n c, .slice Y m d, .slice A p cA] w (Gives2 .u32 (mulMOf xs ys ms).1 (mulMOf xs ys ms).2 w) := by
  subst hn
  subst hm
  subst hp
  have hbx := Lib.hid (refBelow_any A X _ _ c cA xs ms w hM.right rfl rfl hl hx hA lx hM.lm)
  have hby : Hid (∀ q, Calls Try.prog 79 #[.slice Y ys.length d, .slice A ms.length cA] (w.drewN q) (Quiet (.bool (mayOf ys ms)) (w.drewN q))) := fun q => refBelow_any A Y _ _ d cA ys ms (w.drewN q) hM.right rfl rfl hl' (hy.drewN q) (hA.drewN q) ly hM.lm
  unfold mulMOf
  cases r1 : mayOf xs ms with
  | false =>
    rw [r1] at hbx
    rw [if_neg (by simp)]
    go_enter Try.func36, Try.ntmps36
    go_wp2_with fail
    refine hbx.out.mono ?_
    rintro e w' ⟨rfl, q, rfl⟩
    go_wp2_with fail
    go_ret2
    exact gives2_arg _ _ _ (below_drewN (Below.refl _ _) q)
  | true =>
    rw [r1] at hbx
    cases r2 : mayOf ys ms with
    | false =>
      rw [r2] at hby
      rw [if_neg (by simp)]
      go_enter Try.func36, Try.ntmps36
      go_wp2_with fail
      refine hbx.out.mono ?_
      rintro e w' ⟨rfl, q, rfl⟩
      go_wp2_with fail
      refine (hby.out q).mono ?_
      rintro e w' ⟨rfl, q2, rfl⟩
      go_wp2_with fail
      go_ret2
      exact gives2_arg _ _ _ (by first | exact below_drewN (Below.refl _ _) (q + q2) | exact below_drewN (below_drewN (Below.refl _ _) q) q2)
    | true =>
      rw [r2] at hby
      rw [if_pos ⟨rfl, rfl⟩]
      have hmu : Hid (∀ w', Below w.heap.size w w' → Calls Try.prog 80 #[.slice X xs.length c, .slice Y ys.length d, .slice A ms.length cA] w' (Gives .u32 (limbs (val xs * val ys % val ms)) w')) := fun w' h => refmul5_any A X Y _ _ _ c d cA xs ys ms w' hM rfl rfl rfl (hx.below h) (hy.below h) (hA.below h) lx ly r1 r2
      generalize limbs (val xs * val ys % val ms) = R at *
      go_enter Try.func36, Try.ntmps36
      go_wp2_with fail
      refine hbx.out.mono ?_
      rintro e w' ⟨rfl, q, rfl⟩
      go_wp2_with fail
      refine (hby.out q).mono ?_
      rintro e w' ⟨rfl, q2, rfl⟩
      have hb0 : Below w.heap.size w ((w.drewN q).drewN q2) := below_drewN (below_drewN (Below.refl _ _) q) q2
      go_wp2_with fail
      refine (hmu.out _ (by first | exact hb0 | exact below_drewN (Below.refl _ _) (q + q2))).mono ?_
      rintro e w1 ⟨A3, c3, rfl, g1, g2, g4, g5⟩
      go_wp2_with fail
      go_ret2
      exact ⟨A3, c3, rfl, g1, g2, g4, by first | exact hb0.trans g5 | exact (below_drewN (Below.refl _ _) (q + q2)).trans g5⟩
theorem may_limbs {ms : List Nat} (hM : MayM ms) (v : Nat) : mayOf (limbs (v % val ms)) ms = true := by
  have h1 : v % val ms < val ms := Nat.mod_lt _ (by have := hM.three; omega)
  have h2 := val_lt hM.lm
  have h3 := limbs_length_le (n := v % val ms) (k := ms.length) (by omega)
  have h4 := hM.len
  simp only [mayOf, val_limbs, Bool.and_eq_true, decide_eq_true_eq]
  exact ⟨isRight_limbs (by omega), h1⟩
theorem pow_step {X E k M : Nat} (b : Nat) (hb : b = E / 2 ^ k % 2) : X ^ (E / 2 ^ (k + 1)) % M * (X ^ (E / 2 ^ (k + 1)) % M) % M = X ^ (2 * (E / 2 ^ (k + 1))) % M ∧ X ^ (E / 2 ^ k) % M = X ^ (2 * (E / 2 ^ (k + 1)) + b) % M := by
  refine ⟨?_, ?_⟩
  · rw [← Nat.mul_mod, ← Nat.pow_add]
    congr 2
    omega
  · have := bit_step E k
    rw [← hb] at this
    rw [this]
set_option maxRecDepth 100000 in
set_option maxHeartbeats 1600000 in
theorem refExp5_any (A X Y : Option Addr) (n m p c d cA : Nat) (xs es ms : List Nat) (w : World) (hM : MayM ms) (hn : n = xs.length) (hm : m = es.length) (hp : p = ms.length) (hl : n ≤ 70000) (hl' : m ≤ 30000) (hx : Rd .u32 w X xs) (hy : Rd .u32 w Y es) (hA : Rd .u32 w A ms) (lx : Lim 4294967296 xs) (le : Lim 4294967296 es) :
    Calls Try.prog 38 #[.slice X n c, .slice Y m d, .slice A p cA] w (Gives2 .u32 (expMOf xs es ms).1 (expMOf xs es ms).2 w) := by
  subst hn
  subst hm
  subst hp
  have hbx := Lib.hid (refBelow_any A X _ _ c cA xs ms w hM.right rfl rfl hl hx hA lx hM.lm)
  unfold expMOf
  cases r1 : mayOf xs ms with
  | false =>
    rw [r1] at hbx
    rw [if_neg (by simp)]
    go_enter Try.func38, Try.ntmps38
    go_wp2_with fail
    refine hbx.out.mono ?_
    rintro e w' ⟨rfl, q, rfl⟩
    go_wp2_with fail
    go_ret2
    exact gives2_arg _ _ _ (below_drewN (Below.refl _ _) q)
  | true =>
    rw [r1] at hbx
    cases r2 : isRight es with
    | false =>
      rw [if_neg (by simp)]
      go_enter Try.func38, Try.ntmps38
      go_wp2_with fail
      refine hbx.out.mono ?_
      rintro e w' ⟨rfl, q, rfl⟩
      go_wp2_with fail
      refine (refRight_any Y _ d es _ rfl (by omega) (hy.drewN q)).mono ?_
      rintro e w' ⟨rfl, rfl⟩
      rw [r2]
      go_wp2_with fail
      go_ret2
      exact gives2_arg _ _ _ (below_drewN (Below.refl _ _) q)
    | true =>
      rw [if_pos ⟨rfl, rfl⟩]
      have hN : nbits (val es) ≤ 32 * es.length := by rw [nbits_le_iff, ← pow_limb]; exact val_lt le
      have h1M : 1 % val ms = 1 := Nat.mod_eq_of_lt (by have := hM.three; omega)
      go_enter Try.func38, Try.ntmps38
      go_wp2_with fail
      refine hbx.out.mono ?_
      rintro e w' ⟨rfl, q, rfl⟩
      have hb0 := below_drewN (Below.refl w.heap.size w) q
      generalize w.drewN q = w0 at *
      go_wp2_with fail
      refine (refRight_any Y _ d es _ rfl (by omega) (hy.below hb0)).mono ?_
      rintro e w' ⟨rfl, rfl⟩
      rw [r2]
      have hbits := refBits_any Y es.length d es (w0.alloc (.cells #[.int .u32 1] 33)) rfl (by omega) ((hy.below hb0).alloc _) le
      rw [bitsOf_right r2] at hbits
      go_wp2_with fail
      refine hbits.mono ?_
      rintro e w' ⟨rfl, rfl⟩
      have hb1 := hb0.alloc hb0.size (.cells #[.int .u32 1] 33)
      have hO1 : Own .u32 (w0.alloc (.cells #[.int .u32 1] 33)) w.heap.size (some ⟨w0.heap.size, 0, none⟩) (limbs (val xs ^ (val es / 2 ^ nbits (val es)) % val ms)) := by
        rw [Nat.div_eq_of_lt (lt_nbits _), Nat.pow_zero, h1M]
        exact Own.of_blk (blk_lit w0 [1] #[.int .u32 1] rfl) hb0.size
      have hl1 := Lib.hid (show 1 = (limbs (val xs ^ (val es / 2 ^ nbits (val es)) % val ms)).length by rw [Nat.div_eq_of_lt (lt_nbits _), Nat.pow_zero, h1M]; rfl)
      generalize w0.alloc (.cells #[.int .u32 1] 33) = w1 at *
      clear hbits hbx
      go_wp2_with fail
      go_loopw [8, 9] (fun sr si wr => ∃ (k p cp : Nat) (P : Option Addr), sr = .slice P p cp ∧ si = .int .i64 ((k : Int) - 1) ∧ k ≤ nbits (val es) ∧ Hid (p = (limbs (val xs ^ (val es / 2 ^ k) % val ms)).length) ∧ p ≤ cp ∧ cp ≤ maxLen ∧ Own .u32 wr w.heap.size P (limbs (val xs ^ (val es / 2 ^ k) % val ms)) ∧ Below w.heap.size w wr) (fun _ si _ => (intOf si + 1).toNat)
      case atStart => exact ⟨nbits (val es), 1, 1, _, rfl, rfl, Nat.le_refl _, hl1, Nat.le_refl _, by simp only [maxLen]; omega, hO1, hb1⟩
      case round =>
        clear hO1 hl1 hb1
        obtain ⟨k, p, cp, P, rfl, rfl, hk, hpl, hpc, hcm, hO, hbel⟩ := hrel
        rcases Nat.eq_zero_or_pos k with rfl | hk0
        · rw [Nat.pow_zero, Nat.div_one] at hO hpl
          go_wp2_with fail
          go_ret2
          exact ⟨P, cp, by rw [← hpl.out]; rfl, by rw [← hpl.out]; exact hpc, hcm, hO, hbel⟩
        · obtain ⟨k, rfl⟩ : ∃ j, k = j + 1 := ⟨k - 1, by omega⟩
          have hk1 : (((k + 1 : Nat) : Int) - 1) = (k : Int) := by omega
          rw [hk1]
          clear hk1 hk0
          obtain ⟨x, hgx⟩ := get_of_lt (xs := es) (i := k / 32) (by omega)
          have hxb := le.get hgx
          obtain ⟨bit, hbit⟩ : ∃ bit, bit = val es / 2 ^ k % 2 := ⟨_, rfl⟩
          have hbx : bits .and .u32 ((x : Int) / 2 ^ (k % 32)) 1 = (bit : Int) := by
            have e : ((x : Int) / 2 ^ (k % 32)) = ((x / 2 ^ (k % 32) : Nat) : Int) := by simp
            rw [e, show (1 : Int) = ((1 : Nat) : Int) from rfl, u32_and_nat _ _ (Nat.lt_of_le_of_lt (Nat.div_le_self _ _) hxb) (by omega), Nat.and_one_is_mod, bit_at le hgx, hbit]
          obtain ⟨e1, e2⟩ := pow_step (X := val xs) (M := val ms) bit hbit
          have hml := may_limbs hM (val xs ^ (val es / 2 ^ (k + 1)))
          have hc1 := refmul5_any A P P _ _ _ cp cp cA _ _ ms wr hM rfl rfl rfl hO.rd hO.rd (hA.below hbel) (limbs_lim _) (limbs_lim _) hml hml
          rw [val_limbs, e1, ← hpl.out] at hc1
          have HC1 := Lib.hid hc1
          have hc2 : Hid (∀ w' Q cq, Below w.heap.size w w' → Rd .u32 w' Q (limbs (val xs ^ (2 * (val es / 2 ^ (k + 1))) % val ms)) → Calls Try.prog 80 #[.slice Q (limbs (val xs ^ (2 * (val es / 2 ^ (k + 1))) % val ms)).length cq, .slice X xs.length c, .slice A ms.length cA] w' (Gives .u32 (limbs (val xs ^ (2 * (val es / 2 ^ (k + 1)) + 1) % val ms)) w')) := fun w' Q cq hb hr => by
            have h := refmul5_any A Q X _ _ _ cq c cA _ xs ms w' hM rfl rfl rfl hr (hx.below hb) (hA.below hb) (limbs_lim _) lx (may_limbs hM _) r1
            rw [val_limbs, Nat.mod_mul_mod, ← Nat.pow_succ] at h
            exact h
          have hcy : Hid (∀ w', Below w.heap.size w w' → ∃ b off, Y = some ⟨b, off, none⟩ ∧ w'.cell? ⟨b, off + k / 32, none⟩ = some (.int .u32 (x : Int))) := fun w' hb => by
            obtain ⟨b, off, h1, _, h3⟩ := (hy.below hb).pos hgx
            exact ⟨b, off, h1, h3 _ x hgx⟩
          have hS0 : Hid (bit = 0 → limbs (val xs ^ (val es / 2 ^ k) % val ms) = limbs (val xs ^ (2 * (val es / 2 ^ (k + 1))) % val ms)) := fun h => by rw [e2, h]; rfl
          have hS1 : Hid (bit = 1 → limbs (val xs ^ (val es / 2 ^ k) % val ms) = limbs (val xs ^ (2 * (val es / 2 ^ (k + 1)) + 1) % val ms)) := fun h => by rw [e2, h]
          have hb2 : bit ≤ 1 := by omega
          have hkl : ((k / 32 : Nat) : Int) < (es.length : Int) := by omega
          clear hgx hbit e1 e2 hc1
          generalize limbs (val xs ^ (2 * (val es / 2 ^ (k + 1))) % val ms) = S at *
          generalize limbs (val xs ^ (2 * (val es / 2 ^ (k + 1)) + 1) % val ms) = T at *
          go_wp2_with fail
          refine HC1.out.mono ?_
          rintro e w2 ⟨P2, c2, rfl, f1, f2, f3, f4⟩
          have hbel2 := hbel.trans (f4.mono hbel.size)
          obtain ⟨b, off, rfl, hcx⟩ := hcy.out w2 hbel2
          clear HC1
          rcases (show bit = 0 ∨ bit = 1 by omega) with rfl | rfl
          · have hS := Lib.hid (hS0.out rfl)
            clear hS0 hS1
            have hf3 := f3.mono hbel.size
            clear f3 f4 hbel
            go_wp2_with fail
            go_roundw
            case rel => exact ⟨k, S.length, c2, P2, rfl, by go_num, by omega, by show _ = _; rw [hS.out], f1, f2, by rw [hS.out]; exact hf3, hbel2⟩
            case measure => simp [intOf]
          · have hS := Lib.hid (hS1.out rfl)
            clear hS0 hS1
            have hC2 := Lib.hid (hc2.out w2 P2 c2 hbel2 f3.rd)
            clear hc2
            go_wp2_with fail
            refine hC2.out.mono ?_
            rintro e w3 ⟨P3, c3, rfl, g1, g2, g3, g4⟩
            have hbel3 := hbel2.trans (g4.mono hbel2.size)
            have hg3 := g3.mono hbel2.size
            clear hC2 g3 g4 f3 f4 hbel hcx
            go_wp2_with fail
            go_roundw
            case rel => exact ⟨k, T.length, c3, P3, rfl, by go_num, by omega, by show _ = _; rw [hS.out], g1, g2, by rw [hS.out]; exact hg3, hbel3⟩
            case measure => simp [intOf]
end Go.Proofs.Ytfclpieijbgodaa
