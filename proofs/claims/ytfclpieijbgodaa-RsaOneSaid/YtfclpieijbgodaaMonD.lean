/-
  The rest of a product, by a modulus (Mul).
-/
import Derived.Test.YtfclpieijbgodaaMonC
namespace Go.Proofs.Ytfclpieijbgodaa
set_option linter.unusedVariables false
set_option linter.unusedSimpArgs false
open Go.RowKit

def mulMOf (xs ys ms : List Nat) : List Nat × Int := if mayOf xs ms = true ∧ mayOf ys ms = true then (limbs (val xs * val ys % val ms), 0) else ([], 1)
theorem mayOf_out {xs ms : List Nat} (lm : Lim 4294967296 ms) (lx : Lim 4294967296 xs) (h : mayOf xs ms = true) : isRight xs = true ∧ val xs < val ms ∧ xs.length ≤ ms.length := by
  simp [mayOf] at h
  refine ⟨h.1, h.2, ?_⟩
  rcases Nat.lt_or_ge ms.length xs.length with h1 | h1
  · have := val_lt_of_len lm (isRight_canon lx h.1) h1
    omega
  · exact h1
theorem gives2_arg (w w' : World) (er : Int) (h : Below w.heap.size w w') : Gives2 .u32 [] er w (.returned (.tuple #[.slice none 0 0, .int .i64 er])) w' := gives2_none _ _ _ _ h
set_option maxHeartbeats 400000 in
theorem mmulNil_any (a b : Value) (w : World) : Calls Try.prog 35 #[.pointer none, a, b] w (fun e w' => e = .returned (.tuple #[.slice none 0 0, .int .i64 2]) ∧ w' = w) := by
  go_enter Try.func35, Try.ntmps35
  go_wp2_with fail
  go_ret2
  exact ⟨rfl, rfl⟩
set_option maxHeartbeats 400000 in
theorem mmulArg_any (B0 g : Nat) (ms : List Nat) (X Y : Option Addr) (n m c d : Nat) (xs ys : List Nat) (w : World) (hO : ModOk w B0 g ms) (hM : MayM ms) (hn : n = xs.length) (hm : m = ys.length) (hl : n ≤ 70000) (hl' : m ≤ 70000) (hx : Rd .u32 w X xs) (hy : Rd .u32 w Y ys) (lx : Lim 4294967296 xs) (ly : Lim 4294967296 ys)
    (h : mayOf xs ms = false ∨ mayOf ys ms = false) :
    Calls Try.prog 35 #[.pointer (some ⟨g, 0, none⟩), .slice X n c, .slice Y m d] w (Gives2 .u32 [] 1 w) := by
  subst hn
  subst hm
  obtain ⟨ninv, A2, c2, hR, -⟩ := hO.mrd
  have hmx := Lib.hid (mmay_any g ms ninv X _ c xs w hR hM.right rfl hl hx lx hM.lm)
  have hmy : Hid (∀ q, Calls Try.prog 75 #[.pointer (some ⟨g, 0, none⟩), .slice Y ys.length d] (w.drewN q) (Quiet (.bool (mayOf ys ms)) (w.drewN q))) := fun q =>
    mmay_any g ms ninv Y _ d ys (w.drewN q) (hR.below (below_drewN (Below.refl _ _) q)) hM.right rfl hl' (hy.drewN q) ly hM.lm
  cases r1 : mayOf xs ms with
  | false =>
    rw [r1] at hmx
    clear h
    go_enter Try.func35, Try.ntmps35
    go_wp2_with fail
    refine hmx.out.mono ?_
    rintro e w' ⟨rfl, q, rfl⟩
    go_wp2_with fail
    go_ret2
    exact gives2_arg _ _ _ (below_drewN (Below.refl _ _) q)
  | true =>
    have r2 : mayOf ys ms = false := by simpa [r1] using h
    rw [r1] at hmx
    rw [r2] at hmy
    clear h
    go_enter Try.func35, Try.ntmps35
    go_wp2_with fail
    refine hmx.out.mono ?_
    rintro e w' ⟨rfl, q, rfl⟩
    go_wp2_with fail
    refine (hmy.out q).mono ?_
    rintro e w' ⟨rfl, q2, rfl⟩
    go_wp2_with fail
    go_ret2
    exact gives2_arg _ _ _ (by first | exact below_drewN (Below.refl _ _) (q + q2) | exact below_drewN (below_drewN (Below.refl _ _) q) q2)
theorem sqM_lt {ms : List Nat} (hM : MayM ms) : val (sqM ms) < val ms := by
  rw [sqM, val_limbs]
  exact Nat.mod_lt _ (by have := hM.three; omega)
theorem sqM_len {ms : List Nat} (hM : MayM ms) : (sqM ms).length ≤ ms.length :=
  limbs_length_le (by
    have h1 := val_lt hM.lm
    have h2 : radix ms * radix ms % val ms < val ms := Nat.mod_lt _ (by have := hM.three; omega)
    omega)
theorem sqM_cg (ms : List Nat) : Cg (val ms) (val (sqM ms)) (radix ms * radix ms) := by
  rw [sqM, val_limbs]
  exact Cg.mod _ _
theorem radix_coprime {ms : List Nat} (hM : MayM ms) : (radix ms).Coprime (val ms) := odd_coprime hM.odd _
theorem mul_value {ms : List Nat} (hM : MayM ms) {X Y t v : Nat} (ht : Cg (val ms) (t * radix ms) (X * Y)) (hv : Cg (val ms) (v * radix ms) (t * val (sqM ms))) (hlt : v < val ms) : v = X * Y % val ms := by
  have h1 : Cg (val ms) v (X * Y) := by
    refine Cg.cancel (radix_coprime hM) ?_
    refine (hv.trans ((Cg.refl _ t).mul (sqM_cg ms))).trans ?_
    rw [← Nat.mul_assoc]
    exact ht.mul (Cg.refl _ _)
  exact (h1.trans (Cg.mod _ _).symm).eq hlt (Nat.mod_lt _ (by omega))
/-- mred by rows of the modulus' length. -/
theorem mred_radix {ms rs : List Nat} {ninv Y : Nat} (h : 4294967296 ∣ val ms * ninv + 1) (hl : rs.length = ms.length) : Cg (val ms) (mred (val ms) ninv Y rs * radix ms) (val rs * Y) := by
  have := mred_mul (Y := Y) (xs := rs) h
  rw [hl] at this
  exact this
set_option maxRecDepth 100000 in
set_option maxHeartbeats 1600000 in
theorem mmulOk_any (B0 g : Nat) (ms : List Nat) (X Y : Option Addr) (n m c d : Nat) (xs ys : List Nat) (w : World) (hO : ModOk w B0 g ms) (hM : MayM ms) (hn : n = xs.length) (hm : m = ys.length) (hx : Rd .u32 w X xs) (hy : Rd .u32 w Y ys) (lx : Lim 4294967296 xs) (ly : Lim 4294967296 ys)
    (h1 : mayOf xs ms = true) (h2 : mayOf ys ms = true) :
    Calls Try.prog 35 #[.pointer (some ⟨g, 0, none⟩), .slice X n c, .slice Y m d] w (Gives2 .u32 (limbs (val xs * val ys % val ms)) 0 w) := by
  subst hn
  subst hm
  obtain ⟨ninv, A2, c2, hR, hsq, hrs, hnl, hni⟩ := hO.mrd
  obtain ⟨rx, hxM, hxl⟩ := mayOf_out hM.lm lx h1
  obtain ⟨ry, hyM, hyl⟩ := mayOf_out hM.lm ly h2
  have hml := hM.len
  have hsl := sqM_len hM
  have hsv := sqM_lt hM
  have hmx := Lib.hid (mmay_any g ms ninv X _ c xs w hR hM.right rfl (by omega) hx lx hM.lm)
  have hmy : Hid (∀ q, Calls Try.prog 75 #[.pointer (some ⟨g, 0, none⟩), .slice Y ys.length d] (w.drewN q) (Quiet (.bool (mayOf ys ms)) (w.drewN q))) := fun q =>
    mmay_any g ms ninv Y _ d ys (w.drewN q) (hR.below (below_drewN (Below.refl _ _) q)) hM.right rfl (by omega) (hy.drewN q) ly hM.lm
  rw [h1] at hmx
  rw [h2] at hmy
  have hgl : g < w.heap.size := by obtain ⟨_, _, h, _⟩ := hR; exact h
  clear h1 h2 hO
  go_enter Try.func35, Try.ntmps35
  go_wp2_with fail
  refine hmx.out.mono ?_
  rintro e w' ⟨rfl, q, rfl⟩
  go_wp2_with fail
  refine (hmy.out q).mono ?_
  rintro e w' ⟨rfl, q2, rfl⟩
  have hb0 : Below w.heap.size w ((w.drewN q).drewN q2) := below_drewN (below_drewN (Below.refl _ _) q) q2
  generalize (w.drewN q).drewN q2 = w0 at *
  clear hmx hmy
  go_wp2_with fail
  refine (mwide_any g ms ninv X _ c xs w0 (hR.below hb0) (by omega) rfl hxl (hx.below hb0) lx).mono ?_
  rintro e w1 ⟨r1, k1, k2, k3, A1, c1, rfl, k4, k5, k6, k7⟩
  have hb1 := hb0.trans (k7.mono hb0.size)
  rw [k1]
  go_wp2_with fail
  refine (mwide_any g ms ninv Y _ d ys w1 (hR.below hb1) (by omega) rfl hyl (hy.below hb1) ly).mono ?_
  rintro e w3 ⟨r3, l1, l2, l3, A3, c3, rfl, l4, l5, l6, l7⟩
  have hb3 := hb1.trans (l7.mono hb1.size)
  rw [l1]
  go_wp2_with fail
  refine (mreduce_any g ms ninv A1 A3 _ _ c1 c3 r1 r3 w3 (hR.below hb3) (by omega) rfl rfl k1 l1 (k6.rd.below l7) l6.rd k2 l2 hM.lm hni hnl hM.pos (by rw [l3]; exact hyM)).mono ?_
  rintro e w4 ⟨r4, m1, m2, m3, A4, c4, rfl, m4, m5, m6, m7⟩
  have hb4 := hb3.trans (m7.mono hb3.size)
  have hv1 := mred_radix (Y := val r3) (rs := r1) hni k1
  rw [← m3, k3, l3] at hv1
  have hsq4 := (hb4.cell (p := ⟨g, 2, none⟩) hgl).trans hsq
  rw [m1]
  clear k4 k5 k6 k7 l4 l5 l6 l7 m4 m5 m7 m3
  go_wp2_with fail
  refine (mwide_any g ms ninv A2 _ c2 (sqM ms) w4 (hR.below hb4) (by omega) rfl hsl (hrs.below hb4) (limbs_lim _)).mono ?_
  rintro e w5 ⟨r5, k1', k2', k3', A5, c5, rfl, k4, k5, k6, k7⟩
  have hb5 := hb4.trans (k7.mono hb4.size)
  rw [k1']
  go_wp2_with fail
  refine (mreduce_any g ms ninv A4 A5 _ _ c4 c5 r4 r5 w5 (hR.below hb5) (by omega) rfl rfl m1 k1' (m6.rd.below k7) k6.rd m2 k2' hM.lm hni hnl hM.pos (by rw [k3']; exact hsv)).mono ?_
  rintro e w6 ⟨r6, n1, n2, n3, A6, c6, rfl, n4, n5, n6, n7⟩
  have hb6 := hb5.trans (n7.mono hb5.size)
  have hv2 := mred_radix (Y := val r5) (rs := r4) hni m1
  have hlt := mred_lt (Y := val r5) (xs := r4) hni (by rw [k3']; exact hsv) m2
  rw [← n3, k3'] at hv2
  rw [← n3] at hlt
  have hval := Lib.hid (mul_value hM hv1 hv2 hlt)
  rw [n1]
  clear hv1 hv2 hlt k4 k5 k6 k7 n3
  go_wp2_with fail
  refine (mnarrow_any A6 ms.length c6 r6 w6 n1.symm (by omega) (by simp only [maxLen] at n5; omega) n6.rd n2).mono ?_
  rintro e w7 ⟨p, rfl, hp, ht, rfl⟩
  go_wp2_with fail
  go_ret2
  rw [hval.out] at ht
  have hOw := n6.take p
  rw [ht.out] at hOw
  have hlen : (limbs (val xs * val ys % val ms)).length = p := by rw [← ht.out, List.length_take]; omega
  exact ⟨A6, p, by rw [hlen]; rfl, by rw [hlen]; exact Nat.le_refl _, by simp only [maxLen]; omega, hOw.mono hb5.size, hb6⟩
theorem mmul_any (B0 g : Nat) (ms : List Nat) (X Y : Option Addr) (n m c d : Nat) (xs ys : List Nat) (w : World) (hO : ModOk w B0 g ms) (hM : MayM ms) (hn : n = xs.length) (hm : m = ys.length) (hl : n ≤ 70000) (hl' : m ≤ 70000) (hx : Rd .u32 w X xs) (hy : Rd .u32 w Y ys) (lx : Lim 4294967296 xs) (ly : Lim 4294967296 ys) :
    Calls Try.prog 35 #[.pointer (some ⟨g, 0, none⟩), .slice X n c, .slice Y m d] w (Gives2 .u32 (mulMOf xs ys ms).1 (mulMOf xs ys ms).2 w) := by
  unfold mulMOf
  by_cases h : mayOf xs ms = true ∧ mayOf ys ms = true
  · rw [if_pos h]
    exact mmulOk_any B0 g ms X Y n m c d xs ys w hO hM hn hm hx hy lx ly h.1 h.2
  · rw [if_neg h]
    exact mmulArg_any B0 g ms X Y n m c d xs ys w hO hM hn hm hl hl' hx hy lx ly (not_and_bool h)
end Go.Proofs.Ytfclpieijbgodaa
