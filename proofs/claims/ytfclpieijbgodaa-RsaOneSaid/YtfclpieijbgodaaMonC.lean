/-
  A modulus: made (New), and the rest of a product (Mul).
-/
import Derived.Test.YtfclpieijbgodaaMonB
namespace Go.Proofs.Ytfclpieijbgodaa
set_option linter.unusedVariables false
set_option linter.unusedSimpArgs false
open Go.RowKit

/-- Is it a modulus? -/
def mayB (ms : List Nat) : Bool := isRight ms && decide (0 < ms.length) && decide (ms.length ≤ 128) && decide (val ms % 2 = 1) && decide (3 ≤ val ms)
structure MayM (ms : List Nat) : Prop where
  lm : Lim 4294967296 ms
  right : isRight ms = true
  pos : 0 < ms.length
  len : ms.length ≤ 128
  odd : val ms % 2 = 1
  three : 3 ≤ val ms
theorem mayB_out {ms : List Nat} (lm : Lim 4294967296 ms) (h : mayB ms = true) : MayM ms := by
  simp [mayB] at h
  obtain ⟨⟨⟨⟨h1, h2⟩, h3⟩, h4⟩, h5⟩ := h
  exact ⟨lm, h1, h2, h3, h4, h5⟩
/-- 2^32 to the number of limbs. -/
def radix (ms : List Nat) : Nat := 4294967296 ^ ms.length
def sqM (ms : List Nat) : List Nat := limbs (radix ms * radix ms % val ms)
/-- A modulus lies at g; its memory lies from block B on. -/
def ModOk (w : World) (B g : Nat) (ms : List Nat) : Prop :=
  ∃ ninv A c A2 c2, B ≤ g ∧ Cut w g 0 [.slice A ms.length c, .int .u32 ((ninv : Nat) : Int), .slice A2 (sqM ms).length c2] ∧ Own .u32 w B A ms ∧ Own .u32 w B A2 (sqM ms) ∧ ninv < 4294967296 ∧ 4294967296 ∣ val ms * ninv + 1
theorem ModOk.below {w w' : World} {B g : Nat} {ms : List Nat} (h : ModOk w B g ms) (hb : Below w.heap.size w w') : ModOk w' B g ms := by
  obtain ⟨ninv, A, c, A2, c2, h1, h2, h3, h4, h5⟩ := h
  exact ⟨ninv, A, c, A2, c2, h1, h2.below hb, h3.below hb, h4.below hb, h5⟩
theorem ModOk.drewN {w : World} {B g : Nat} {ms : List Nat} (h : ModOk w B g ms) (n : Nat) : ModOk (w.drewN n) B g ms := h.below (below_drewN (Below.refl _ _) n)
theorem ModOk.mono {w : World} {B B' g : Nat} {ms : List Nat} (h : ModOk w B g ms) (hB : B' ≤ B) : ModOk w B' g ms := by
  obtain ⟨ninv, A, c, A2, c2, h1, h2, h3, h4, h5⟩ := h
  exact ⟨ninv, A, c, A2, c2, Nat.le_trans hB h1, h2, h3.mono hB, h4.mono hB, h5⟩
theorem ModOk.mrd {w : World} {B g : Nat} {ms : List Nat} (h : ModOk w B g ms) : ∃ ninv A2 c2, MRd w g ms ninv ∧ w.cell? ⟨g, 2, none⟩ = some (.slice A2 (sqM ms).length c2) ∧ Rd .u32 w A2 (sqM ms) ∧ ninv < 4294967296 ∧ 4294967296 ∣ val ms * ninv + 1 := by
  obtain ⟨ninv, A, c, A2, c2, h1, h2, h3, h4, h5, h6⟩ := h
  have c0 := h2.cell (i := 0) rfl
  have c1 := h2.cell (i := 1) rfl
  have c3 := h2.cell (i := 2) rfl
  rw [Nat.zero_add] at c0 c1 c3
  exact ⟨ninv, A2, c2, ⟨A, c, h2.lt, c0, c1, h3.rd⟩, c3, h4.rd, h5, h6⟩
/-- What lies below block B may turn. -/
theorem ModOk.set {w : World} {B g : Nat} {ms : List Nat} (h : ModOk w B g ms) {p : Addr} (hp : p.block < B) (u : Value) : ModOk (w.setCell p u) B g ms := by
  obtain ⟨ninv, A, c, A2, c2, h1, h2, h3, h4, h5⟩ := h
  have key : ∀ {A : Option Addr} {xs : List Nat}, Own .u32 w B A xs → Own .u32 (w.setCell p u) B A xs := by
    intro A xs h
    rcases h with rfl | ⟨g', off, ds, rfl, hB, hb, hx⟩
    · exact Own.nil _ _ _ _
    · exact .inr ⟨g', off, ds, rfl, hB, hb.far (by omega) u, hx⟩
  exact ⟨ninv, A, c, A2, c2, h1, h2.far (by omega) u, key h3, key h4, h5⟩
/-- No modulus, and the error. -/
def NewNo (w : World) (e : Ending) (w' : World) : Prop := e = .returned (.tuple #[.pointer none, .int .i64 1]) ∧ w' = w
def NewYes (ms : List Nat) (w : World) (e : Ending) (w' : World) : Prop := ∃ g, e = .returned (.tuple #[.pointer (some ⟨g, 0, none⟩), .int .i64 0]) ∧ ModOk w' w.heap.size g ms ∧ Below w.heap.size w w'
theorem val_mod2 {ms : List Nat} {m0 : Nat} (lm : Lim 4294967296 ms) (h : ms[0]? = some m0) : val ms % 2 = m0 % 2 := by
  have h1 := val_drop_succ h
  rw [List.drop_zero] at h1
  omega
theorem val_three {ms : List Nat} {m0 : Nat} (lm : Lim 4294967296 ms) (rm : isRight ms = true) (h : ms[0]? = some m0) : (3 ≤ val ms) ↔ (ms.length ≠ 1 ∨ 3 ≤ m0) := by
  have h1 := val_drop_succ h
  rw [List.drop_zero] at h1
  have hl : 0 < ms.length := (List.getElem?_eq_some_iff.1 h).1
  rcases (show ms.length = 1 ∨ 2 ≤ ms.length by omega) with h2 | h2
  · rw [List.drop_of_length_le (by omega)] at h1
    simp [val] at h1
    omega
  · have h3 := val_lt_of_len (xs := [4294967295]) (ys := ms) (fun x hx => by simp at hx; omega) (isRight_canon lm rm) (by simp; omega)
    simp [val] at h3
    omega
set_option maxHeartbeats 800000 in
theorem newNo_any (A : Option Addr) (n c : Nat) (ms : List Nat) (w : World) (hn : n = ms.length) (hl : n ≤ 70000) (hx : Rd .u32 w A ms) (lm : Lim 4294967296 ms) (h : mayB ms = false) :
    Calls Try.prog 33 #[.slice A n c] w (NewNo w) := by
  subst hn
  cases r : isRight ms with
  | false =>
    clear h
    go_enter Try.func33, Try.ntmps33
    go_wp2_with fail
    refine (right_any _ _ c ms _ rfl (by omega) hx).mono ?_
    rintro e w' ⟨rfl, rfl⟩
    go_wp2_with fail
    go_ret2
    exact ⟨rfl, rfl⟩
  | true =>
    rcases Nat.eq_zero_or_pos ms.length with h0 | h0
    · obtain rfl : ms = [] := List.eq_nil_of_length_eq_zero h0
      clear h h0
      go_enter Try.func33, Try.ntmps33
      go_wp2_with fail
      refine (right_any _ 0 c [] _ rfl (by omega) hx).mono ?_
      rintro e w' ⟨rfl, rfl⟩
      rw [r]
      go_wp2_with fail
      go_ret2
      exact ⟨rfl, rfl⟩
    have z1 : ((ms.length : Int) == 0) = false := by simp; intro h; rw [h] at h0; simp at h0
    by_cases h128 : 128 < ms.length
    · have z2 : decide ((128 : Int) < (ms.length : Int)) = true := by simp; omega
      clear h
      go_enter Try.func33, Try.ntmps33
      go_wp2_with fail
      refine (right_any _ _ c ms _ rfl (by omega) hx).mono ?_
      rintro e w' ⟨rfl, rfl⟩
      go_wp2_with fail
      go_ret2
      exact ⟨rfl, rfl⟩
    have z2 : decide ((128 : Int) < (ms.length : Int)) = false := by simp; omega
    obtain ⟨m0, hm0⟩ := get_of_lt (xs := ms) (i := 0) h0
    obtain ⟨b, o, rfl, hbw, hcl⟩ := hx.pos hm0
    have hcell := hcl 0 m0 hm0
    rw [Nat.add_zero] at hcell
    have hb0 := lm.get hm0
    have i0 : (0 : Int) < (ms.length : Int) := by omega
    have v2 := val_mod2 lm hm0
    have v3 := val_three lm r hm0
    simp [mayB, r, h0, show ms.length ≤ 128 by omega] at h
    clear hcl hm0
    by_cases hodd : m0 % 2 = 0
    · have z3 : ((m0 : Int) % 2 == 0) = true := by simp; omega
      have z3' : ((m0 : Int).tmod 2 == 0) = true := by rw [Int.tmod_eq_emod_of_nonneg (by omega)]; exact z3
      clear h v2 v3 hodd
      go_enter Try.func33, Try.ntmps33
      go_wp2_with fail
      refine (right_any _ _ c ms _ rfl (by omega) hx).mono ?_
      rintro e w' ⟨rfl, rfl⟩
      go_wp2_with fail
      go_ret2
      exact ⟨rfl, rfl⟩
    have z3 : ((m0 : Int) % 2 == 0) = false := by simp; omega
    have hl1 : ms.length = 1 := by
      rcases (show ms.length = 1 ∨ ms.length ≠ 1 by omega) with h1 | h1
      · exact h1
      · have := v3.2 (.inl h1)
        have := h (by rw [v2]; omega)
        omega
    have hm3 : m0 < 3 := by
      rcases (show m0 < 3 ∨ 3 ≤ m0 by omega) with h1 | h1
      · exact h1
      · have := v3.2 (.inr h1)
        have := h (by rw [v2]; omega)
        omega
    have z4 : ((ms.length : Int) == 1) = true := by simp; omega
    have z5 : decide ((m0 : Int) < 3) = true := by simp; omega
    clear h v2 v3 hodd hl1
    go_enter Try.func33, Try.ntmps33
    go_wp2_with fail
    refine (right_any _ _ c ms _ rfl (by omega) hx).mono ?_
    rintro e w' ⟨rfl, rfl⟩
    go_wp2_with fail
    go_ret2
    exact ⟨rfl, rfl⟩
theorem inv_form (m0 v : Nat) : (v : Int) * ((2 - (m0 : Int) * (v : Int)) % 4294967296) % 4294967296 = ((invStep m0 v : Nat) : Int) := by
  unfold invStep
  have e0 : (2 - (m0 : Int) * (v : Int)) % 4294967296 = (2 - (m0 : Int) * (v : Int) % 4294967296) % 4294967296 := by omega
  rw [e0]
  have h : m0 * v % 4294967296 < 4294967296 := Nat.mod_lt _ (by omega)
  have e1 : (m0 : Int) * (v : Int) % 4294967296 = ((m0 * v % 4294967296 : Nat) : Int) := by simp
  rw [e1]
  generalize m0 * v % 4294967296 = t at *
  have e2 : (2 - (t : Int)) % 4294967296 = (((2 + (4294967296 - t)) % 4294967296 : Nat) : Int) := by omega
  rw [e2, ← Int.natCast_mul, show (4294967296 : Int) = ((4294967296 : Nat) : Int) from rfl, ← Int.natCast_emod]
theorem rep_set (n : Nat) : (List.replicate (n + 1) 0).set n 1 = List.replicate n 0 ++ [1] := by
  rw [List.replicate_succ', List.set_append_right _ _ (by simp)]
  simp
theorem own_far_new {k : IntKind} {w : World} {B : Nat} {A : Option Addr} {xs : List Nat} (h : Own k w B A xs) {p : Addr} (hp : p.block < B) (u : Value) : Own k (w.setCell p u) B A xs := by
  rcases h with rfl | ⟨g', off, ds, rfl, hB, hb, hx⟩
  · exact Own.nil _ _ _ _
  · exact .inr ⟨g', off, ds, rfl, hB, hb.far (by omega) u, hx⟩
theorem inv_lift {M m0 ninv : Nat} (hvm : M % 4294967296 = m0) (h : 4294967296 ∣ m0 * ninv + 1) : 4294967296 ∣ M * ninv + 1 := by
  have e : M * ninv + 1 = 4294967296 * (M / 4294967296 * ninv) + (m0 * ninv + 1) := by
    have h1 := Nat.div_add_mod M 4294967296
    rw [hvm] at h1
    rw [← Nat.add_assoc, ← Nat.mul_assoc, ← Nat.add_mul, h1]
  rw [e]
  exact Nat.dvd_add (Nat.dvd_mul_right _ _) h
theorem rep_cell (n : Nat) : (List.replicate (n + 1) 0)[n]? = some 0 := by simp
theorem pow_limbs (n : Nat) : limbs (4294967296 ^ n) = List.replicate n 0 ++ [1] := by
  refine (limbs_val (xs := List.replicate n 0 ++ [1]) ⟨(Lim.replicate (by omega)).append (fun x hx => by simp at hx; omega), by simp⟩).symm.trans ?_ |>.symm
  rw [val_append, val_replicate]
  simp [val]
set_option maxRecDepth 100000 in
set_option maxHeartbeats 1600000 in
theorem newYes_any (A : Option Addr) (n c : Nat) (ms : List Nat) (w : World) (hn : n = ms.length) (hx : Rd .u32 w A ms) (hM : MayM ms) :
    Calls Try.prog 33 #[.slice A n c] w (NewYes ms w) := by
  subst hn
  obtain ⟨lm, r, hp, h128, hodd, h3⟩ := hM
  obtain ⟨m0, hm0⟩ := get_of_lt (xs := ms) (i := 0) hp
  obtain ⟨b, o, rfl, hbw, hcl⟩ := hx.pos hm0
  have hcell := hcl 0 m0 hm0
  rw [Nat.add_zero] at hcell
  have hb0 := lm.get hm0
  have i0 : (0 : Int) < (ms.length : Int) := by omega
  have v2 := val_mod2 lm hm0
  have v3 := val_three lm r hm0
  have z1 : ((ms.length : Int) == 0) = false := by simp; intro h; rw [h] at hp; simp at hp
  have z2 : decide ((128 : Int) < (ms.length : Int)) = false := by simp; omega
  have z3 : ((m0 : Int) % 2 == 0) = false := by simp; omega
  have hi := invTo_ok (m0 := m0) (by omega)
  have hvm : val ms % 4294967296 = m0 := (val_head lm hm0).symm
  clear hcl hm0
  have hz := Lib.hid (show ((ms.length : Int) == 1) = false ∨ decide ((m0 : Int) < 3) = false by
    rcases v3.1 h3 with h | h
    · exact .inl (by simp; omega)
    · exact .inr (by simp; omega))
  clear v2 v3
  rcases (show ((ms.length : Int) == 1) = false ∨ (((ms.length : Int) == 1) = true ∧ decide ((m0 : Int) < 3) = false) by
    rcases hz.out with h | h
    · exact .inl h
    · cases h5 : ((ms.length : Int) == 1)
      · exact .inl rfl
      · exact .inr ⟨rfl, h⟩) with z4 | ⟨z4, z5⟩
  all_goals
    clear hz
    go_enter Try.func33, Try.ntmps33
    go_wp2_with fail
    refine (right_any _ _ c ms _ rfl (by omega) hx).mono ?_
    rintro e w' ⟨rfl, rfl⟩
    go_wp2_with (at_builtin; refine wpList_append_lit _ rfl (.tmp 41) (.tmp 42) _ rfl w 33 .u32 4 Try.underlying22 info_u32 _ _ rfl (World.ownsRow_made w #[] 0 (Nat.le_refl _) (Nat.zero_le _) rfl) _ ms.length _ ms rfl rfl (hx.alloc _) ((Below.refl _ _).alloc (Nat.le_refl _) _) (by omega) (by decide) ?_; intro gm cm w1 hgm hbm hc1 hc2 hb1)
    have hbel2 := hb1.alloc hb1.size (.cells #[.slice (some ⟨gm, 0, none⟩) ms.length cm, .int .u32 0, .slice none 0 0] 80)
    have hcut : Cut (w1.alloc (.cells #[.slice (some ⟨gm, 0, none⟩) ms.length cm, .int .u32 0, .slice none 0 0] 80)) w1.heap.size 0 [.slice (some ⟨gm, 0, none⟩) ms.length cm, .int .u32 0, .slice none 0 0] :=
      Cut.of_heap (heap_alloc_new w1 _) fun i v hv => by rw [Nat.zero_add, ← Array.getElem?_toList]; exact hv
    have hbm2 := hbm.alloc (.cells #[.slice (some ⟨gm, 0, none⟩) ms.length cm, .int .u32 0, .slice none 0 0] 80)
    have hcell2 := (hbel2.cell (p := ⟨b, o, none⟩) hbw).trans hcell
    have hGB := hb1.size
    have hgG : gm ≠ w1.heap.size := by have := hbm.lt; omega
    change Code.wp _ _ _ _ (w1.alloc (.cells #[.slice (some ⟨gm, 0, none⟩) ms.length cm, .int .u32 0, .slice none 0 0] 80))
    generalize w1.alloc (.cells #[.slice (some ⟨gm, 0, none⟩) ms.length cm, .int .u32 0, .slice none 0 0] 80) = w2 at *
    clear hbm hb1
    generalize w1.heap.size = G at *
    go_loop [5, 46] (fun s5 s46 => ∃ j : Nat, s5 = .int .u32 ((invTo m0 j : Nat) : Int) ∧ s46 = .int .i64 (j : Int) ∧ j ≤ 5) (fun _ s46 => 5 - (intOf s46).toNat)
    case atStart => exact ⟨0, rfl, rfl, by omega⟩
    case round =>
      obtain ⟨j, rfl, rfl, hj⟩ := hrel
      by_cases hj5 : j < 5
      · have hform := inv_form m0 (invTo m0 j)
        have hstep := Lib.hid (show invTo m0 (j + 1) = invStep m0 (invTo m0 j) from rfl)
        have hvl := invTo_lt m0 j
        generalize invTo m0 j = v at *
        go_wp2_with fail
        go_round
        case rel => exact ⟨j + 1, by rw [hstep.out, ← hform], by go_num, by omega⟩
        case measure => simp [intOf]; omega
      · obtain rfl : j = 5 := by omega
        have hvl := invTo_lt m0 5
        generalize invTo m0 5 = v at *
        obtain ⟨ninv, hni⟩ : ∃ ninv, ninv = (4294967296 - v) % 4294967296 := ⟨_, rfl⟩
        have hneg : -(v : Int) % 4294967296 = (ninv : Int) := by omega
        rw [← hni] at hi
        have hnl : ninv < 4294967296 := by rw [hni]; exact Nat.mod_lt _ (by omega)
        have hq1 := hcut.cell (i := 1) rfl
        have hf1 := hcut.frozen (i := 1) rfl
        rw [Nat.zero_add] at hq1 hf1
        have hcut3 := hcut.set (i := 1) rfl (.int .u32 (ninv : Int))
        rw [Nat.zero_add] at hcut3
        simp only [List.set_cons_succ, List.set_cons_zero] at hcut3
        have hbel3 := hbel2.setCell (p := ⟨G, 1, none⟩) hGB (.int .u32 (ninv : Int))
        have hbm3 := hbm2.far (p := ⟨G, 1, none⟩) hgG (.int .u32 (ninv : Int))
        clear hni hvl hcut hbel2 hbm2 hcell2
        go_wp2_with (at_make; refine wpList_make_ints _ rfl (.tmp 64) (.tmp 64) _ rfl .u32 33 4 Try.underlying22 info_u32 _ _ (ms.length + 1) _ _ rfl rfl (by omega) (by omega) (by omega) (by omega) ?_; intro gp w4 hgp hw4 hs4 hb4; have hpc := hw4.blk.cell (rep_cell ms.length); have hpf := hw4.blk.frozen (rep_cell ms.length); have hcut4 := hcut3.below hb4; have hd0 := hcut4.cell (i := 0) rfl; rw [Nat.zero_add] at hd0; have hGg : G ≠ gp := (by have := hcut3.lt; rw [hgp.out]; omega); have hd0' := (World.cell?_setCell_other w4 ⟨gp, ms.length, none⟩ ⟨G, 0, none⟩ (.int .u32 1) (by intro h; injection h with h; exact hGg h.symm)).trans hd0)
        have hwl5 : Whl .u32 33 (w4.setCell ⟨gp, ms.length, none⟩ (.int .u32 1)) gp (limbs (radix ms)) := by
          have h := hw4.set ms.length 1
          rw [rep_set, ← pow_limbs] at h
          exact h
        have hgpB : w.heap.size ≤ gp := by rw [hgp.out]; exact hbel3.size
        have hbel5 := (hbel3.trans (hb4.mono hbel3.size)).setCell (p := ⟨gp, ms.length, none⟩) hgpB (.int .u32 1)
        have hcut5 := hcut4.far (p := ⟨gp, ms.length, none⟩) hGg (.int .u32 1)
        have hbm5 := (hbm3.below hb4).far (p := ⟨gp, ms.length, none⟩) (by have h1 := hbm3.lt; have h2 := hgp.out; simp at h1 h2 ⊢; omega) (.int .u32 1)
        clear hcut3 hcut4 hb4 hbm3 hbel3 hpc hpf hd0 hd0' hw4
        generalize w4.setCell ⟨gp, ms.length, none⟩ (.int .u32 1) = w5 at *
        have hlr : (limbs (radix ms)).length = ms.length + 1 := by rw [radix, pow_limbs]; simp
        have hdiv := div_any (some ⟨gp, 0, none⟩) (some ⟨gm, 0, none⟩) _ _ (ms.length + 1) cm (limbs (radix ms)) ms w5 rfl rfl (by omega) (by omega) (Rd.of_all hwl5.blk) (Rd.of_all hbm5) (limbs_lim _) lm
        rw [divOf_ok (isRight_limbs (by omega)) r (by intro h; rw [h] at hp; simp at hp), val_limbs, hlr] at hdiv
        have hRM : radix ms % val ms < val ms := Nat.mod_lt _ (by omega)
        have hMl := val_lt lm
        have hl1 : (limbs (radix ms % val ms)).length ≤ 256 := Nat.le_trans (limbs_length_le (k := ms.length) (by omega)) (by omega)
        have hl2 : (limbs (val (limbs (radix ms % val ms)) * val (limbs (radix ms % val ms)))).length ≤ 256 := by
          rw [val_limbs]
          refine Nat.le_trans (limbs_length_le (k := ms.length + ms.length) ?_) (by omega)
          rw [Nat.pow_add]
          exact Nat.mul_lt_mul'' (by omega) (by omega)
        have hsq : limbs (val (limbs (radix ms % val ms)) * val (limbs (radix ms % val ms)) % val ms) = sqM ms := by rw [val_limbs, sqM, Nat.mul_mod (radix ms) (radix ms)]
        have HDV := Lib.hid hdiv
        have HSQ := Lib.hid hsq
        have HL2 := Lib.hid hl2
        have HL1 := Lib.hid hl1
        have HRT := Lib.hid (isRight_limbs hl1)
        have HLL := Lib.hid (limbs_lim (radix ms % val ms))
        clear hdiv hlr hRM hMl hl1 hl2 hsq hwl5
        generalize limbs (radix ms % val ms) = R at *
        generalize limbs (radix ms / val ms) = Q at *
        refine HDV.out.mono ?_
        rintro e w6 ⟨A1, c1, A2, c2, rfl, _, ⟨f1, f2⟩, _, f4, f5⟩
        have hcut6 := hcut5.below f5
        have hbm6 := hbm5.below f5
        have hbel6 := hbel5.trans (f5.mono hbel5.size)
        have hd0 := hcut6.cell (i := 0) rfl
        rw [Nat.zero_add] at hd0
        clear hcut5 hbm5 f5 hbel5 HDV
        go_wp2_with fail
        refine (mrest_any G ms (some ⟨gm, 0, none⟩) A2 A2 cm R.length R.length c2 c2 R R w6 hd0 hcut6.lt (Rd.of_all hbm6) lm r (by intro h; rw [h] at hp; simp at hp) rfl rfl f4.rd f4.rd HLL.out HLL.out HRT.out HRT.out HL2.out).mono ?_
        rintro e w7 ⟨A3, c3, rfl, g1, g2, g3, g4⟩
        rw [HSQ.out] at g1 g3 ⊢
        have hcut7 := hcut6.below g4
        have hbm7 := hbm6.below g4
        have hbel7 := hbel6.trans (g4.mono hbel6.size)
        have hq2 := hcut7.cell (i := 2) rfl
        have hf2 := hcut7.frozen (i := 2) rfl
        rw [Nat.zero_add] at hq2 hf2
        have hcut8 := hcut7.set (i := 2) rfl (.slice A3 (sqM ms).length c3)
        rw [Nat.zero_add] at hcut8
        simp only [List.set_cons_succ, List.set_cons_zero] at hcut8
        have hbel8 := hbel7.setCell (p := ⟨G, 2, none⟩) hGB (.slice A3 (sqM ms).length c3)
        have hbm8 := hbm7.far (p := ⟨G, 2, none⟩) hgG (.slice A3 (sqM ms).length c3)
        have hO8 := own_far_new g3 (p := ⟨G, 2, none⟩) hcut6.lt (.slice A3 (sqM ms).length c3)
        have hsz6 := hbel6.size
        clear hcut6 hbm6 hbel6 hcut7 hbm7 hbel7 g3 g4 hd0
        go_wp2_with fail
        go_ret2
        exact ⟨G, rfl, ⟨ninv, _, _, _, _, hGB, hcut8, Own.of_blk hbm8 hgm, hO8.mono hsz6, hnl, inv_lift hvm hi⟩, hbel8⟩
end Go.Proofs.Ytfclpieijbgodaa
