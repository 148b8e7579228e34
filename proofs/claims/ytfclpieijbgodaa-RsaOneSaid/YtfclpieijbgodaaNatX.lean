/-
  The walk of the statement NatReckons: sums, differences, products, quotients and rests, and which of two is above, are told as the document says.
-/
import Derived.Test.YtfclpieijbgodaaNatW
import Derived.Test.YtfclpieijbgodaaArr
namespace Go.Proofs.Ytfclpieijbgodaa
set_option linter.unusedVariables false
set_option linter.unusedSimpArgs false
open Go.RowKit

theorem refDiv_all (A B : Option Addr) (n m c d : Nat) (xs ys : List Nat) (w : World) (hn : n = xs.length) (hm : m = ys.length) (hl : n ≤ 30000) (hl' : m ≤ 30000) (hx : Rd .u32 w A xs) (hy : Rd .u32 w B ys) (lx : Lim 4294967296 xs) (ly : Lim 4294967296 ys) :
    Calls Try.prog 25 #[.slice A n c, .slice B m d] w (Gives3 (divOf xs ys).1 (divOf xs ys).2.1 (divOf xs ys).2.2 w) := by
  by_cases h : isRight xs = true ∧ isRight ys = true ∧ ys ≠ []
  · obtain ⟨h1, h2, h3⟩ := h
    rw [divOf_ok h1 h2 h3]
    exact refDiv_ok A B n m c d xs ys w hn hm hl hl' hx hy lx ly h1 h2 h3
  · subst hn
    subst hm
    cases r1 : isRight xs with
    | false =>
      have hs := Lib.hid (divOf_arg (xs := xs) (ys := ys) (.inl r1))
      clear h
      go_enter Try.func25, Try.ntmps25
      go_wp2_with fail
      refine (refRight_any _ _ c xs _ rfl (by omega) hx).mono ?_
      rintro e w' ⟨rfl, rfl⟩
      go_wp2_with fail
      go_ret3
      rw [hs.out]
      exact gives3_none _ _ _ (Below.refl _ _)
    | true =>
      cases r2 : isRight ys with
      | false =>
        have hs := Lib.hid (divOf_arg (xs := xs) (ys := ys) (.inr (.inl r2)))
        clear h
        go_enter Try.func25, Try.ntmps25
        go_wp2_with fail
        refine (refRight_any _ _ c xs _ rfl (by omega) hx).mono ?_
        rintro e w' ⟨rfl, rfl⟩
        go_wp2_with fail
        refine (refRight_any _ _ d ys _ rfl (by omega) hy).mono ?_
        rintro e w' ⟨rfl, rfl⟩
        go_wp2_with fail
        go_ret3
        rw [hs.out]
        exact gives3_none _ _ _ (Below.refl _ _)
      | true =>
        have he : ys = [] := by simpa [r1, r2] using h
        subst he
        have hs := Lib.hid (divOf_arg (xs := xs) (ys := []) (.inr (.inr rfl)))
        clear h
        go_enter Try.func25, Try.ntmps25
        go_wp2_with fail
        refine (refRight_any _ _ c xs _ rfl (by omega) hx).mono ?_
        rintro e w' ⟨rfl, rfl⟩
        go_wp2_with fail
        refine (refRight_any _ 0 d [] _ rfl (by omega) hy).mono ?_
        rintro e w' ⟨rfl, rfl⟩
        rw [r2]
        go_wp2_with fail
        go_ret3
        rw [hs.out]
        exact gives3_none _ _ _ (Below.refl _ _)
theorem twin_rd4 {w : World} {g : Nat} {xs : List Nat} (h : Blk .u32 w g (xs ++ [7, 9])) : Rd .u32 w (some ⟨g, 0, none⟩) xs := by
  have := (Rd.of_all h).take xs.length
  rwa [List.take_left] at this
theorem fitsOf_len (v : Nat) : (fitsOf v).1.length ≤ 256 := by
  unfold fitsOf
  split
  · assumption
  · simp
theorem addOf_len (xs ys : List Nat) : (addOf xs ys).1.length ≤ 256 := by
  unfold addOf
  split
  · exact fitsOf_len _
  · simp
theorem mulOf_len (xs ys : List Nat) : (mulOf xs ys).1.length ≤ 256 := by
  unfold mulOf
  split
  · exact fitsOf_len _
  · simp
theorem limbs_le_len {xs : List Nat} (lx : Lim 4294967296 xs) (h : isRight xs = true) {v : Nat} (hv : v ≤ val xs) : (limbs v).length ≤ 256 :=
  Nat.le_trans (limbs_length_le (Nat.lt_of_le_of_lt hv (val_lt lx))) (isRight_len h)
theorem subOf_len (xs ys : List Nat) (lx : Lim 4294967296 xs) : (subOf xs ys).1.length ≤ 256 := by
  unfold subOf
  split
  · rename_i h
    exact limbs_le_len lx h.1 (Nat.sub_le _ _)
  · simp
theorem divOf_len (xs ys : List Nat) (lx : Lim 4294967296 xs) : (divOf xs ys).1.length ≤ 256 ∧ (divOf xs ys).2.1.length ≤ 256 := by
  unfold divOf
  split
  · rename_i h
    exact ⟨limbs_le_len lx h.1 (Nat.div_le_self _ _), limbs_le_len lx h.1 (Nat.mod_le _ _)⟩
  · simp
/-- A row from block B on and ahead of block T that may be written over. -/
def Tch (w : World) (B T : Nat) (A : Option Addr) (n : Nat) : Prop :=
  n = 0 ∨ ∃ g off, A = some ⟨g, off, none⟩ ∧ B ≤ g ∧ g < T ∧ ∀ j, j < n → ∃ v, w.cell? ⟨g, off + j, none⟩ = some v ∧ w.frozen? ⟨g, off + j, none⟩ = false
theorem Tch.of_own {w : World} {B T : Nat} {A : Option Addr} {xs : List Nat} (h : Own .u32 w B A xs) (hT : w.heap.size ≤ T) : Tch w B T A xs.length := by
  rcases h with rfl | ⟨g, off, ds, rfl, hB, hb, hx⟩
  · exact .inl rfl
  · refine .inr ⟨g, off, rfl, hB, Nat.lt_of_lt_of_le hb.lt hT, fun j hj => ?_⟩
    obtain ⟨x, hgx⟩ := get_of_lt hj
    exact ⟨_, hb.2 _ _ (hx j x hgx)⟩
theorem Tch.keep {w w' : World} {B T : Nat} {A : Option Addr} {n : Nat} (h : Tch w B T A n) (hk : ∀ g, g < T → w'.heap[g]? = w.heap[g]?) : Tch w' B T A n := by
  rcases h with h | ⟨g, off, rfl, hB, hT, hc⟩
  · exact .inl h
  · refine .inr ⟨g, off, rfl, hB, hT, fun j hj => ?_⟩
    obtain ⟨v, h1, h2⟩ := hc j hj
    exact ⟨v, (World.cell?_of_block (w := w) (a := ⟨g, off + j, none⟩) (hk g hT)).trans h1, (World.frozen?_of_block (w := w) (a := ⟨g, off + j, none⟩) (hk g hT)).trans h2⟩
theorem Tch.set {w : World} {B T : Nat} {A : Option Addr} {n : Nat} (h : Tch w B T A n) (p : Addr) (u : Value) : Tch (w.setCell p u) B T A n := by
  rcases h with h | ⟨g, off, rfl, hB, hT, hc⟩
  · exact .inl h
  · refine .inr ⟨g, off, rfl, hB, hT, fun j hj => ?_⟩
    obtain ⟨v, h1, h2⟩ := hc j hj
    by_cases e : (⟨g, off + j, none⟩ : Addr) = p
    · rw [e] at h1 h2 ⊢
      exact ⟨u, World.cell?_setCell_same w _ _ h1, by rw [World.frozen?_setCell]; exact h2⟩
    · exact ⟨v, (World.cell?_setCell_other w _ _ _ (fun h => e h.symm)).trans h1, by rw [World.frozen?_setCell]; exact h2⟩
/-- Slices of the call's own side by side. -/
def Owns (w : World) (B : Nat) (l : List (Option Addr × List Nat)) : Prop := ∀ (i : Nat) (r : Option Addr × List Nat), l[i]? = some r → Own .u32 w B r.1 r.2
theorem Owns.nil (w : World) (B : Nat) : Owns w B [] := fun i r h => by simp at h
theorem Owns.put {w : World} {B : Nat} {l : List (Option Addr × List Nat)} {A : Option Addr} {xs : List Nat} (h : Owns w B l) (ho : Own .u32 w B A xs) : Owns w B (l ++ [(A, xs)]) := fun i r hr => by
  rcases Nat.lt_or_ge i l.length with hlt | hge
  · rw [List.getElem?_append_left hlt] at hr
    exact h i r hr
  · rw [List.getElem?_append_right hge] at hr
    rcases Nat.eq_zero_or_pos (i - l.length) with h0 | h0
    · rw [h0] at hr
      simp at hr
      subst hr
      exact ho
    · rw [List.getElem?_eq_none (by simp; omega)] at hr
      cases hr
theorem Owns.below {w w' : World} {B : Nat} {l : List (Option Addr × List Nat)} (h : Owns w B l) (hb : Below w.heap.size w w') : Owns w' B l := fun i r hr => (h i r hr).below hb
theorem Owns.add {w w' : World} {B : Nat} {l : List (Option Addr × List Nat)} {A : Option Addr} {xs : List Nat} (h : Owns w B l) (hb : Below w.heap.size w w') (ho : Own .u32 w' w.heap.size A xs) (hB : B ≤ w.heap.size) : Owns w' B (l ++ [(A, xs)]) := (h.below hb).put (ho.mono hB)
theorem Owns.drewN {w : World} {B : Nat} {l : List (Option Addr × List Nat)} (h : Owns w B l) (n : Nat) : Owns (w.drewN n) B l := fun i r hr => (h i r hr).drewN n
theorem Owns.rd {w : World} {B : Nat} {l : List (Option Addr × List Nat)} (h : Owns w B l) (i : Nat) {A : Option Addr} {xs : List Nat} (hi : l[i]? = some (A, xs)) : Rd .u32 w A xs := (h i _ hi).rd
/-- A slice of slices, each of which may be written over. -/
def RowsT (w : World) (B G : Nat) (R : List (Option Addr × Nat × Nat)) : Prop := ∀ (i : Nat) (r : Option Addr × Nat × Nat), R[i]? = some r → w.cell? ⟨G, i, none⟩ = some (.slice r.1 r.2.1 r.2.2) ∧ Tch w B G r.1 r.2.1 ∧ r.2.1 ≤ 256
theorem RowsT.set {w : World} {B G : Nat} {R : List (Option Addr × Nat × Nat)} (h : RowsT w B G R) {p : Addr} (hp : p.block < G) (u : Value) : RowsT (w.setCell p u) B G R := fun i r hr => by
  obtain ⟨h1, h2, h3⟩ := h i r hr
  exact ⟨(World.cell?_setCell_other w _ _ _ (by rintro rfl; simp at hp)).trans h1, h2.set p u, h3⟩
theorem RowsT.cons0 {w : World} {B : Nat} {l : List (Option Addr × List Nat × Nat)} (t : TypeId) (h : ∀ (i : Nat) (r : Option Addr × List Nat × Nat), l[i]? = some r → Own .u32 w B r.1 r.2.1 ∧ r.2.1.length ≤ 256) :
    RowsT (w.alloc (.cells (l.map fun r => Value.slice r.1 r.2.1.length r.2.2).toArray t)) B w.heap.size (l.map fun r => (r.1, r.2.1.length, r.2.2)) := fun i r hr => by
  rw [List.getElem?_map, Option.map_eq_some_iff] at hr
  obtain ⟨s, hs, rfl⟩ := hr
  obtain ⟨h1, h2⟩ := h i s hs
  refine ⟨?_, (Tch.of_own h1 (Nat.le_refl _)).keep fun g hg => Below.heap_alloc w _ g hg, h2⟩
  rw [cell_of_row _ _ i _ t (0, 0) (heap_alloc_new w _)]
  simp [hs]
set_option maxRecDepth 100000 in
set_option maxHeartbeats 3200000 in
theorem natReckons_any (A B : Option Addr) (n m c d : Nat) (xs ys : List Nat) (w : World) (hn : n = xs.length) (hm : m = ys.length) (hnl : n ≤ 9223372036854775807) (hml : m ≤ 9223372036854775807)
    (hx : Rd .u32 w A xs) (hy : Rd .u32 w B ys) (lx : Lim 4294967296 xs) (ly : Lim 4294967296 ys) :
    Calls Try.prog 3 #[.slice A n c, .slice B m d] w (Yes w) := by
  subst hn
  subst hm
  by_cases hbig : 300 < xs.length ∨ 300 < ys.length
  · have hv : (decide (300 < xs.length) || decide (300 < ys.length)) = true := by simpa using hbig
    clear hbig
    go_enter Try.func3, Try.ntmps3
    go_wp2_with fail
    refine (vast_any A B xs.length ys.length c d _ (by omega) (by omega)).mono ?_
    rintro e w' ⟨rfl, rfl⟩
    rw [hv]
    go_wp2_with fail
    refine (works_any _).mono ?_
    rintro e w1 ⟨rfl, hb⟩
    go_wp2_with fail
    go_ret
    exact ⟨rfl, hb⟩
  · have hx3 : xs.length ≤ 300 := by omega
    have hy3 : ys.length ≤ 300 := by omega
    have hv : (decide (300 < xs.length) || decide (300 < ys.length)) = false := by simp; omega
    clear hbig
    obtain ⟨p1, er1, hp1l, hP1, hR1⟩ : ∃ (p : List Nat) (er : Int), p.length ≤ 256 ∧ Hid (∀ A B c d w, Rd .u32 w A xs → Rd .u32 w B ys → Calls Try.prog 18 #[.slice A xs.length c, .slice B ys.length d] w (Gives2 .u32 p er w)) ∧ Hid (∀ A B c d w, Rd .u32 w A xs → Rd .u32 w B ys → Calls Try.prog 19 #[.slice A xs.length c, .slice B ys.length d] w (Gives2 .u32 p er w)) :=
      ⟨_, _, by first | exact addOf_len xs ys | exact addOf_len xs ys lx, fun A B c d w hx hy => add_all A B _ _ c d xs ys w rfl rfl (by omega) (by omega) hx hy lx ly, fun A B c d w hx hy => refAdd_all A B _ _ c d xs ys w rfl rfl (by omega) (by omega) hx hy lx ly⟩
    obtain ⟨p2, er2, hp2l, hP2, hR2⟩ : ∃ (p : List Nat) (er : Int), p.length ≤ 256 ∧ Hid (∀ A B c d w, Rd .u32 w A xs → Rd .u32 w B ys → Calls Try.prog 20 #[.slice A xs.length c, .slice B ys.length d] w (Gives2 .u32 p er w)) ∧ Hid (∀ A B c d w, Rd .u32 w A xs → Rd .u32 w B ys → Calls Try.prog 21 #[.slice A xs.length c, .slice B ys.length d] w (Gives2 .u32 p er w)) :=
      ⟨_, _, by first | exact subOf_len xs ys | exact subOf_len xs ys lx, fun A B c d w hx hy => sub_all A B _ _ c d xs ys w rfl rfl (by omega) (by omega) hx hy lx ly, fun A B c d w hx hy => refSub_all A B _ _ c d xs ys w rfl rfl (by omega) (by omega) hx hy lx ly⟩
    obtain ⟨p3, er3, hp3l, hP3, hR3⟩ : ∃ (p : List Nat) (er : Int), p.length ≤ 256 ∧ Hid (∀ A B c d w, Rd .u32 w A xs → Rd .u32 w B ys → Calls Try.prog 22 #[.slice A xs.length c, .slice B ys.length d] w (Gives2 .u32 p er w)) ∧ Hid (∀ A B c d w, Rd .u32 w A xs → Rd .u32 w B ys → Calls Try.prog 23 #[.slice A xs.length c, .slice B ys.length d] w (Gives2 .u32 p er w)) :=
      ⟨_, _, by first | exact mulOf_len xs ys | exact mulOf_len xs ys lx, fun A B c d w hx hy => mul_all A B _ _ c d xs ys w rfl rfl (by omega) (by omega) hx hy lx ly, fun A B c d w hx hy => refMul_all A B _ _ c d xs ys w rfl rfl (by omega) (by omega) hx hy lx ly⟩
    obtain ⟨p4, p5, er4, hp4l, hp5l, hP4, hR4⟩ : ∃ (p r : List Nat) (er : Int), p.length ≤ 256 ∧ r.length ≤ 256 ∧ Hid (∀ A B c d w, Rd .u32 w A xs → Rd .u32 w B ys → Calls Try.prog 24 #[.slice A xs.length c, .slice B ys.length d] w (Gives3 p r er w)) ∧ Hid (∀ A B c d w, Rd .u32 w A xs → Rd .u32 w B ys → Calls Try.prog 25 #[.slice A xs.length c, .slice B ys.length d] w (Gives3 p r er w)) :=
      ⟨_, _, _, (divOf_len xs ys lx).1, (divOf_len xs ys lx).2, fun A B c d w hx hy => div_any A B _ _ c d xs ys w rfl rfl (by omega) (by omega) hx hy lx ly, fun A B c d w hx hy => refDiv_all A B _ _ c d xs ys w rfl rfl (by omega) (by omega) hx hy lx ly⟩
    obtain ⟨cm, hC1, hC2⟩ : ∃ (cm : Int), Hid (∀ A B c d w, Rd .u32 w A xs → Rd .u32 w B ys → Calls Try.prog 27 #[.slice A xs.length c, .slice B ys.length d] w (Quiet (.int .i64 cm) w)) ∧ Hid (∀ A B c d w, Rd .u32 w A xs → Rd .u32 w B ys → Calls Try.prog 28 #[.slice A xs.length c, .slice B ys.length d] w (Quiet (.int .i64 cm) w)) :=
      ⟨_, fun A B c d w hx hy => cmpAny_any A B _ _ c d xs ys w rfl rfl (by omega) (by omega) hx hy lx ly, fun A B c d w hx hy => refCmpAny_any A B _ _ c d xs ys w rfl rfl (by omega) (by omega) hx hy lx ly⟩
    have hq1 : (er1 != er1) = false := by simp
    have hq2 : (er2 != er2) = false := by simp
    have hq3 : (er3 != er3) = false := by simp
    have hq4 : (er4 != er4) = false := by simp
    have hq5 : (cm != cm) = false := by simp
    go_enter Try.func3, Try.ntmps3
    go_wp2_with fail
    refine (vast_any A B xs.length ys.length c d _ (by omega) (by omega)).mono ?_
    rintro e w' ⟨rfl, rfl⟩
    rw [hv]
    clear hv
    go_wp2_with fail
    refine (twin_any A _ c xs _ rfl (by omega) hx).mono ?_
    rintro e w1 ⟨gs, rfl, hgs, hbs, hb1⟩
    go_wp2_with fail
    refine (twin_any B _ d ys _ rfl (by omega) (hy.below hb1)).mono ?_
    rintro e w2 ⟨gt, rfl, hgt, hbt, hb2⟩
    have hbel2 := hb1.trans (hb2.mono hb1.size)
    replace hbs := hbs.below hb2
    replace hx := hx.below hbel2
    replace hy := hy.below hbel2
    have hb0 := Below.refl w2.heap.size w2
    have hO := Owns.nil w2 w2.heap.size
    clear hb1 hb2
    go_wp2_with fail
    refine (hP1.out _ _ _ _ _ (by first | exact hx.below hb0 | exact twin_rd4 (hbs.below hb0)) (by first | exact hy.below hb0 | exact twin_rd4 (hbt.below hb0))).mono ?_
    rintro e w3 ⟨A1, c1, rfl, _, _, ho, hb⟩
    replace hO := hO.add hb ho hb0.size
    replace hb0 := hb0.trans (hb.mono hb0.size)
    clear hb ho hP1
    go_wp2_with fail
    refine (hR1.out _ _ _ _ _ (by first | exact hx.below hb0 | exact twin_rd4 (hbs.below hb0)) (by first | exact hy.below hb0 | exact twin_rd4 (hbt.below hb0))).mono ?_
    rintro e w4 ⟨A1r, c1r, rfl, _, _, ho, hb⟩
    replace hO := hO.add hb ho hb0.size
    replace hb0 := hb0.trans (hb.mono hb0.size)
    clear hb ho hR1
    go_wp2_with fail
    refine (hP2.out _ _ _ _ _ (by first | exact hx.below hb0 | exact twin_rd4 (hbs.below hb0)) (by first | exact hy.below hb0 | exact twin_rd4 (hbt.below hb0))).mono ?_
    rintro e w5 ⟨A2, c2, rfl, _, _, ho, hb⟩
    replace hO := hO.add hb ho hb0.size
    replace hb0 := hb0.trans (hb.mono hb0.size)
    clear hb ho hP2
    go_wp2_with fail
    refine (hR2.out _ _ _ _ _ (by first | exact hx.below hb0 | exact twin_rd4 (hbs.below hb0)) (by first | exact hy.below hb0 | exact twin_rd4 (hbt.below hb0))).mono ?_
    rintro e w6 ⟨A2r, c2r, rfl, _, _, ho, hb⟩
    replace hO := hO.add hb ho hb0.size
    replace hb0 := hb0.trans (hb.mono hb0.size)
    clear hb ho hR2
    go_wp2_with fail
    refine (hP3.out _ _ _ _ _ (by first | exact hx.below hb0 | exact twin_rd4 (hbs.below hb0)) (by first | exact hy.below hb0 | exact twin_rd4 (hbt.below hb0))).mono ?_
    rintro e w7 ⟨A3, c3, rfl, _, _, ho, hb⟩
    replace hO := hO.add hb ho hb0.size
    replace hb0 := hb0.trans (hb.mono hb0.size)
    clear hb ho hP3
    go_wp2_with fail
    refine (hR3.out _ _ _ _ _ (by first | exact hx.below hb0 | exact twin_rd4 (hbs.below hb0)) (by first | exact hy.below hb0 | exact twin_rd4 (hbt.below hb0))).mono ?_
    rintro e w8 ⟨A3r, c3r, rfl, _, _, ho, hb⟩
    replace hO := hO.add hb ho hb0.size
    replace hb0 := hb0.trans (hb.mono hb0.size)
    clear hb ho hR3
    go_wp2_with fail
    refine (hP4.out _ _ _ _ _ (by first | exact hx.below hb0 | exact twin_rd4 (hbs.below hb0)) (by first | exact hy.below hb0 | exact twin_rd4 (hbt.below hb0))).mono ?_
    rintro e w9 ⟨A4, c4, A5, c5, rfl, _, _, ho, ho', hb⟩
    replace hO := (hO.add hb ho hb0.size).put (ho'.mono hb0.size)
    replace hb0 := hb0.trans (hb.mono hb0.size)
    clear hb ho ho' hP4
    go_wp2_with fail
    refine (hR4.out _ _ _ _ _ (by first | exact hx.below hb0 | exact twin_rd4 (hbs.below hb0)) (by first | exact hy.below hb0 | exact twin_rd4 (hbt.below hb0))).mono ?_
    rintro e w10 ⟨A4r, c4r, A5r, c5r, rfl, _, _, ho, ho', hb⟩
    replace hO := (hO.add hb ho hb0.size).put (ho'.mono hb0.size)
    replace hb0 := hb0.trans (hb.mono hb0.size)
    clear hb ho ho' hR4
    simp only [List.nil_append, List.cons_append] at hO
    go_wp2_with fail
    refine (same_any A1 A1r _ _ c1 c1r p1 p1 w10 rfl rfl (by omega) (by omega) (hO.rd 0 rfl) (hO.rd 1 rfl)).mono ?_
    rintro e w' ⟨rfl, q, rfl⟩
    rw [show decide (p1 = p1) = true by simp]
    replace hO := hO.drewN q
    replace hb0 := below_drewN hb0 q
    generalize w10.drewN q = w11 at *
    go_wp2_with fail
    refine (same_any A2 A2r _ _ c2 c2r p2 p2 w11 rfl rfl (by omega) (by omega) (hO.rd 2 rfl) (hO.rd 3 rfl)).mono ?_
    rintro e w' ⟨rfl, q, rfl⟩
    rw [show decide (p2 = p2) = true by simp]
    replace hO := hO.drewN q
    replace hb0 := below_drewN hb0 q
    generalize w11.drewN q = w12 at *
    go_wp2_with fail
    refine (same_any A3 A3r _ _ c3 c3r p3 p3 w12 rfl rfl (by omega) (by omega) (hO.rd 4 rfl) (hO.rd 5 rfl)).mono ?_
    rintro e w' ⟨rfl, q, rfl⟩
    rw [show decide (p3 = p3) = true by simp]
    replace hO := hO.drewN q
    replace hb0 := below_drewN hb0 q
    generalize w12.drewN q = w13 at *
    go_wp2_with fail
    refine (same_any A4 A4r _ _ c4 c4r p4 p4 w13 rfl rfl (by omega) (by omega) (hO.rd 6 rfl) (hO.rd 8 rfl)).mono ?_
    rintro e w' ⟨rfl, q, rfl⟩
    rw [show decide (p4 = p4) = true by simp]
    replace hO := hO.drewN q
    replace hb0 := below_drewN hb0 q
    generalize w13.drewN q = w14 at *
    go_wp2_with fail
    refine (same_any A5 A5r _ _ c5 c5r p5 p5 w14 rfl rfl (by omega) (by omega) (hO.rd 7 rfl) (hO.rd 9 rfl)).mono ?_
    rintro e w' ⟨rfl, q, rfl⟩
    rw [show decide (p5 = p5) = true by simp]
    replace hO := hO.drewN q
    replace hb0 := below_drewN hb0 q
    generalize w14.drewN q = w15 at *
    go_wp2_with fail
    refine (hC1.out _ _ _ _ _ (by first | exact hx.below hb0 | exact twin_rd4 (hbs.below hb0)) (by first | exact hy.below hb0 | exact twin_rd4 (hbt.below hb0))).mono ?_
    rintro e w' ⟨rfl, q, rfl⟩
    replace hO := hO.drewN q
    replace hb0 := below_drewN hb0 q
    clear hC1
    generalize w15.drewN q = w16 at *
    go_wp2_with fail
    refine (hC2.out _ _ _ _ _ (by first | exact hx.below hb0 | exact twin_rd4 (hbs.below hb0)) (by first | exact hy.below hb0 | exact twin_rd4 (hbt.below hb0))).mono ?_
    rintro e w' ⟨rfl, q, rfl⟩
    replace hO := hO.drewN q
    replace hb0 := below_drewN hb0 q
    clear hC2
    generalize w16.drewN q = w17 at *
    go_wp2_with fail
    refine (kept_any gs A xs.length c xs w17 rfl (by omega) (hbs.below hb0) (hx.below hb0)).mono ?_
    rintro e w' ⟨rfl, q, rfl⟩
    replace hO := hO.drewN q
    replace hb0 := below_drewN hb0 q
    generalize w17.drewN q = w18 at *
    go_wp2_with fail
    refine (kept_any gt B ys.length d ys w18 rfl (by omega) (hbt.below hb0) (hy.below hb0)).mono ?_
    rintro e w' ⟨rfl, q, rfl⟩
    replace hO := hO.drewN q
    replace hb0 := below_drewN hb0 q
    generalize w18.drewN q = w19 at *
    have hRT := RowsT.cons0 (w := w19) (B := w2.heap.size) (l := [(A1, p1, c1), (A2, p2, c2), (A3, p3, c3), (A4, p4, c4), (A5, p5, c5)]) 22 (by
      intro i r hr
      match i, hr with
      | 0, hr => simp at hr; subst hr; exact ⟨hO 0 _ rfl, hp1l⟩
      | 1, hr => simp at hr; subst hr; exact ⟨hO 2 _ rfl, hp2l⟩
      | 2, hr => simp at hr; subst hr; exact ⟨hO 4 _ rfl, hp3l⟩
      | 3, hr => simp at hr; subst hr; exact ⟨hO 6 _ rfl, hp4l⟩
      | 4, hr => simp at hr; subst hr; exact ⟨hO 7 _ rfl, hp5l⟩
      | k + 5, hr => simp at hr)
    have hRL : ([(A1, p1, c1), (A2, p2, c2), (A3, p3, c3), (A4, p4, c4), (A5, p5, c5)].map fun (r : Option Addr × List Nat × Nat) => (r.1, r.2.1.length, r.2.2)).length = 5 := rfl
    have hb00 := hb0.alloc hb0.size (.cells ([(A1, p1, c1), (A2, p2, c2), (A3, p3, c3), (A4, p4, c4), (A5, p5, c5)].map fun (r : Option Addr × List Nat × Nat) => Value.slice r.1 r.2.1.length r.2.2).toArray 22)
    generalize ([(A1, p1, c1), (A2, p2, c2), (A3, p3, c3), (A4, p4, c4), (A5, p5, c5)].map fun (r : Option Addr × List Nat × Nat) => (r.1, r.2.1.length, r.2.2)) = R at *
    simp only [List.map_cons, List.map_nil] at hRT hb00
    have HRL := Lib.hid hRL
    clear hRL
    go_wp2_with fail
    clear hO hb0 hq1 hq2 hq3 hq4 hq5
    generalize w19.heap.size = G at *
    go_loopw [26] (fun s wr => ∃ i : Nat, s = .int .i64 (i : Int) ∧ i ≤ 5 ∧ RowsT wr w2.heap.size G R ∧ Below w2.heap.size w2 wr) (fun s _ => 5 - (intOf s).toNat)
    case atStart => exact ⟨0, rfl, by omega, hRT, hb00⟩
    case round =>
      clear hRT hb00
      obtain ⟨i, rfl, hi, hRT, hb0⟩ := hrel
      by_cases hlt : i < 5
      · obtain ⟨⟨A6, n6, c6⟩, hr⟩ : ∃ r, R[i]? = some r := ⟨_, List.getElem?_eq_getElem (by rw [HRL.out]; exact hlt)⟩
        obtain ⟨h1, h2, h3⟩ := hRT i _ hr
        have HR := Lib.hid hr
        simp only at h1 h2 h3
        clear hr h2
        go_wp2_with fail
        go_loopw [27] (fun s wz => ∃ j : Nat, s = .int .i64 (j : Int) ∧ j ≤ n6 ∧ RowsT wz w2.heap.size G R ∧ Below w2.heap.size w2 wz) (fun s _ => n6 - (intOf s).toNat)
        case atStart => exact ⟨0, rfl, Nat.zero_le _, hRT, hb0⟩
        case round =>
          clear hRT hb0 h1
          obtain ⟨j, rfl, hj, hRT, hb0⟩ := hrel
          obtain ⟨h1, h2, -⟩ := hRT i _ HR.out
          simp only at h1 h2
          by_cases hjl : j < n6
          · rcases h2 with h2 | ⟨g, off, rfl, hBg, hgG, hc⟩
            · omega
            obtain ⟨v, hv1, hv2⟩ := hc j hjl
            clear hc
            go_wp2_with fail
            go_roundw
            case rel => exact ⟨j + 1, by go_num, hjl, hRT.set hgG _, hb0.setCell hBg _⟩
            case measure => simp [intOf]; omega
          · go_wp2_with fail
            go_roundw
            case rel => exact ⟨i + 1, by go_num, hlt, hRT, hb0⟩
            case measure => simp [intOf]; omega
      · clear hRT
        go_wp2_with fail
        refine (kept_any gs A xs.length c xs wr rfl (by omega) (hbs.below hb0) (hx.below hb0)).mono ?_
        rintro e w' ⟨rfl, q, rfl⟩
        replace hb0 := below_drewN hb0 q
        generalize wr.drewN q = w20 at *
        go_wp2_with fail
        refine (kept_any gt B ys.length d ys w20 rfl (by omega) (hbt.below hb0) (hy.below hb0)).mono ?_
        rintro e w' ⟨rfl, q, rfl⟩
        replace hb0 := below_drewN hb0 q
        generalize w20.drewN q = w21 at *
        go_wp2_with fail
        refine (works_any _).mono ?_
        rintro e w22 ⟨rfl, hbz⟩
        go_wp2_with fail
        go_ret
        exact ⟨rfl, hbel2.trans ((hb0.trans (hbz.mono hb0.size)).mono hbel2.size)⟩
end Go.Proofs.Ytfclpieijbgodaa
