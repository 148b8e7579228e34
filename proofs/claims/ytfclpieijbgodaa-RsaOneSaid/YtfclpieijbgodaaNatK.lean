/-
  nat.Div at any two numbers, and the anchor of the statements (works).
-/
import Derived.Test.YtfclpieijbgodaaNatJ
namespace Go.Proofs.Ytfclpieijbgodaa
set_option linter.unusedVariables false
set_option linter.unusedSimpArgs false
open Go.RowKit

/-- What Div answers: the quotient, the rest, the error. -/
def divOf (xs ys : List Nat) : List Nat × List Nat × Int := if isRight xs = true ∧ isRight ys = true ∧ ys ≠ [] then (limbs (val xs / val ys), limbs (val xs % val ys), 0) else ([], [], 1)
theorem divOf_ok {xs ys : List Nat} (h1 : isRight xs = true) (h2 : isRight ys = true) (h3 : ys ≠ []) : divOf xs ys = (limbs (val xs / val ys), limbs (val xs % val ys), 0) := by simp [divOf, h1, h2, h3]
theorem divOf_arg {xs ys : List Nat} (h : isRight xs = false ∨ isRight ys = false ∨ ys = []) : divOf xs ys = ([], [], 1) := by
  unfold divOf
  rw [if_neg]
  rintro ⟨h1, h2, h3⟩
  rcases h with h | h | h
  · rw [h1] at h; cases h
  · rw [h2] at h; cases h
  · exact h3 h
theorem canon_pos {ys : List Nat} (h : Canon ys) (h3 : ys ≠ []) : 0 < val ys := by
  cases hq : ys.getLast? with
  | none => simp at hq; exact absurd hq h3
  | some y => exact Nat.pos_of_ne_zero (val_pos_of_last hq (by rintro rfl; exact h.2 hq))

theorem div_any (A B : Option Addr) (n m c d : Nat) (xs ys : List Nat) (w : World) (hn : n = xs.length) (hm : m = ys.length) (hl : n ≤ 70000) (hl' : m ≤ 70000) (hx : Rd .u32 w A xs) (hy : Rd .u32 w B ys) (lx : Lim 4294967296 xs) (ly : Lim 4294967296 ys) :
    Calls Try.prog 24 #[.slice A n c, .slice B m d] w (Gives3 (divOf xs ys).1 (divOf xs ys).2.1 (divOf xs ys).2.2 w) := by
  by_cases h : isRight xs = true ∧ isRight ys = true ∧ ys ≠ []
  · obtain ⟨h1, h2, h3⟩ := h
    rw [divOf_ok h1 h2 h3]
    rcases Nat.lt_or_ge (val xs) (val ys) with h4 | h4
    · exact div_less A B n m c d xs ys w hn hm hl hl' hx hy lx ly h1 h2 h4
    · exact div_more A B n m c d xs ys w hn hm hx hy lx ly h1 h2 (canon_pos (isRight_canon ly h2) h3) h4
  · have h' : isRight xs = false ∨ isRight ys = false ∨ ys = [] := by
      cases h1 : isRight xs with
      | false => exact .inl rfl
      | true =>
        cases h2 : isRight ys with
        | false => exact .inr (.inl rfl)
        | true => exact .inr (.inr (by simpa [h1, h2] using h))
    rw [divOf_arg h']
    exact div_arg A B n m c d xs ys w hn hm hl hl' hx hy h'

set_option maxHeartbeats 800000 in
theorem works_any (w : World) : Calls Try.prog 16 #[] w (Yes w) := by
  have e1 := Lib.hid (show limbs (valB [0, 1, 0, 0, 0, 2]) = [2, 1] by decide +kernel)
  have e2 := Lib.hid (show divOf [0, 0, 1] [3] = ([1431655765, 1431655765], [1], 0) by decide +kernel)
  have e3 := Lib.hid (show octs 6 (val [2, 1]) = [0, 1, 0, 0, 0, 2] by decide +kernel)
  have e4 := Lib.hid (show bitsOf [2, 1] = 33 by decide +kernel)
  go_enter Try.func16, Try.ntmps16
  go_wp2_with fail
  have h1 := of_any (some ⟨w.heap.size, 0, none⟩) 6 6 [0, 1, 0, 0, 0, 2] _ rfl (by omega) (Rd.of_all (blk_lit (k := .u8) (t := 5) w [0, 1, 0, 0, 0, 2] _ rfl)) (lim_small (by decide))
  rw [e1.out] at h1
  refine h1.mono ?_
  rintro e w1 ⟨A1, c1, rfl, hc1, hm1, ho1, hb1⟩
  go_wp2_with fail
  have h2 := div_any (some ⟨w1.heap.size, 0, none⟩) (some ⟨w1.heap.size + 1, 0, none⟩) 3 1 3 1 [0, 0, 1] [3] _ rfl rfl (by omega) (by omega) (Rd.of_all ((blk_lit (k := .u32) (t := 33) w1 [0, 0, 1] _ rfl).alloc (.cells #[.int .u32 3] 33)))
    (Rd.of_all (by have := blk_lit (k := .u32) (t := 33) (w1.alloc (.cells (ints .u32 [0, 0, 1]).toArray 33)) [3] _ rfl; rw [World.size_alloc] at this; exact this)) (lim_small (by decide)) (lim_small (by decide))
  rw [e2.out] at h2
  refine h2.mono ?_
  rintro e w2 ⟨A2, c2, A3, c3, rfl, _, _, ho2, ho3, hb2⟩
  have hbA : Below w1.heap.size w1 w2 := (((Below.refl _ _).alloc (Nat.le_refl _) _).alloc (by simp) _).trans (hb2.mono (by simp; omega))
  have hr1 := ho1.rd.below hbA
  go_wp2_with fail
  have h3 := octets_any_ok A1 2 c1 [2, 1] 6 _ rfl (by omega) hr1 (lim_small (by decide)) (by decide) (by omega) (by decide +kernel)
  rw [e3.out] at h3
  refine h3.mono ?_
  rintro e w3 ⟨A4, c4, rfl, _, _, ho4, hb3⟩
  have hr1' := hr1.below hb3
  have hr2 := ho2.rd.below hb3
  have hr3 := ho3.rd.below hb3
  have hr4 := ho4.rd
  obtain ⟨b1, o1, rfl, _, hc1'⟩ := hr1'.pos (i := 0) (x := 2) rfl
  obtain ⟨b2, o2, rfl, _, hc2'⟩ := hr2.pos (i := 1) (x := 1431655765) rfl
  obtain ⟨b3, o3, rfl, _, hc3'⟩ := hr3.pos (i := 0) (x := 1) rfl
  obtain ⟨b4, o4, rfl, _, hc4'⟩ := hr4.pos (i := 1) (x := 1) rfl
  have f1 : w3.cell? ⟨b1, o1, none⟩ = some (.int .u32 2) := hc1' 0 2 rfl
  have f2 : w3.cell? ⟨b2, o2 + 1, none⟩ = some (.int .u32 1431655765) := hc2' 1 1431655765 rfl
  have f3 : w3.cell? ⟨b3, o3, none⟩ = some (.int .u32 1) := hc3' 0 1 rfl
  have f4 : w3.cell? ⟨b4, o4 + 1, none⟩ = some (.int .u8 1) := hc4' 1 1 rfl
  have hbel : Below w.heap.size w w3 := ((((Below.refl _ _).alloc (Nat.le_refl _) _).trans (hb1.mono (by simp))).trans (hbA.mono (by have := hb1.size; simp at this; omega))).trans (hb3.mono (by have h7 := hb1.size; have h8 := hbA.size; simp at h7; omega))
  have hb5 := bits_any (some ⟨b1, o1, none⟩) 2 c1 [2, 1] w3 rfl (by omega) hr1' (lim_small (by decide))
  rw [e4.out] at hb5
  clear hc1' hc2' hc3' hc4'
  go_wp2_with fail
  refine hb5.mono ?_
  rintro e w4 ⟨rfl, rfl⟩
  go_wp2_with fail
  go_ret
  exact ⟨rfl, hbel⟩
end Go.Proofs.Ytfclpieijbgodaa
