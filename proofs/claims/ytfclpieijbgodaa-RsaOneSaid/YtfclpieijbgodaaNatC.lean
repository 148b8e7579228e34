/-
  Copies and cuts of rows of limbs: the reference's Trim, the statements' twin, kept and brief; what may be answered.
-/
import Derived.Test.YtfclpieijbgodaaNatB
import Derived.Test.YtfclpieijbgodaaLaws
namespace Go.Proofs.Ytfclpieijbgodaa
set_option linter.unusedVariables false
set_option linter.unusedSimpArgs false
open Go.RowKit

/-- It returns a new slice of these numbers, and an error's number. -/
def Gives2 (k : IntKind) (xs : List Nat) (er : Int) (w : World) (e : Ending) (w' : World) : Prop :=
  ∃ A c, e = .returned (.tuple #[.slice A xs.length c, .int .i64 er]) ∧ xs.length ≤ c ∧ c ≤ maxLen ∧ Own k w' w.heap.size A xs ∧ Below w.heap.size w w'

set_option maxHeartbeats 400000 in
theorem refTrim_any (A : Option Addr) (n c : Nat) (xs : List Nat) (w : World) (hn : n = xs.length) (hc : n ≤ c) (hl : n ≤ 70000) (hx : Rd .u32 w A xs) (lx : Lim 4294967296 xs) :
    Calls Try.prog 73 #[.slice A n c] w (Gives .u32 (limbs (val xs)) w) := by
  subst hn
  go_enter Try.func73, Try.ntmps73
  go_wp2
  go_loop [3] (fun t => ∃ k : Nat, t = .int .i64 k ∧ k ≤ xs.length ∧ Hid (∀ i x, k ≤ i → xs[i]? = some x → x = 0)) (fun t => (intOf t).toNat)
  case atStart => exact ⟨xs.length, rfl, Nat.le_refl _, fun i x hi hg => by have := (List.getElem?_eq_some_iff.1 hg).1; omega⟩
  case round =>
    obtain ⟨k, rfl, hk, h0⟩ := hrel
    rcases Nat.eq_zero_or_pos k with rfl | hp
    · have ht := Lib.hid (take_limbs lx (Nat.zero_le _) h0.out (.inl rfl))
      go_wp2_with (at_builtin; refine wpList_append_copy _ rfl (.tmp 18) (.tmp 21) _ rfl w 33 .u32 4 Try.underlying22 info_u32 _ rfl (World.ownsRow_made w #[] 0 (Nat.le_refl _) (Nat.zero_le _) rfl) _ 0 _ (xs.take 0) rfl (by rw [List.length_take]; omega) ((hx.take _).alloc _) ((Below.refl _ _).alloc (Nat.le_refl _) _) (by omega) (by decide) ?_; intro A' c' w1 hown hc1 hc2 hbel)
      go_ret
      rw [ht.out] at hown
      have hlen : (limbs (val xs)).length = 0 := by rw [← ht.out]; simp
      exact ⟨A', c', by rw [hlen]; rfl, by omega, hc2, hown, hbel⟩
    · obtain ⟨x, hgx⟩ := get_of_lt (xs := xs) (i := k - 1) (by omega)
      obtain ⟨b, o, rfl, hbw, hcl⟩ := hx.pos hgx
      have hcell := hcl _ x hgx
      have HG := Lib.hid hgx
      clear hcl hgx
      by_cases hx0 : x = 0
      · subst hx0
        go_wp2
        go_round
        case rel => exact ⟨k - 1, by go_num, by omega, fun i x hi hg => by
          rcases Nat.lt_or_ge i k with h | h
          · obtain rfl : i = k - 1 := by omega
            have := HG.out
            rw [this] at hg
            injection hg with hg
            exact hg.symm
          · exact h0.out i x h hg⟩
        case measure => simp [intOf]; omega
      · have hx1 : ((x : Int) == 0) = false := by simpa using hx0
        have ht := Lib.hid (take_limbs lx hk h0.out (.inr (by rw [HG.out]; simpa using hx0)))
        go_wp2_with (at_builtin; refine wpList_append_copy _ rfl (.tmp 18) (.tmp 21) _ rfl w 33 .u32 4 Try.underlying22 info_u32 _ rfl (World.ownsRow_made w #[] 0 (Nat.le_refl _) (Nat.zero_le _) rfl) _ k _ (xs.take k) rfl (by rw [List.length_take]; omega) ((hx.take _).alloc _) ((Below.refl _ _).alloc (Nat.le_refl _) _) (by omega) (by decide) ?_; intro A' c' w1 hown hc1 hc2 hbel)
        go_ret
        rw [ht.out] at hown
        have hlen : (limbs (val xs)).length = k := by rw [← ht.out]; simp; omega
        exact ⟨A', c', by rw [hlen]; rfl, by omega, hc2, hown, hbel⟩

set_option maxHeartbeats 400000 in
theorem answer_ok (A : Option Addr) (n c : Nat) (xs : List Nat) (w w0 : World) (hn : n = xs.length) (hc : n ≤ c) (hl : c ≤ 9223372036854775807) (hx : Own .u32 w w0.heap.size A xs) (lx : Lim 4294967296 xs) (hb : Below w0.heap.size w0 w)
    (h : (limbs (val xs)).length ≤ 256) :
    Calls Try.prog 57 #[.slice A n c] w (Gives2 .u32 (limbs (val xs)) 0 w0) := by
  subst hn
  go_enter Try.func57, Try.ntmps57
  go_wp2_with fail
  refine (trim_any A _ c xs _ rfl hc hl hx.rd lx).mono ?_
  rintro e w' ⟨m, rfl, hm, ht, rfl⟩
  have hlen := Lib.hid (show (limbs (val xs)).length = m by rw [← ht.out]; simp; omega)
  have hm2 : m ≤ 256 := by rw [← hlen.out]; exact h
  clear h
  go_wp2_with fail
  go_ret2
  have hO := hx.take m
  rw [ht.out] at hO
  exact ⟨A, m, by rw [hlen.out]; rfl, by rw [hlen.out]; exact Nat.le_refl _, by simp only [maxLen]; omega, hO, hb⟩

set_option maxHeartbeats 400000 in
theorem answer_big (A : Option Addr) (n c : Nat) (xs : List Nat) (w w0 : World) (hn : n = xs.length) (hc : n ≤ c) (hl : c ≤ 9223372036854775807) (hx : Own .u32 w w0.heap.size A xs) (lx : Lim 4294967296 xs) (hb : Below w0.heap.size w0 w)
    (h : 256 < (limbs (val xs)).length) :
    Calls Try.prog 57 #[.slice A n c] w (Gives2 .u32 [] 10 w0) := by
  subst hn
  go_enter Try.func57, Try.ntmps57
  go_wp2_with fail
  refine (trim_any A _ c xs _ rfl hc hl hx.rd lx).mono ?_
  rintro e w' ⟨m, rfl, hm, ht, rfl⟩
  have hlen := Lib.hid (show (limbs (val xs)).length = m by rw [← ht.out]; simp; omega)
  have hm2 : 256 < m := by rw [← hlen.out]; exact h
  clear h
  go_wp2_with fail
  go_ret2
  exact ⟨none, 0, rfl, Nat.le_refl _, Nat.zero_le _, Own.nil _ _ _ _, hb⟩

set_option maxHeartbeats 400000 in
theorem fits_ok (A : Option Addr) (c : Nat) (xs : List Nat) (w w0 : World) (hc : xs.length ≤ c) (hl : c ≤ maxLen) (hx : Own .u32 w w0.heap.size A xs) (hb : Below w0.heap.size w0 w) (h : xs.length ≤ 256) :
    Calls Try.prog 59 #[.slice A xs.length c] w (Gives2 .u32 xs 0 w0) := by
  go_enter Try.func59, Try.ntmps59
  go_wp2_with fail
  go_ret2
  exact ⟨A, c, rfl, hc, hl, hx, hb⟩
set_option maxHeartbeats 400000 in
theorem fits_big (A : Option Addr) (c : Nat) (xs : List Nat) (w w0 : World) (hc : xs.length ≤ 70000) (hb : Below w0.heap.size w0 w) (h : 256 < xs.length) :
    Calls Try.prog 59 #[.slice A xs.length c] w (Gives2 .u32 [] 10 w0) := by
  go_enter Try.func59, Try.ntmps59
  go_wp2_with fail
  go_ret2
  exact ⟨none, 0, rfl, Nat.le_refl _, Nat.zero_le _, Own.nil _ _ _ _, hb⟩

/-- A number of at most 256 limbs, or none and the error. -/
def fitsOf (v : Nat) : List Nat × Int := if (limbs v).length ≤ 256 then (limbs v, 0) else ([], 10)
theorem fitsOf_ok {v : Nat} (h : (limbs v).length ≤ 256) : fitsOf v = (limbs v, 0) := by simp [fitsOf, h]
theorem fitsOf_big {v : Nat} (h : 256 < (limbs v).length) : fitsOf v = ([], 10) := by simp [fitsOf, show ¬ (limbs v).length ≤ 256 by omega]
theorem answer_any (A : Option Addr) (n c : Nat) (xs : List Nat) (w w0 : World) (hn : n = xs.length) (hc : n ≤ c) (hl : c ≤ 9223372036854775807) (hx : Own .u32 w w0.heap.size A xs) (lx : Lim 4294967296 xs) (hb : Below w0.heap.size w0 w) :
    Calls Try.prog 57 #[.slice A n c] w (Gives2 .u32 (fitsOf (val xs)).1 (fitsOf (val xs)).2 w0) := by
  by_cases h : (limbs (val xs)).length ≤ 256
  · rw [fitsOf_ok h]
    exact answer_ok A n c xs w w0 hn hc hl hx lx hb h
  · rw [fitsOf_big (by omega)]
    exact answer_big A n c xs w w0 hn hc hl hx lx hb (by omega)
theorem fits_any (A : Option Addr) (c v : Nat) (w w0 : World) (hc : (limbs v).length ≤ c) (hl : c ≤ maxLen) (hx : Own .u32 w w0.heap.size A (limbs v)) (hb : Below w0.heap.size w0 w) (h7 : (limbs v).length ≤ 70000) :
    Calls Try.prog 59 #[.slice A (limbs v).length c] w (Gives2 .u32 (fitsOf v).1 (fitsOf v).2 w0) := by
  by_cases h : (limbs v).length ≤ 256
  · rw [fitsOf_ok h]
    exact fits_ok A c (limbs v) w w0 hc hl hx hb h
  · rw [fitsOf_big (by omega)]
    exact fits_big A c (limbs v) w w0 h7 hb (by omega)

/-- A copy with two cells behind it that hold 7 and 9. -/
def TwinPost (xs : List Nat) (w : World) (e : Ending) (w' : World) : Prop :=
  ∃ g, e = .returned (.slice (some ⟨g, 0, none⟩) xs.length (xs.length + 2)) ∧ w.heap.size ≤ g ∧ Blk .u32 w' g (xs ++ [7, 9]) ∧ Below w.heap.size w w'

theorem twin_cells (xs : List Nat) : (List.replicate (xs.length + 2) 0).take 0 ++ xs ++ (List.replicate (xs.length + 2) 0).drop (0 + xs.length) = xs ++ [0, 0] := by
  simp [show xs.length + 2 - xs.length = 2 by omega]
theorem twin_at (xs : List Nat) : (xs ++ [0, 0])[xs.length]? = some 0 := by simp
theorem twin_set1 (xs : List Nat) : (xs ++ [0, 0]).set xs.length 7 = xs ++ [7, 0] := by simp [List.set_append]
theorem twin_at1 (xs : List Nat) : (xs ++ [7, 0])[xs.length + 1]? = some 0 := by simp [List.getElem?_append]
theorem twin_set2 (xs : List Nat) : (xs ++ [7, 0]).set (xs.length + 1) 9 = xs ++ [7, 9] := by simp [List.set_append]

theorem twin_mid {t : TypeId} {w : World} {g : Nat} {xs : List Nat} (h : Whl .u32 t w g (xs ++ [0, 0])) : Whl .u32 t (w.setCell ⟨g, xs.length, none⟩ (.int .u32 7)) g (xs ++ [7, 0]) := by
  rw [← twin_set1]
  exact h.set xs.length 7
set_option maxHeartbeats 400000 in
theorem twin_any (A : Option Addr) (n c : Nat) (xs : List Nat) (w : World) (hn : n = xs.length) (hl : n ≤ 70000) (hx : Rd .u32 w A xs) :
    Calls Try.prog 17 #[.slice A n c] w (TwinPost xs w) := by
  subst hn
  go_enter Try.func17, Try.ntmps17
  go_wp2_with (first | (at_make; refine wpList_make_ints _ rfl _ _ _ rfl .u32 33 4 Try.underlying22 info_u32 _ _ (xs.length + 2) _ _ rfl rfl (by omega) (by omega) (by omega) (by omega) ?_; intro g w1 hg hw1 hs1 hb1) | ((with_reducible show wpList _ _ _ _ _ _); refine wpList_copy_ints _ rfl (.tmp 8) (.tmp 9) _ _ rfl .u32 33 4 Try.underlying22 info_u32 g 0 (xs.length + 2) (xs.length + 2) c A xs.length rfl rfl _ xs hw1 (hx.below hb1) rfl (by omega) (by simp) w.heap.size w hb1 (by rw [hg.out]; exact Nat.le_refl _) ?_; intro w2 hw2 hb2 hg2; have ew := Lib.hid (twin_cells xs); rw [ew.out] at hw2; have hc7 : w2.cell? ⟨g, xs.length, none⟩ = some (.int .u32 0) := hw2.blk.cell (twin_at xs); have hf7 := hw2.blk.frozen (twin_at xs); have hw3 : Whl .u32 33 (w2.setCell ⟨g, xs.length, none⟩ (.int .u32 7)) g (xs ++ [7, 0]) := twin_mid hw2; have hc9 : (w2.setCell ⟨g, xs.length, none⟩ (.int .u32 7)).cell? ⟨g, xs.length + 1, none⟩ = some (.int .u32 0) := hw3.blk.cell (twin_at1 xs); have hf9 := hw3.blk.frozen (twin_at1 xs)))
  go_ret
  refine ⟨g, rfl, by rw [hg.out]; exact Nat.le_refl _, ?_, ?_⟩
  · have := (hw3.set (xs.length + 1) 9).blk
    rw [twin_set2] at this
    exact this
  · exact (hb2.setCell (by rw [hg.out]; exact Nat.le_refl _) _).setCell (by rw [hg.out]; exact Nat.le_refl _) _
end Go.Proofs.Ytfclpieijbgodaa
