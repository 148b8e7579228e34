/-
  What the statements of stage 5 ask first (works), their copies (twin) and bounds (vast); and the walk of MontNil.
-/
import Derived.Test.YtfclpieijbgodaaMonF
namespace Go.Proofs.Ytfclpieijbgodaa
set_option linter.unusedVariables false
set_option linter.unusedSimpArgs false
open Go.RowKit

theorem may11 : MayM [11] := mayB_out (fun x hx => by simp at hx; omega) (by decide +kernel)
theorem lim1 (x : Nat) (h : x < 4294967296) : Lim 4294967296 [x] := fun y hy => by simp at hy; omega
theorem rd_lit (w : World) (x : Nat) (cur : Array Value) (h : cur = (ints .u32 [x]).toArray) : Rd .u32 (w.alloc (.cells cur 33)) (some ⟨w.heap.size, 0, none⟩) [x] := Rd.of_all (blk_lit w [x] cur h)
set_option maxRecDepth 100000 in
set_option maxHeartbeats 1600000 in
theorem works5_any (w : World) : Calls Try.prog 31 #[] w (Yes w) := by
  have hmul := Lib.hid (show mulMOf [7] [8] [11] = ([1], 0) by decide +kernel)
  have hexp := Lib.hid (show expMOf [2] [10] [11] = ([1], 0) by decide +kernel)
  go_enter Try.func31, Try.ntmps31
  go_wp2_with fail
  refine (newYes_any _ 1 1 [11] _ rfl (rd_lit w 11 _ rfl) may11).mono ?_
  rintro e w1 ⟨g, rfl, hO, hb⟩
  have hb1 : Below w.heap.size w w1 := ((Below.refl w.heap.size w).alloc (Nat.le_refl _) _).trans (hb.mono (by simp))
  clear hb
  go_wp2_with fail
  have hM := mmul_any (w.alloc (.cells (ints .u32 [11]).toArray 33)).heap.size g [11] (some ⟨w1.heap.size, 0, none⟩) (some ⟨w1.heap.size + 1, 0, none⟩) 1 1 1 1 [7] [8] ((w1.alloc (.cells #[.int .u32 7] 33)).alloc (.cells #[.int .u32 8] 33))
    (hO.below (((Below.refl w1.heap.size w1).alloc (Nat.le_refl _) _).alloc (by simp) _)) may11 rfl rfl (by omega) (by omega) ((rd_lit w1 7 _ rfl).alloc _) (by have h := rd_lit (w1.alloc (.cells #[.int .u32 7] 33)) 8 #[.int .u32 8] rfl; rwa [World.size_alloc] at h) (lim1 7 (by omega)) (lim1 8 (by omega))
  rw [hmul.out] at hM
  have hb2 := (hb1.alloc hb1.size (.cells #[.int .u32 7] 33)).alloc (by have := hb1.size; simp; omega) (.cells #[.int .u32 8] 33)
  refine hM.mono ?_
  rintro e w2 ⟨A2, c2, rfl, _, _, o2, b2⟩
  have hO2 := (hO.below (((Below.refl w1.heap.size w1).alloc (Nat.le_refl _) (.cells #[.int .u32 7] 33)).alloc (by simp) (.cells #[.int .u32 8] 33))).below b2
  have hb3 := hb2.trans (b2.mono hb2.size)
  have hr2 := o2.rd
  clear hM hO hb1 hb2 b2 o2
  go_wp2_with fail
  have hE := mexp_any (w.alloc (.cells (ints .u32 [11]).toArray 33)).heap.size g [11] (some ⟨w2.heap.size, 0, none⟩) (some ⟨w2.heap.size + 1, 0, none⟩) 1 1 1 1 [2] [10] ((w2.alloc (.cells #[.int .u32 2] 33)).alloc (.cells #[.int .u32 10] 33))
    (hO2.below (((Below.refl w2.heap.size w2).alloc (Nat.le_refl _) _).alloc (by simp) _)) may11 rfl rfl (by omega) (by omega) ((rd_lit w2 2 _ rfl).alloc _) (by have h := rd_lit (w2.alloc (.cells #[.int .u32 2] 33)) 10 #[.int .u32 10] rfl; rwa [World.size_alloc] at h) (lim1 2 (by omega)) (lim1 10 (by omega))
  rw [hexp.out] at hE
  have hb4 := (hb3.alloc hb3.size (.cells #[.int .u32 2] 33)).alloc (by have := hb3.size; simp; omega) (.cells #[.int .u32 10] 33)
  refine hE.mono ?_
  rintro e w3 ⟨A3, c3, rfl, _, _, o3, b3⟩
  have hb5 := hb4.trans (b3.mono hb4.size)
  have hr3 := o3.rd
  have hr2' := ((hr2.alloc (.cells #[.int .u32 2] 33)).alloc (.cells #[.int .u32 10] 33)).below b3
  clear hE hb3 hb4 b3 o3 hO2 hr2
  go_wp2_with fail
  refine (same_any A2 _ 1 1 c2 1 [1] [1] _ rfl rfl (by omega) (by omega) (hr2'.alloc _) (rd_lit w3 1 #[.int .u32 1] rfl)).mono ?_
  rintro e w' ⟨rfl, q, rfl⟩
  have hb6 := below_drewN (hb5.alloc hb5.size (.cells #[.int .u32 1] 33)) q
  have hr3' := (hr3.alloc (.cells #[.int .u32 1] 33)).drewN q
  rw [show decide ([1] = [1]) = true by decide]
  generalize (w3.alloc (.cells #[.int .u32 1] 33)).drewN q = w4 at *
  clear hb5 hr3 hr2'
  go_wp2_with fail
  refine (same_any A3 _ 1 1 c3 1 [1] [1] _ rfl rfl (by omega) (by omega) (hr3'.alloc _) (rd_lit w4 1 #[.int .u32 1] rfl)).mono ?_
  rintro e w' ⟨rfl, q, rfl⟩
  have hb7 := below_drewN (hb6.alloc hb6.size (.cells #[.int .u32 1] 33)) q
  rw [show decide ([1] = [1]) = true by decide]
  go_wp2_with fail
  go_ret
  exact ⟨rfl, hb7⟩
set_option maxHeartbeats 400000 in
theorem twin5_any (A : Option Addr) (n c : Nat) (xs : List Nat) (w : World) (hn : n = xs.length) (hl : n ≤ 70000) (hx : Rd .u32 w A xs) :
    Calls Try.prog 32 #[.slice A n c] w (fun e w' => ∃ g c', e = .returned (.slice (some ⟨g, 0, none⟩) xs.length c') ∧ w.heap.size ≤ g ∧ Blk .u32 w' g xs ∧ xs.length ≤ c' ∧ c' ≤ maxLen ∧ Below w.heap.size w w') := by
  subst hn
  go_enter Try.func32, Try.ntmps32
  go_wp2_with (at_builtin; refine wpList_append_lit _ rfl (.tmp 3) (.tmp 4) _ rfl w 33 .u32 4 Try.underlying22 info_u32 _ _ rfl (World.ownsRow_made w #[] 0 (Nat.le_refl _) (Nat.zero_le _) rfl) _ xs.length _ xs rfl rfl (hx.alloc _) ((Below.refl _ _).alloc (Nat.le_refl _) _) (by omega) (by decide) ?_; intro g c' w1 hB hbk hc1 hc2 hbel)
  go_ret
  exact ⟨g, c', rfl, hB, hbk, hc1, hc2, hbel⟩
set_option maxHeartbeats 800000 in
theorem montNil_any (A B : Option Addr) (n m c d : Nat) (w : World) (hn : n ≤ 9223372036854775807) (hm : m ≤ 9223372036854775807) :
    Calls Try.prog 6 #[.slice A n c, .slice B m d] w (Yes w) := by
  by_cases h1 : 300 < n
  · have z1 : decide ((300 : Int) < (n : Int)) = true := by simp; omega
    go_enter Try.func6, Try.ntmps6
    go_wp2_with fail
    refine (works5_any _).mono ?_
    rintro e w1 ⟨rfl, hb⟩
    go_wp2_with fail
    go_ret
    exact ⟨rfl, hb⟩
  · have z1 : decide ((300 : Int) < (n : Int)) = false := by simp; omega
    by_cases h2 : 300 < m
    · have z2 : decide ((300 : Int) < (m : Int)) = true := by simp; omega
      go_enter Try.func6, Try.ntmps6
      go_wp2_with fail
      refine (works5_any _).mono ?_
      rintro e w1 ⟨rfl, hb⟩
      go_wp2_with fail
      go_ret
      exact ⟨rfl, hb⟩
    · have z2 : decide ((300 : Int) < (m : Int)) = false := by simp; omega
      go_enter Try.func6, Try.ntmps6
      go_wp2_with fail
      refine (mmulNil_any _ _ _).mono ?_
      rintro e w1 ⟨rfl, rfl⟩
      go_wp2_with fail
      refine (mexpNil_any _ _ _).mono ?_
      rintro e w2 ⟨rfl, hb⟩
      go_wp2_with fail
      refine (works5_any _).mono ?_
      rintro e w3 ⟨rfl, hb3⟩
      go_wp2_with fail
      go_ret
      exact ⟨rfl, hb.trans (hb3.mono hb.size)⟩
end Go.Proofs.Ytfclpieijbgodaa
