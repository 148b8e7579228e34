/-
  The walk of the statement NatFull: sums and products are told up to 256 limbs, and are too great beyond.
-/
import Derived.Test.YtglmplkjljgbbaaNatO
import Derived.Test.YtglmplkjljgbbaaNum6
namespace Go.Proofs.Ytglmplkjljgbbaa
set_option linter.unusedVariables false
set_option linter.unusedSimpArgs false
open Go.RowKit

def fillTo (n k : Nat) : List Nat := List.replicate k 4294967295 ++ List.replicate (n - k) 0
theorem fillTo_zero (n : Nat) : fillTo n 0 = List.replicate n 0 := by simp [fillTo]
theorem fillTo_all (n : Nat) : fillTo n n = limbs (4294967296 ^ n - 1) := by simp [fillTo, limbs_max]
theorem fillTo_at {n k : Nat} (h : k < n) : (fillTo n k)[k]? = some 0 := by
  rw [fillTo, List.getElem?_append_right (by simp), List.getElem?_replicate, if_pos (by simp; omega)]
theorem fillTo_set {n k : Nat} (h : k < n) : (fillTo n k).set k 4294967295 = fillTo n (k + 1) := by
  obtain ⟨m, rfl⟩ : ∃ m, n = k + (m + 1) := ⟨n - k - 1, by omega⟩
  rw [fillTo, fillTo, show k + (m + 1) - k = m + 1 from by omega, show k + (m + 1) - (k + 1) = m from by omega, List.set_append_right _ _ (by simp), List.replicate_succ' (n := k), List.replicate_succ (n := m)]
  simp
theorem fillTo_len {n k : Nat} (h : k ≤ n) : (fillTo n k).length = n := by simp [fillTo]; omega

theorem blk_one (w : World) (t : TypeId) : Blk .u32 (w.alloc (.cells #[.int .u32 1] t)) w.heap.size (limbs 1) := blk_lit w [1] _ rfl
theorem rep_at {k : Nat} (h : 0 < k) : (List.replicate k 0)[k - 1]? = some 0 := by
  rw [List.getElem?_replicate, if_pos (by omega)]
theorem rep_set {k : Nat} (h : 0 < k) (y : Nat) : (List.replicate k 0).set (k - 1) y = List.replicate (k - 1) 0 ++ [y] := by
  obtain ⟨j, rfl⟩ : ∃ j, k = j + 1 := ⟨k - 1, by omega⟩
  rw [Nat.add_sub_cancel, List.replicate_succ', List.set_append_right _ _ (by simp)]
  simp
theorem addM (A B : Option Addr) (n m c d : Nat) (a b s : Nat) (w : World) (hn : n = (limbs a).length) (hm : m = (limbs b).length) (hA : Rd .u32 w A (limbs a)) (hB : Rd .u32 w B (limbs b)) (h1 : n ≤ 256) (h2 : m ≤ 256) (h3 : (limbs s).length ≤ 256) (e : a + b = s) :
    Calls Try.prog 25 #[.slice A n c, .slice B m d] w (Gives2 .u32 (limbs s) 0 w) := by
  subst hn; subst hm; subst e
  exact addL A B c d a b w hA hB h1 h2 h3
theorem subM (A B : Option Addr) (n m c d : Nat) (a b s : Nat) (w : World) (hn : n = (limbs a).length) (hm : m = (limbs b).length) (hA : Rd .u32 w A (limbs a)) (hB : Rd .u32 w B (limbs b)) (h1 : n ≤ 256) (h2 : m ≤ 256) (h3 : (limbs s).length ≤ 256) (e : s + b = a) :
    Calls Try.prog 27 #[.slice A n c, .slice B m d] w (Gives2 .u32 (limbs s) 0 w) := by
  subst hn; subst hm; subst e
  exact subL2 A B c d s b w hA hB h1 h2 h3
theorem bitsM (A : Option Addr) (n c : Nat) (a k : Nat) (w : World) (hn : n = (limbs a).length) (hA : Rd .u32 w A (limbs a)) (h1 : n ≤ 256) (e : nbits a = k) :
    Calls Try.prog 18 #[.slice A n c] w fun e w' => e = .returned (.int .i64 (k : Int)) ∧ w = w' := by
  subst hn; subst e
  exact bitsL A c a w hA h1
theorem sameM (A B : Option Addr) (n m c d : Nat) (a : Nat) (w : World) (hn : n = (limbs a).length) (hm : m = (limbs a).length) (hA : Rd .u32 w A (limbs a)) (hB : Rd .u32 w B (limbs a)) (h1 : n ≤ 256) :
    Calls Try.prog 15 #[.slice A n c, .slice B m d] w (Quiet (.bool true) w) := by
  subst hn; subst hm
  have h := sameL A B c d a a w hA hB h1 h1
  simpa using h
theorem mulM (A B : Option Addr) (n m c d : Nat) (a b s : Nat) (w : World) (hn : n = (limbs a).length) (hm : m = (limbs b).length) (hA : Rd .u32 w A (limbs a)) (hB : Rd .u32 w B (limbs b)) (h1 : n ≤ 256) (h2 : m ≤ 256) (h3 : (limbs s).length ≤ 256) (e : a * b = s) :
    Calls Try.prog 26 #[.slice A n c, .slice B m d] w (Gives2 .u32 (limbs s) 0 w) := by
  subst hn; subst hm; subst e
  exact mulL A B c d a b w hA hB h1 h2 h3
theorem mulM_big (A B : Option Addr) (n m c d : Nat) (a b s : Nat) (w : World) (hn : n = (limbs a).length) (hm : m = (limbs b).length) (hA : Rd .u32 w A (limbs a)) (hB : Rd .u32 w B (limbs b)) (h1 : n ≤ 256) (h2 : m ≤ 256) (h3 : 256 < (limbs s).length) (e : a * b = s) :
    Calls Try.prog 26 #[.slice A n c, .slice B m d] w (Gives2 .u32 [] 10 w) := by
  subst hn; subst hm; subst e
  exact mulL_big A B c d a b w hA hB h1 h2 h3
theorem addM_big (A B : Option Addr) (n m c d : Nat) (a b s : Nat) (w : World) (hn : n = (limbs a).length) (hm : m = (limbs b).length) (hA : Rd .u32 w A (limbs a)) (hB : Rd .u32 w B (limbs b)) (h1 : n ≤ 256) (h2 : m ≤ 256) (h3 : 256 < (limbs s).length) (e : a + b = s) :
    Calls Try.prog 25 #[.slice A n c, .slice B m d] w (Gives2 .u32 [] 10 w) := by
  subst hn; subst hm; subst e
  exact addL_big A B c d a b w hA hB h1 h2 h3

set_option maxRecDepth 100000 in
set_option maxHeartbeats 3200000 in
theorem natFull_any (m n : Nat) (w : World) (hm : m < 65536) (hn : n < 65536) :
    Calls Try.prog 7 #[.int .u16 (m : Int), .int .u16 (n : Int)] w (Yes w) := by
  obtain ⟨a, ha⟩ : ∃ a, a = m % 257 := ⟨_, rfl⟩
  obtain ⟨b, hb⟩ : ∃ b, b = n % 257 := ⟨_, rfl⟩
  have hal : a ≤ 256 := by omega
  have hbl : b ≤ 256 := by omega
  have ea : ((m : Int) % 257) = (a : Int) := by omega
  have eb : ((n : Int) % 257) = (b : Int) := by omega
  go_enter Try.func7, Try.ntmps7
  go_wp2_with (at_make; refine wpList_make_ints _ rfl _ _ _ rfl .u32 41 4 Try.underlying22 info_u32 _ _ a _ _ rfl rfl ea ea (by omega) (by omega) ?_; intro g w1 hg hw1 hs1 hb1; rw [ea, eb])
  clear ea eb ha hb
  go_wp2_with fail
  have hgl : w.heap.size ≤ g := by rw [hg.out]; exact Nat.le_refl _
  go_loopw [8] (fun t wr => ∃ k : Nat, t = .int .i64 k ∧ k ≤ a ∧ Blk .u32 wr g (fillTo a k) ∧ Below w.heap.size w wr) (fun t _ => a - (intOf t).toNat)
  case atStart => exact ⟨0, rfl, Nat.zero_le _, by rw [fillTo_zero]; exact hw1.blk, hb1⟩
  case round =>
    obtain ⟨k, rfl, hk, hbr, hbel⟩ := hrel
    by_cases hlt : k < a
    · have hcx := hbr.cell (fillTo_at hlt)
      have hfx := hbr.frozen (fillTo_at hlt)
      have HS := Lib.hid (fillTo_set hlt)
      go_wp2
      go_roundw
      case rel =>
        refine ⟨k + 1, by go_num, by omega, ?_, ?_⟩
        · rw [← HS.out]
          exact hbr.set (fillTo_at hlt) _
        · exact hbel.setCell hgl _
      case measure => simp [intOf] <;> omega
    · obtain rfl : k = a := by omega
      go_wp2_with fail
      rw [fillTo_all] at hbr
      have ht : Rd .u32 wr (some ⟨g, 0, none⟩) (limbs (4294967296 ^ k - 1)) := Rd.of_all hbr
      have hlk := len_max k
      have hpos : 0 < 4294967296 ^ k := Nat.pow_pos (by decide)
      have hsum : 4294967296 ^ k - 1 + 1 = 4294967296 ^ k := Nat.sub_add_cancel hpos
      have HSUM := Lib.hid hsum
      clear hsum hbr hw1 hs1 hb1 hk hg
      by_cases hk6 : k < 256
      · refine (addM _ _ _ _ _ _ (4294967296 ^ k - 1) 1 (4294967296 ^ k) _ hlk.symm (show 1 = (limbs 1).length from rfl) (ht.alloc _) (Rd.of_all (blk_one wr _)) (by omega) (by omega) (by rw [len_pow]; omega) HSUM.out).mono ?_
        rintro e w2 ⟨A2, c2, rfl, hl2, _, ho2, hb2⟩
        rw [len_pow] at hl2 ⊢
        have rs := ho2.rd
        obtain ⟨b2, o2, rfl, hbw2, hcl2⟩ := rs.pos (get_pow k)
        have hcell := hcl2 k 1 (get_pow k)
        have ht2 := (ht.alloc _).below hb2
        clear hcl2 ho2
        go_wp2_with fail
        refine (bitsM _ _ _ _ (32 * k + 1) _ (len_pow k).symm rs (by omega) (nbits_pow k)).mono ?_
        rintro e w3 ⟨rfl, rfl⟩
        go_wp2_with fail
        refine (subM _ _ _ _ _ _ (4294967296 ^ k) 1 (4294967296 ^ k - 1) _ (len_pow k).symm (show 1 = (limbs 1).length from rfl) (rs.alloc _) (Rd.of_all (blk_one w2 _)) (by omega) (by omega) (by rw [len_max]; omega) HSUM.out).mono ?_
        rintro e w4 ⟨A4, c4, rfl, hl4, _, ho4, hb4⟩
        have rd := ho4.rd
        have ht4 := (ht2.alloc _).below hb4
        clear ho4
        rw [len_max] at hl4 ⊢
        go_wp2_with fail
        refine (sameM _ _ _ _ _ _ (4294967296 ^ k - 1) _ hlk.symm hlk.symm rd ht4 (by omega)).mono ?_
        rintro e w5 ⟨rfl, q5, rfl⟩
        have hbt : Below w.heap.size w (w4.drewN q5) := below_drewN (((((hbel.alloc hbel.size _).trans (hb2.mono (by simp; exact Nat.le_succ_of_le hbel.size)))).alloc (Nat.le_trans hbel.size (Nat.le_trans (by simp) hb2.size)) _).trans (hb4.mono (by simp; exact Nat.le_succ_of_le (Nat.le_trans hbel.size (Nat.le_trans (by simp) hb2.size))))) q5
        clear rs rd ht4 ht2 hb2 hb4 hcell hbel ht
        rcases Nat.eq_zero_or_pos k with rfl | hkp
        · go_wp2_with fail
          refine (works_any _).mono ?_
          rintro e w13 ⟨rfl, hb13⟩
          go_wp2_with fail
          go_ret
          exact ⟨rfl, hbt.trans (hb13.mono hbt.size)⟩
        · obtain ⟨wt, hwt⟩ : ∃ wt, wt = w4.drewN q5 := ⟨_, rfl⟩
          rw [← hwt] at hbt ⊢
          clear hwt
          have HBT := Lib.hid hbt
          by_cases hb0 : b = 0
          · subst hb0
            go_wp2_with fail
            refine (works_any _).mono ?_
            rintro e w13 ⟨rfl, hb13⟩
            go_wp2_with fail
            go_ret
            exact ⟨rfl, hbt.trans (hb13.mono hbt.size)⟩
          · have tok1 : True := trivial
            have hz1 : ((k : Int) == 0) = false := by simp; omega
            have hz2 : ((b : Int) == 0) = false := by simp; omega
            go_wp2_with (first | (at_make; have _t := tok1; refine wpList_make_ints _ rfl _ _ _ rfl .u32 41 4 Try.underlying22 info_u32 _ _ k _ _ rfl rfl rfl rfl (by omega) (by omega) ?_; intro g6 w6 hg6 hw6 hs6 hb6; clear tok1 hs6; have hg6' : wt.heap.size ≤ g6 := (by rw [hg6.out]; exact Nat.le_refl _)) | (at_make; refine wpList_make_ints _ rfl _ _ _ rfl .u32 41 4 Try.underlying22 info_u32 _ _ b _ _ rfl rfl rfl rfl (by omega) (by omega) ?_; intro g7 w7 hg7 hw7 hs7 hb7; clear hs7; have hw67 := hw6.below hb7; have hne : g6 ≠ g7 := (by rw [hg7.out]; exact Nat.ne_of_lt hw6.lt); have c6 := hw67.blk.cell (rep_at hkp); have f6 := hw67.blk.frozen (rep_at hkp); have c7 := hw7.blk.cell (rep_at (Nat.pos_of_ne_zero hb0)); have f7 := hw7.blk.frozen (rep_at (Nat.pos_of_ne_zero hb0))))
            have hX : Rd .u32 ((w7.setCell ⟨g6, k - 1, none⟩ (.int .u32 4294967295)).setCell ⟨g7, b - 1, none⟩ (.int .u32 4294967295)) (some ⟨g6, 0, none⟩) (limbs (4294967296 ^ (k - 1) * 4294967295)) := by
              have h9 := (hw67.set (k - 1) 4294967295).far (p := ⟨g7, b - 1, none⟩) hne (.int .u32 4294967295)
              rw [rep_set hkp, ← limbs_top] at h9
              exact Rd.of_all h9.blk
            have hY : Rd .u32 ((w7.setCell ⟨g6, k - 1, none⟩ (.int .u32 4294967295)).setCell ⟨g7, b - 1, none⟩ (.int .u32 4294967295)) (some ⟨g7, 0, none⟩) (limbs (4294967296 ^ (b - 1) * 4294967295)) := by
              have h9 := (hw7.far (p := ⟨g6, k - 1, none⟩) (Ne.symm hne) (.int .u32 4294967295)).set (b - 1) 4294967295
              rw [rep_set (Nat.pos_of_ne_zero hb0), ← limbs_top] at h9
              exact Rd.of_all h9.blk
            have hbt2 : Below w.heap.size w ((w7.setCell ⟨g6, k - 1, none⟩ (.int .u32 4294967295)).setCell ⟨g7, b - 1, none⟩ (.int .u32 4294967295)) :=
              ((((hbt.trans (hb6.mono hbt.size)).trans (hb7.mono (Nat.le_trans hbt.size hb6.size))).setCell (Nat.le_trans hbt.size hg6') _).setCell (by have := hg7.out; have := hb6.size; have := hbt.size; show w.heap.size ≤ g7; omega) _)
            clear c6 f6 c7 f7 hw67 hw6 hw7 hb6 hb7 hg6 hg7
            by_cases hbig : k + b ≤ 256
            · refine (mulM _ _ _ _ _ _ (4294967296 ^ (k - 1) * 4294967295) (4294967296 ^ (b - 1) * 4294967295) _ _ (by rw [len_top]; omega) (by rw [len_top]; omega) hX hY (by omega) (by omega) (by rw [len_top2]; omega) rfl).mono ?_
              rintro e w8 ⟨A8, c8, rfl, hl8, _, ho8, hb8⟩
              have r8 := ho8.rd
              obtain ⟨b9, o9, rfl, _, hcl9⟩ := r8.pos (get_top2 (k - 1) (b - 1))
              have hcell9 := hcl9 _ _ (get_top2 (k - 1) (b - 1))
              have hbt3 := hbt2.trans (hb8.mono hbt2.size)
              rw [len_top2] at hl8 ⊢
              rw [show k - 1 + (b - 1) + 2 = k + b from by omega] at hl8 ⊢
              rw [show k - 1 + (b - 1) + 1 = k + b - 1 from by omega] at hcell9
              clear hcl9 ho8 hb8 hX hY r8
              go_wp2_with fail
              refine (works_any _).mono ?_
              rintro e w13 ⟨rfl, hb13⟩
              go_wp2_with fail
              go_ret
              exact ⟨rfl, hbt3.trans (hb13.mono hbt3.size)⟩
            · refine (mulM_big _ _ _ _ _ _ (4294967296 ^ (k - 1) * 4294967295) (4294967296 ^ (b - 1) * 4294967295) _ _ (by rw [len_top]; omega) (by rw [len_top]; omega) hX hY (by omega) (by omega) (by rw [len_top2]; omega) rfl).mono ?_
              rintro e w8 ⟨A8, c8, rfl, hl8, _, ho8, hb8⟩
              have hbt3 := hbt2.trans (hb8.mono hbt2.size)
              clear ho8 hb8 hX hY
              go_wp2_with fail
              refine (works_any _).mono ?_
              rintro e w13 ⟨rfl, hb13⟩
              go_wp2_with fail
              go_ret
              exact ⟨rfl, hbt3.trans (hb13.mono hbt3.size)⟩
      · have hkp : 0 < k := by omega
        refine (addM_big _ _ _ _ _ _ (4294967296 ^ k - 1) 1 (4294967296 ^ k) _ hlk.symm (show 1 = (limbs 1).length from rfl) (ht.alloc _) (Rd.of_all (blk_one wr _)) (by omega) (by omega) (by rw [len_pow]; omega) HSUM.out).mono ?_
        rintro e w2 ⟨A2, c2, rfl, hl2, _, ho2, hb2⟩
        have hbt : Below w.heap.size w w2 := ((hbel.alloc hbel.size _).trans (hb2.mono (by simp; exact Nat.le_succ_of_le hbel.size)))
        clear ho2 hb2 hbel ht
        obtain ⟨wt, hwt⟩ : ∃ wt, wt = w2 := ⟨_, rfl⟩
        rw [← hwt] at hbt ⊢
        clear hwt
        have HBT := Lib.hid hbt
        by_cases hb0 : b = 0
        · subst hb0
          go_wp2_with fail
          refine (works_any _).mono ?_
          rintro e w13 ⟨rfl, hb13⟩
          go_wp2_with fail
          go_ret
          exact ⟨rfl, hbt.trans (hb13.mono hbt.size)⟩
        · have tok1 : True := trivial
          have hz1 : ((k : Int) == 0) = false := by simp; omega
          have hz2 : ((b : Int) == 0) = false := by simp; omega
          go_wp2_with (first | (at_make; have _t := tok1; refine wpList_make_ints _ rfl _ _ _ rfl .u32 41 4 Try.underlying22 info_u32 _ _ k _ _ rfl rfl rfl rfl (by omega) (by omega) ?_; intro g6 w6 hg6 hw6 hs6 hb6; clear tok1 hs6; have hg6' : wt.heap.size ≤ g6 := (by rw [hg6.out]; exact Nat.le_refl _)) | (at_make; refine wpList_make_ints _ rfl _ _ _ rfl .u32 41 4 Try.underlying22 info_u32 _ _ b _ _ rfl rfl rfl rfl (by omega) (by omega) ?_; intro g7 w7 hg7 hw7 hs7 hb7; clear hs7; have hw67 := hw6.below hb7; have hne : g6 ≠ g7 := (by rw [hg7.out]; exact Nat.ne_of_lt hw6.lt); have c6 := hw67.blk.cell (rep_at hkp); have f6 := hw67.blk.frozen (rep_at hkp); have c7 := hw7.blk.cell (rep_at (Nat.pos_of_ne_zero hb0)); have f7 := hw7.blk.frozen (rep_at (Nat.pos_of_ne_zero hb0))))
          have hX : Rd .u32 ((w7.setCell ⟨g6, k - 1, none⟩ (.int .u32 4294967295)).setCell ⟨g7, b - 1, none⟩ (.int .u32 4294967295)) (some ⟨g6, 0, none⟩) (limbs (4294967296 ^ (k - 1) * 4294967295)) := by
            have h9 := (hw67.set (k - 1) 4294967295).far (p := ⟨g7, b - 1, none⟩) hne (.int .u32 4294967295)
            rw [rep_set hkp, ← limbs_top] at h9
            exact Rd.of_all h9.blk
          have hY : Rd .u32 ((w7.setCell ⟨g6, k - 1, none⟩ (.int .u32 4294967295)).setCell ⟨g7, b - 1, none⟩ (.int .u32 4294967295)) (some ⟨g7, 0, none⟩) (limbs (4294967296 ^ (b - 1) * 4294967295)) := by
            have h9 := (hw7.far (p := ⟨g6, k - 1, none⟩) (Ne.symm hne) (.int .u32 4294967295)).set (b - 1) 4294967295
            rw [rep_set (Nat.pos_of_ne_zero hb0), ← limbs_top] at h9
            exact Rd.of_all h9.blk
          have hbt2 : Below w.heap.size w ((w7.setCell ⟨g6, k - 1, none⟩ (.int .u32 4294967295)).setCell ⟨g7, b - 1, none⟩ (.int .u32 4294967295)) :=
            ((((hbt.trans (hb6.mono hbt.size)).trans (hb7.mono (Nat.le_trans hbt.size hb6.size))).setCell (Nat.le_trans hbt.size hg6') _).setCell (by have := hg7.out; have := hb6.size; have := hbt.size; show w.heap.size ≤ g7; omega) _)
          clear c6 f6 c7 f7 hw67 hw6 hw7 hb6 hb7 hg6 hg7
          by_cases hbig : k + b ≤ 256
          · exact absurd hbig (by omega)
          · refine (mulM_big _ _ _ _ _ _ (4294967296 ^ (k - 1) * 4294967295) (4294967296 ^ (b - 1) * 4294967295) _ _ (by rw [len_top]; omega) (by rw [len_top]; omega) hX hY (by omega) (by omega) (by rw [len_top2]; omega) rfl).mono ?_
            rintro e w8 ⟨A8, c8, rfl, hl8, _, ho8, hb8⟩
            have hbt3 := hbt2.trans (hb8.mono hbt2.size)
            clear ho8 hb8 hX hY
            go_wp2_with fail
            refine (works_any _).mono ?_
            rintro e w13 ⟨rfl, hb13⟩
            go_wp2_with fail
            go_ret
            exact ⟨rfl, hbt3.trans (hb13.mono hbt3.size)⟩
end Go.Proofs.Ytglmplkjljgbbaa
