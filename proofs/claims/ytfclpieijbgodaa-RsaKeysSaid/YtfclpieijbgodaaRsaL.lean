/-
  RsaKeys, walked: which keys may be, by the first byte, the last one and the exponent. Holds for every digest, place, byte and exponent.
-/
import Derived.Test.YtfclpieijbgodaaRsaK
namespace Go.Proofs.Ytfclpieijbgodaa
set_option linter.unusedVariables false
set_option linter.unusedSimpArgs false
open Go.RowKit

theorem sound_set {xs : List Nat} {x y : Nat} (hl : xs.length = 256) (h0 : xs[0]? = some x) (h1 : xs[255]? = some y) (e : Nat) : soundE xs e = if 128 ≤ x ∧ y % 2 = 1 ∧ e % 2 = 1 ∧ 3 ≤ e ∧ e < 8589934592 then 0 else 11 := by
  split
  · rename_i h
    exact soundE_yes ⟨.inl hl, by rw [h0]; exact h.1, by rw [hl, h1]; exact h.2.1, h.2.2.1, h.2.2.2.1, h.2.2.2.2⟩
  · rename_i h
    refine soundE_no fun k => h ⟨?_, ?_, k.eodd, k.e3, k.e33⟩
    · have := k.top
      rwa [h0] at this
    · have := k.odd
      rwa [hl, h1] at this
theorem fine_cases {x y : Nat} {S : Int} (h : S = if 128 ≤ x ∧ y % 2 = 1 ∧ 3 % 2 = 1 ∧ 3 ≤ 3 ∧ 3 < 8589934592 then 0 else 11) :
    (decide ((128 : Int) ≤ (x : Int)) = false ∧ Hid (S = 11)) ∨ (decide ((128 : Int) ≤ (x : Int)) = true ∧ ((y : Int) % 2 == 1) = false ∧ Hid (S = 11)) ∨ (decide ((128 : Int) ≤ (x : Int)) = true ∧ ((y : Int) % 2 == 1) = true ∧ Hid (S = 0)) := by
  by_cases h1 : 128 ≤ x
  · by_cases h2 : y % 2 = 1
    · exact .inr (.inr ⟨by simp; omega, by simp; omega, by rw [h, if_pos ⟨h1, h2, by omega⟩]; rfl⟩)
    · exact .inr (.inl ⟨by simp; omega, by simp; omega, by rw [h, if_neg (fun k => h2 k.2.1)]; rfl⟩)
  · exact .inl ⟨by simp; omega, by rw [h, if_neg (fun k => h1 k.1)]; rfl⟩
theorem exp_cases {e : Nat} {S : Int} (h : S = if e % 2 = 1 ∧ 3 ≤ e ∧ e < 8589934592 then 0 else 11) :
    (((e : Int) % 2 == 1) = false ∧ Hid (S = 11)) ∨ (((e : Int) % 2 == 1) = true ∧ decide ((3 : Int) ≤ (e : Int)) = false ∧ Hid (S = 11)) ∨ (((e : Int) % 2 == 1) = true ∧ decide ((3 : Int) ≤ (e : Int)) = true ∧ ((e : Int) / 8589934592 == 0) = false ∧ Hid (S = 11)) ∨
    (((e : Int) % 2 == 1) = true ∧ decide ((3 : Int) ≤ (e : Int)) = true ∧ ((e : Int) / 8589934592 == 0) = true ∧ Hid (S = 0)) := by
  by_cases h1 : e % 2 = 1
  · by_cases h2 : 3 ≤ e
    · by_cases h3 : e < 8589934592
      · exact .inr (.inr (.inr ⟨by simp; omega, by simp; omega, by simp; omega, by rw [h, if_pos ⟨h1, h2, h3⟩]; rfl⟩))
      · exact .inr (.inr (.inl ⟨by simp; omega, by simp; omega, by simp; omega, by rw [h, if_neg (fun k => h3 k.2.2)]; rfl⟩))
    · exact .inr (.inl ⟨by simp; omega, by simp; omega, by rw [h, if_neg (fun k => h2 k.2.1)]; rfl⟩)
  · exact .inl ⟨by simp; omega, by rw [h, if_neg (fun k => h1 k.1)]; rfl⟩
set_option maxRecDepth 100000 in
set_option maxHeartbeats 3200000 in
theorem rsaKeys_any (ds : List Nat) (i y e : Nat) (w : World) (hd : ds.length = 32) (ld : Lim 256 ds) (hi : i < 256) (hy : y < 256) (he : e < 18446744073709551616) :
    Calls Try.prog 14 #[.agg (ints .u8 ds).toArray, .int .u8 (i : Int), .int .u8 (y : Int), .int .u64 (e : Int)] w (Yes w) := by
  have hD : Whl .u8 49 (w.alloc (.cells (ints .u8 ds).toArray 49)) w.heap.size ds := whl_new0 _ _
  have e1 : Below w.heap.size w (w.alloc (.cells (ints .u8 ds).toArray 49)) := (Below.refl _ _).alloc (Nat.le_refl _) _
  have hl := Lib.hid hd
  clear hd
  have hkl := forKey_len ds
  obtain ⟨z, hz⟩ := get_of_lt (xs := forKey ds) (i := i) (by omega)
  obtain ⟨x0, hx0⟩ := get_of_lt (xs := (forKey ds).set i y) (i := 0) (by simp [hkl])
  obtain ⟨x1, hx1⟩ := get_of_lt (xs := (forKey ds).set i y) (i := 255) (by simp [hkl])
  have lset : Lim 256 ((forKey ds).set i y) := (forKey_lim ds).set hy
  have hb0 := lset.get hx0
  have hb1 := lset.get hx1
  have hS1 := Lib.hid (sound_set (xs := (forKey ds).set i y) (by simp [hkl]) hx0 hx1 3)
  have hS2 : Hid (soundE (forKey ds) e = if e % 2 = 1 ∧ 3 ≤ e ∧ e < 8589934592 then 0 else 11) := by
    obtain ⟨a, ha, h1, _⟩ := forKey_first hl.out ld
    obtain ⟨b, hb, h2, _⟩ := forKey_last hl.out ld
    have h := sound_set hkl ha hb e
    show _ = _
    rw [h]
    by_cases h3 : e % 2 = 1 ∧ 3 ≤ e ∧ e < 8589934592
    · rw [if_pos h3, if_pos ⟨h1, h2, h3⟩]
    · rw [if_neg h3, if_neg fun k => h3 k.2.2]
  have hF := fine_cases hS1.out
  have hG := exp_cases hS2.out
  clear hS1 hS2
  go_enter Try.func14, Try.ntmps14
  go_wp2_with (refine wpList_load_whl_if rfl 49 (.tmp 4) rfl w.heap.size rfl .u8 _ ds hD _ Try.underlying49 rfl (by rw [hl.out]; exact size_32u8) ?_)
  generalize w.alloc (.cells (ints .u8 ds).toArray 49) = w1 at *
  refine (for_any ds w1 hl.out ld).mono ?_
  rintro r w3 ⟨A, c, B, d, rfl, h3a, h3b, oA, h3c, h3d, oB, e3⟩
  unfold keyVal
  have D3 := hD.below e3
  have e4 : Below w3.heap.size w3 (w3.alloc (.cells #[.slice A 256 c, .int .u64 3] 52)) := (Below.refl _ _).alloc (Nat.le_refl _) _
  have K4 := key_new w3 A 256 c 3 52
  have D4 := D3.below e4
  have oA := oA.rd.below e4
  have e3 := e1.trans (e3.mono e1.size)
  have e4 := e3.trans (e4.mono e3.size)
  clear hD D3 e3 e1 oB
  have k0 := K4.c0
  have k1 := K4.c1
  go_wp2_with fail
  generalize w3.alloc (.cells #[.slice A 256 c, .int .u64 3] 52) = w4 at *
  refine (twin06_any A 256 c (forKey ds) w4 hkl.symm (by omega) oA).mono ?_
  rintro r w5 ⟨g, c5, rfl, hg5, b5, _, h5b, e5⟩
  rw [hkl]
  have hgw := Nat.le_trans e4.size hg5
  have c5i := b5.cell hz
  have f5i := b5.frozen hz
  have b6 := b5.set hz y
  have D6 := (D4.below e5).far (p := ⟨g, i, none⟩) (by have := D4.lt; show _ ≠ g; omega) (.int .u8 (y : Int))
  have K6 := (K4.below e5).far (p := ⟨g, i, none⟩) (by have := K4.lt; show _ ≠ g; omega) (.int .u8 (y : Int))
  have oA6 := (oA.below e5).setCell (p := ⟨g, i, none⟩) (Off.new oA hg5) (.int .u8 (y : Int))
  have e6 := (e4.trans (e5.mono e4.size)).setCell (p := ⟨g, i, none⟩) hgw (.int .u8 (y : Int))
  have c0 := b6.cell hx0
  have c255 := b6.cell hx1
  have lk := forKey_lim ds
  clear b5 D4 K4 oA e4 hz k0 k1
  have k0 := K6.c0
  have k1 := K6.c1
  have hS := sound_any (some ⟨g, 0, none⟩) 256 c5 3 ((forKey ds).set i y) _ (by simp [hkl]) (by omega) (Rd.of_all b6) lset (by omega)
  have hx := hx0
  clear hx0 hx1 hx
  have hsz : w.heap.size < w5.heap.size := by have := D6.lt; simpa using this
  have hR := sound_any A 256 c e (forKey ds)
  rcases hF with ⟨f1, HS⟩ | ⟨f1, f2, HS⟩ | ⟨f1, f2, HS⟩
  all_goals
    rw [HS.out] at hS
    unfold keyVal at hS
    clear HS
    go_wp2_with fail
    generalize w5.setCell ⟨g, i, none⟩ (.int .u8 (y : Int)) = w6 at *
    clear c0 c255 c5i f5i b6 k0 k1
    refine hS.mono ?_
    rintro r w7 ⟨rfl, e7⟩
    have D7 := D6.below e7
    have K7 := K6.below e7
    have oA7 := oA6.below e7
    have e7 := e6.trans (e7.mono e6.size)
    clear D6 K6 oA6 e6 hS
    have k0 := K7.c0
    have k1 := K7.c1
    have hR := hR w7 hkl.symm (by omega) oA7 lk he
    rcases hG with ⟨q1, HS⟩ | ⟨q1, q2, HS⟩ | ⟨q1, q2, q3, HS⟩ | ⟨q1, q2, q3, HS⟩
    all_goals
      rw [HS.out] at hR
      unfold keyVal at hR
      clear HS
      go_wp2_with fail
      refine hR.mono ?_
      rintro r w8 ⟨rfl, e8⟩
      have D8 := D7.below e8
      have e8 := e7.trans (e8.mono e7.size)
      clear hR D7 K7 oA7 k0 k1
      go_wp2_with (refine wpList_load_whl_if rfl 49 (.tmp 4) rfl w.heap.size rfl .u8 _ ds D8 _ Try.underlying49 rfl (by rw [hl.out]; exact size_32u8) ?_)
      refine (alive06_any ds w8 hl.out ld).mono ?_
      rintro r w9 ⟨rfl, e9⟩
      have e9 := e8.trans (e9.mono e8.size)
      go_wp2_with fail
      go_ret
      exact ⟨rfl, e9⟩
end Go.Proofs.Ytfclpieijbgodaa
