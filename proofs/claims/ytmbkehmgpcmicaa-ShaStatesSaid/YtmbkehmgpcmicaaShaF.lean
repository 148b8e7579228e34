/-
  A state's beginning (make, New), in the program.
-/
import Derived.Test.YtmbkehmgpcmicaaShaE
namespace Go.Proofs.Ytmbkehmgpcmicaa
set_option linter.unusedVariables false
set_option linter.unusedSimpArgs false
open Go.RowKit

theorem index_64 (w : World) (xs : List Nat) (k p : Nat) (hl : xs.length = 64) (hk : xs[k]? = some p) : (Instr.index 60 (.agg (ints .u64 xs).toArray) (.int .i64 (k : Int))).run Try.prog w = .ok (.int .u64 (p : Int)) w := by
  have hlt : k < 64 := by rw [← hl]; exact (List.getElem?_eq_some_iff.1 hk).1
  have h3 : ∀ w, (sizeOf 35).run Try.prog w = .ok 1 w := fun w => by kernel_rfl
  have h4 : ∀ w, (isAgg 35).run Try.prog w = .ok false w := fun w => by kernel_rfl
  have h5 := ints_get (k := .u64) hk
  have h6 : (ints .u64 xs).toArray[k]? = some (.int .u64 (p : Int)) := by simpa using h5
  have h7 : (k : Int) < 64 := by omega
  simp [Instr.index, asIntOf, run_underlying Try.underlying60, Sem.run_bind, Result.andThen, h7, h3, Go.part, h4, h5, hlt]

/-- The first k of a list, and then those of another one. -/
def mix (K ks : List Nat) (k : Nat) : List Nat := K.take k ++ ks.drop k
theorem mix_length {K ks : List Nat} {n k : Nat} (h1 : K.length = n) (h2 : ks.length = n) (hk : k ≤ n) : (mix K ks k).length = n := by simp [mix]; omega
theorem mix_at {K ks : List Nat} {n k : Nat} (h1 : K.length = n) (h2 : ks.length = n) (hk : k < n) : ∃ x, (mix K ks k)[k]? = some x := ⟨_, List.getElem?_eq_getElem (by rw [mix_length h1 h2 (by omega)]; exact hk)⟩
theorem mix_set {K ks : List Nat} {n k x : Nat} (h1 : K.length = n) (h2 : ks.length = n) (hk : k < n) (hx : K[k]? = some x) : (mix K ks k).set k x = mix K ks (k + 1) := by
  have h3 : (K.take k).length = k := by simp; omega
  rw [mix, mix, List.set_append_right _ _ (by omega), h3, Nat.sub_self, List.take_add_one, hx, List.append_assoc]
  congr 1
  obtain ⟨y, hy⟩ : ∃ y, ks[k]? = some y := ⟨_, List.getElem?_eq_getElem (by omega)⟩
  have h5 : ks.drop k = y :: ks.drop (k + 1) := by
    rw [List.getElem?_eq_some_iff] at hy
    obtain ⟨h6, h7⟩ := hy
    rw [← h7, List.drop_eq_getElem_cons h6]
  rw [h5]
  rfl
theorem mix_full {K ks : List Nat} {n : Nat} (h1 : K.length = n) (h2 : ks.length = n) : mix K ks n = K := by
  rw [mix, ← h1, List.take_length, h1, ← h2, List.drop_length, List.append_nil]
theorem cut_of {w : World} {g o : Nat} {k : IntKind} {cs : List Nat} {i x : Nat} (h : Cut w g o (ints k cs)) (hx : cs[i]? = some x) (y : Nat) : Cut (w.setCell ⟨g, o + i, none⟩ (.int k (y : Int))) g o (ints k (cs.set i y)) := by
  rw [← ints_set]
  exact h.set (ints_get hx) _

theorem P64_lt : ∀ p ∈ P64, p < 65536 := by decide
def MakePost (g : Nat) (vs : List Value) (w : World) (e : Ending) (w' : World) : Prop :=
  e = .returned (.tuple #[]) ∧ Cut w' g 0 [.bool true] ∧ Cut w' g 1 (ints .u32 K64) ∧ Cut w' g 65 (ints .u32 H8) ∧ Cut w' g 73 vs ∧ w.grownBy w' (some g)

set_option maxRecDepth 100000 in
set_option maxHeartbeats 1600000 in
theorem make_any (g : Nat) (ks hs : List Nat) (vs : List Value) (w : World) (h0 : Cut w g 0 [.bool false]) (h1 : Cut w g 1 (ints .u32 ks)) (h2 : Cut w g 65 (ints .u32 hs)) (h3 : Cut w g 73 vs) (hk : ks.length = 64) (hh : hs.length = 8) :
    Calls Try.prog 26 #[.pointer (some ⟨g, 0, none⟩)] w (MakePost g vs w) := by
  have HK := Lib.hid hk
  have HH := Lib.hid hh
  clear hk hh
  have hc0 := h0.cell (i := 0) rfl
  go_enter Try.func26, Try.ntmps26
  go_wp2_with fail
  refine (primes_any _).mono ?_
  rintro e w1 ⟨rfl, hb1⟩
  replace h0 := h0.below hb1
  replace h1 := h1.below hb1
  replace h2 := h2.below hb1
  replace h3 := h3.below hb1
  have hgr := only_of_below hb1 (some g)
  have hPl := Lib.hid (show P64.length = 64 from rfl)
  clear hc0
  obtain ⟨PP, hPP⟩ : ∃ PP, PP = P64 := ⟨_, rfl⟩
  rw [← hPP] at hPl ⊢
  have HPP := Lib.hid hPP
  clear hPP
  go_wp2_with (first | (refine wpList_store_whl rfl 60 (.tmp 2) (.tmp 10) rfl w1.heap.size .u64 60 (List.replicate 64 0) PP rfl rfl (whl_new _ _ _ rfl) hPl.out size_64u64 ?_; intro w2 hw2 hg2 hs2; clear hs2) | (refine wpList_load_whl rfl 60 (.tmp 2) rfl w1.heap.size rfl .u64 _ PP hw2 _ Try.underlying60 rfl (by rw [hPl.out]; exact size_64u64) ?_))
  have hb12 : Below w1.heap.size w1 w2 := below_only ((Below.refl _ _).alloc (Nat.le_refl _) _) hg2 (by simp) (Nat.le_refl _)
  have hne : g ≠ w1.heap.size := Nat.ne_of_lt h0.lt
  replace h0 := h0.below hb12
  replace h1 := h1.below hb12
  replace h2 := h2.below hb12
  replace h3 := h3.below hb12
  have hgr2 : w.grownBy w2 (some g) := only_trans hgr (only_of_below hb12 _)
  clear hgr hg2 hb12 hb1
  obtain ⟨g2, hg2⟩ : ∃ g2, g2 = w1.heap.size := ⟨_, rfl⟩
  rw [← hg2] at hne hw2 ⊢
  clear hg2
  go_loopw [12] (fun s wr => ∃ k : Nat, s = .int .i64 (k : Int) ∧ k ≤ 64 ∧ Cut wr g 0 [.bool false] ∧ Cut wr g 1 (ints .u32 (mix K64 ks k)) ∧ Cut wr g 65 (ints .u32 hs) ∧ Cut wr g 73 vs ∧ Whl .u64 60 wr g2 PP ∧ w.grownBy wr (some g)) (fun s _ => 64 - (intOf s).toNat)
  case atStart => exact ⟨0, rfl, by omega, h0, h1, h2, h3, hw2, hgr2⟩
  case round =>
    clear h0 h1 h2 h3 hw2 hgr2
    obtain ⟨k, rfl, hk, h0, h1, h2, h3, hw2, hgr2⟩ := hrel
    by_cases hlt : k < 64
    · obtain ⟨p, hp⟩ := get_of_lt (xs := PP) (i := k) (by rw [hPl.out]; exact hlt)
      have hmem : p ∈ P64 := by rw [← HPP.out]; exact List.mem_of_getElem? hp
      have hcu := cuS_pos p hmem
      have hpb : p < 65536 := P64_lt p hmem
      have hidx := fun w => index_64 w PP k p hPl.out hp
      have hKk := Lib.hid (show K64[k]? = some ((cuS p - 1) % 4294967296) by rw [K64, List.getElem?_map, ← HPP.out, hp]; rfl)
      obtain ⟨z, hz⟩ := mix_at K64_length HK.out hlt
      have q1 := h1.cell (ints_get hz)
      have q2 := h1.frozen (ints_get hz)
      have hgl : g < wr.heap.size := h0.lt
      have hgn : ¬ g = wr.heap.size := Nat.ne_of_lt h0.lt
      have i1 : (0 : Int) ≤ (k : Int) := by omega
      have i2 : (k : Int) < 64 := by omega
      generalize hKv : (cuS p - 1) % 4294967296 = v at *
      have HZ := Lib.hid hz
      clear hp hz hmem
      go_wp2_with fail
      go_region_with (first | (go_at_call 34; refine (cube_any p _ hpb hcu.1 hcu.2).mono ?_; rintro e w3 ⟨rfl, rfl⟩; rw [hKv]))
      go_wp2_with fail
      go_roundw
      case rel =>
        refine ⟨k + 1, by go_num, by omega, ?_, ?_, ?_, ?_, ?_, ?_⟩
        · exact ((h0.apart (p := ⟨g, 1 + k, none⟩) (Or.inr (Or.inr (by simp))) _).alloc _).drew
        · have h := cut_of h1 HZ.out v
          rw [mix_set K64_length HK.out hlt hKk.out] at h
          exact (h.alloc _).drew
        · exact ((h2.apart (p := ⟨g, 1 + k, none⟩) (Or.inr (Or.inl (by show 1 + k < 65; omega))) _).alloc _).drew
        · exact ((h3.apart (p := ⟨g, 1 + k, none⟩) (Or.inr (Or.inl (by show 1 + k < 73; omega))) _).alloc _).drew
        · exact ((hw2.far (p := ⟨g, 1 + k, none⟩) (Ne.symm hne) _).alloc _).drewN 1
        · exact only_drew (only_alloc (only_set hgr2 (p := ⟨g, 1 + k, none⟩) (Or.inl rfl) _) _)
      case measure => simp [intOf]; omega
    · have h64 : k = 64 := by omega
      rw [h64, mix_full K64_length HK.out] at h1
      have hge : ((k : Int) < 64) = False := by simp; omega
      clear h64
      obtain ⟨k64, rfl⟩ : ∃ j, j = k := ⟨_, rfl⟩
      go_wp2_with fail
      go_loopw [24] (fun s wr => ∃ k : Nat, s = .int .i64 (k : Int) ∧ k ≤ 8 ∧ Cut wr g 0 [.bool false] ∧ Cut wr g 1 (ints .u32 K64) ∧ Cut wr g 65 (ints .u32 (mix H8 hs k)) ∧ Cut wr g 73 vs ∧ Whl .u64 60 wr g2 PP ∧ w.grownBy wr (some g)) (fun s _ => 8 - (intOf s).toNat)
      case atStart => exact ⟨0, rfl, by omega, h0, h1, h2, h3, hw2, hgr2⟩
      case round =>
        clear h0 h1 h2 h3 hw2 hgr2
        obtain ⟨k, rfl, hk, h0, h1, h2, h3, hw2, hgr2⟩ := hrel
        by_cases hlt : k < 8
        · obtain ⟨p, hp⟩ := get_of_lt (xs := PP) (i := k) (by rw [hPl.out]; omega)
          have hmem : p ∈ P64 := by rw [← HPP.out]; exact List.mem_of_getElem? hp
          have hcu := sqS_pos p hmem
          have hpb : p < 65536 := P64_lt p hmem
          have q0 := hw2.blk.cell hp
          have hKk := Lib.hid (show H8[k]? = some ((sqS p - 1) % 4294967296) by rw [H8, List.getElem?_map, List.getElem?_take, if_pos hlt, ← HPP.out, hp]; rfl)
          obtain ⟨z, hz⟩ := mix_at H8_length HH.out hlt
          have q1 := h2.cell (ints_get hz)
          have q2 := h2.frozen (ints_get hz)
          have hgl : g < wr.heap.size := h0.lt
          have hgn : ¬ g = wr.heap.size := Nat.ne_of_lt h0.lt
          have i1 : (0 : Int) ≤ (k : Int) := by omega
          have i2 : (k : Int) < 8 := by omega
          have i3 : (k : Int) < 64 := by omega
          generalize hKv : (sqS p - 1) % 4294967296 = v at *
          have HZ := Lib.hid hz
          clear hp hz hmem
          go_wp2_with fail
          go_region_with (first | (go_at_call 35; refine (square_any p _ hpb hcu.1 hcu.2).mono ?_; rintro e w3 ⟨rfl, rfl⟩; rw [hKv]))
          go_wp2_with fail
          go_roundw
          case rel =>
            refine ⟨k + 1, by go_num, by omega, ?_, ?_, ?_, ?_, ?_, ?_⟩
            · exact ((h0.apart (p := ⟨g, 65 + k, none⟩) (Or.inr (Or.inr (by simp; omega))) _).alloc _).drew
            · exact ((h1.apart (p := ⟨g, 65 + k, none⟩) (Or.inr (Or.inr (by rw [ints_length, K64_length]; show 65 ≤ 65 + k; omega))) _).alloc _).drew
            · have h := cut_of h2 HZ.out v
              rw [mix_set H8_length HH.out hlt hKk.out] at h
              exact (h.alloc _).drew
            · exact ((h3.apart (p := ⟨g, 65 + k, none⟩) (Or.inr (Or.inl (by show 65 + k < 73; omega))) _).alloc _).drew
            · exact ((hw2.far (p := ⟨g, 65 + k, none⟩) (Ne.symm hne) _).alloc _).drewN 1
            · exact only_drew (only_alloc (only_set hgr2 (p := ⟨g, 65 + k, none⟩) (Or.inl rfl) _) _)
          case measure => simp [intOf]; omega
        · have h8 : k = 8 := by omega
          rw [h8, mix_full H8_length HH.out] at h2
          have hge2 : ((k : Int) < 8) = False := by simp; omega
          have q1 := h0.cell (i := 0) rfl
          have q2 := h0.frozen (i := 0) rfl
          clear h8
          go_wp2_with fail
          go_end0
          refine ⟨rfl, ?_, ?_, ?_, ?_, ?_⟩
          · exact h0.set (i := 0) rfl (.bool true)
          · exact h1.apart (p := ⟨g, 0, none⟩) (Or.inr (Or.inl (by simp))) _
          · exact h2.apart (p := ⟨g, 0, none⟩) (Or.inr (Or.inl (by simp))) _
          · exact h3.apart (p := ⟨g, 0, none⟩) (Or.inr (Or.inl (by simp))) _
          · exact only_set hgr2 (p := ⟨g, 0, none⟩) (Or.inl rfl) _
end Go.Proofs.Ytmbkehmgpcmicaa
