/-
  The reference's sum (Sum): the document's SHA-256, in the program.
-/
import Derived.Test.YtmbkehmgpcmicaaShaX
import Derived.Test.YtmbkehmgpcmicaaShaN
namespace Go.Proofs.Ytmbkehmgpcmicaa
set_option linter.unusedVariables false
set_option linter.unusedSimpArgs false
open Go.RowKit

theorem padded_length (m : List Nat) : ∃ q, (m ++ padding m.length).length = 64 * q ∧ q ≤ m.length / 64 + 2 := by
  have h := padding_length m.length
  have h2 : (padding m.length).length ≤ 73 := by simp [padding, be64]; omega
  refine ⟨(m ++ padding m.length).length / 64, ?_, ?_⟩
  · rw [List.length_append]
    omega
  · rw [List.length_append]
    omega
theorem rem_i64 (i : Nat) (h : i < 32) : IntKind.i64.wrap (24 - IntKind.i64.wrap (8 * ((i : Int) % 4))) = ((24 - 8 * (i % 4) : Nat) : Int) := by
  rw [IntWalk.i64_in (8 * ((i : Int) % 4)) (by omega), IntWalk.i64_in _ (by omega)]
  omega

theorem Rd.cell_at {k : IntKind} {w : World} {b o : Nat} {xs : List Nat} {i x : Nat} (h : Rd k w (some ⟨b, o, none⟩) xs) (hx : xs[i]? = some x) : w.cell? ⟨b, o + i, none⟩ = some (.int k (x : Int)) := by
  obtain ⟨b', o', he, _, hc⟩ := h.pos hx
  injection he with he
  injection he with h1 h2
  subst h1
  subst h2
  exact hc _ _ hx
set_option maxRecDepth 100000 in
set_option maxHeartbeats 3200000 in
theorem refSum_any (A : Option Addr) (n c : Nat) (m : List Nat) (w : World) (hn : n = m.length) (hl : n ≤ 1099511627776) (hb : Rd .u8 w A m) (lb : Lim 256 m) :
    Calls Try.prog 15 #[.slice A n c] w (GivesArr .u8 (digest m) w) := by
  obtain ⟨q, hML, hq⟩ := padded_length m
  have HDG := Lib.hid (show digest m = outTo (blocks H8 (m ++ padding m.length) q) 32 by
    rw [digest, hML, Nat.mul_div_cancel_left _ (by omega)]
    rfl)
  have hlM : Lim 256 (m ++ padding m.length) := lb.append (padding_lim _)
  have hql : 64 * q ≤ 1099511627920 := by omega
  have HN := Lib.hid hn
  have HQ := Lib.hid hML
  clear hML hq hn
  go_enter Try.func15, Try.ntmps15
  go_wp2_with fail
  have hw2 : Whl .u8 25 (w.alloc (.cells (ints .u8 (List.replicate 32 0)).toArray 25)) w.heap.size (List.replicate 32 0) := whl_new0 w _
  have hba : Below w.heap.size w (w.alloc (.cells (ints .u8 (List.replicate 32 0)).toArray 25)) := (Below.refl _ _).alloc (Nat.le_refl _) _
  change Calls _ _ _ (w.alloc (.cells (ints .u8 (List.replicate 32 0)).toArray 25)) _
  have hra := hb.below hba
  generalize w.alloc (.cells (ints .u8 (List.replicate 32 0)).toArray 25) = wa at *
  have hltw := hw2.lt
  refine (roots_H _).mono ?_
  rintro e w1 ⟨A1, c1, rfl, -, -, hO1, hb1⟩
  rw [H8_length]
  have hr1 := hO1.rd
  clear hO1
  go_wp2_with fail
  refine (roots_K _).mono ?_
  rintro e w2 ⟨A2, c2, rfl, -, -, hO2, hb2⟩
  rw [K64_length]
  have hr2 := hO2.rd
  clear hO2
  replace hr1 := hr1.below hb2
  have hra2 := (hra.below hb1).below hb2
  have hbA2 : Below wa.heap.size wa w2 := hb1.trans (hb2.mono hb1.size)
  clear hra hb1 hb2
  go_wp2_with fail
  refine (padded_any A n c m _ HN.out hl hra2).mono ?_
  rintro e w3 ⟨A3, c3, rfl, hc3, hcm3, hO3, hb3⟩
  rw [HQ.out] at hc3 ⊢
  have hr3 := hO3.rd
  clear hO3 hra2
  replace hr1 := hr1.below hb3
  replace hr2 := hr2.below hb3
  have hbA3 : Below wa.heap.size wa w3 := hbA2.trans (hb3.mono hbA2.size)
  clear hbA2 hb3
  obtain ⟨M, hM⟩ : ∃ M, M = m ++ padding m.length := ⟨_, rfl⟩
  rw [← hM] at HDG HQ hlM hr3
  clear hM
  have hMc : M.length ≤ c3 := by rw [HQ.out]; exact hc3
  go_wp2_with fail
  go_loopw [3, 6] (fun u s wr => ∃ (j p : Nat) (Ah : Option Addr) (ch : Nat), u = .slice Ah 8 ch ∧ s = .int .i64 (p : Int) ∧ Hid (p = 64 * j) ∧ j ≤ q ∧ Rd .u32 wr Ah (blocks H8 M j) ∧ Below w3.heap.size w3 wr) (fun _ s _ => 64 * q - (intOf s).toNat)
  case atStart => exact ⟨0, 0, A1, c1, rfl, rfl, rfl, Nat.zero_le _, hr1, Below.refl _ _⟩
  case round =>
    clear hr1
    obtain ⟨j, p, Ah, ch, rfl, rfl, hp, hj, hr1, hbel⟩ := hrel
    by_cases hlt : j < q
    · obtain ⟨t, ht⟩ : ∃ t, t = p + 64 := ⟨_, rfl⟩
      have hpq : p < 64 * q := by have := hp.out; omega
      have htq : t ≤ 64 * q := by have := hp.out; omega
      have hte : (p : Int) + 64 = (t : Int) := by omega
      have hsl := slice_lh A3 (64 * q) c3 p t (by omega) (by omega)
      rw [show t - p = 64 by omega] at hsl
      have hr4 : Rd .u8 wr (cutAddr A3 p c3) ((M.drop (64 * j)).take 64) := by rw [← hp.out]; exact (rd_cut (hr3.below hbel) p c3 hMc).take _
      have hlen := Lib.hid (show ((M.drop (64 * j)).take 64).length = 64 by rw [List.length_take, List.length_drop, HQ.out]; omega)
      have hok := blocks_ok H8_length H8_lim M j
      have hrk := hr2.below hbel
      have HT := Lib.hid ht
      clear ht
      go_wp2_with fail
      refine (refBlock_any Ah A2 (cutAddr A3 p c3) ch c2 (c3 - p) (blocks H8 M j) ((M.drop (64 * j)).take 64) _ hr1 hrk hr4 hok.1 hok.2 hlen.out ((hlM.drop _).take _)).mono ?_
      rintro e w5 ⟨A5, c5, rfl, -, -, hO5, hb5⟩
      have hl8 : (compress (blocks H8 M j) ((M.drop (64 * j)).take 64)).length = 8 := compress_length _ _
      rw [hl8]
      have hr5 := hO5.rd
      clear hO5 hl8 hr4 hrk hok
      go_wp2_with fail
      go_roundw
      case rel => exact ⟨j + 1, t, A5, c5, rfl, rfl, by show t = 64 * (j + 1); have := HT.out; have := hp.out; omega, hlt, hr5, hbel.trans (hb5.mono hbel.size)⟩
      case measure => simp [intOf]; have := HT.out; omega
    · obtain rfl : j = q := by omega
      obtain ⟨H, hH⟩ : ∃ H, H = blocks H8 M j := ⟨_, rfl⟩
      have hok := blocks_ok H8_length H8_lim M j
      rw [← hH] at hr1 HDG hok
      obtain ⟨hHl, hHb⟩ := hok
      have HHl := Lib.hid hHl
      have hpe : ((p : Int) < 64 * (j : Int)) = False := by have := hp.out; simp; omega
      clear hH hHl
      obtain ⟨bh, oh, rfl, hbh, hch⟩ : ∃ bb o, Ah = some ⟨bb, o, none⟩ ∧ bb < wr.heap.size ∧ ∀ (i x : Nat), H[i]? = some x → wr.cell? ⟨bb, o + i, none⟩ = some (.int .u32 (x : Int)) := by
        obtain ⟨x, hx⟩ := get_of_lt (xs := H) (i := 0) (by rw [HHl.out]; omega)
        exact hr1.pos hx
      have hbg : bh ≠ wr.heap.size := by omega
      clear hch
      have hbA : Below wa.heap.size wa wr := hbA3.trans (hbel.mono hbA3.size)
      go_wp2_with fail
      have hw7 : Whl .u8 25 (wr.alloc (.cells (ints .u8 (List.replicate 32 0)).toArray 25)) wr.heap.size (pad 32 (outTo H 0)) := whl_new0 wr _
      have hbx : Below w.heap.size w (wr.alloc (.cells (ints .u8 (List.replicate 32 0)).toArray 25)) := (hba.trans (hbA.mono hba.size)).alloc (Nat.le_trans hba.size hbA.size) _
      have hw2' : Whl .u8 25 (wr.alloc (.cells (ints .u8 (List.replicate 32 0)).toArray 25)) w.heap.size (List.replicate 32 0) := (hw2.below hbA).alloc _
      have hbn : Below wr.heap.size wr (wr.alloc (.cells (ints .u8 (List.replicate 32 0)).toArray 25)) := (Below.refl _ _).alloc (Nat.le_refl _) _
      have hne : w.heap.size ≠ wr.heap.size := by have := (hw2.below hbA).lt; omega
      have hB7 : w.heap.size ≤ wr.heap.size := Nat.le_trans hba.size hbA.size
      have hrx := hr1.below hbn
      change Code.wp _ _ _ _ (wr.alloc (.cells (ints .u8 (List.replicate 32 0)).toArray 25))
      clear hbA hbel hbn hr2 hr3 hw2 hba hbA3
      generalize wr.alloc (.cells (ints .u8 (List.replicate 32 0)).toArray 25) = wx at *
      clear hbh hltw hr1
      generalize wr.heap.size = g7 at *
      go_loopw [8] (fun s wr => ∃ i : Nat, s = .int .i64 (i : Int) ∧ i ≤ 32 ∧ Whl .u8 25 wr g7 (pad 32 (outTo H i)) ∧ Whl .u8 25 wr w.heap.size (List.replicate 32 0) ∧ Rd .u32 wr (some ⟨bh, oh, none⟩) H ∧ Below w.heap.size w wr) (fun s _ => 32 - (intOf s).toNat)
      case atStart => exact ⟨0, rfl, by omega, hw7, hw2', hrx, hbx⟩
      case round =>
        clear hw7 hw2' hrx hbx
        obtain ⟨i, rfl, hi32, hw7, hw2, hrx, hbx⟩ := hrel
        by_cases hlt32 : i < 32
        · obtain ⟨x, hx⟩ := get_of_lt (xs := H) (i := i / 4) (by rw [HHl.out]; omega)
          have q1 := hrx.cell_at hx
          obtain ⟨y, hy⟩ : ∃ y, y = x / 2 ^ (24 - 8 * (i % 4)) % 256 := ⟨_, rfl⟩
          have hv := Lib.hid (show ((y : Nat) : Int) = (x : Int) / 2 ^ (24 - 8 * (i % 4)) % 256 by rw [hy]; push_cast; rfl)
          have HS := Lib.hid (show outTo H (i + 1) = outTo H i ++ [y] by rw [outTo_succ, List.getD_eq_getElem?_getD, hx, hy]; rfl)
          have hpl : (outTo H i).length < 32 := by rw [outTo_length]; exact hlt32
          have hat := pad_at hpl
          rw [outTo_length] at hat
          have q3 := hw7.blk.cell hat
          have q4 := hw7.blk.frozen hat
          clear hx hy hat hpl
          go_wp2_with fail
          go_roundw
          case rel =>
            refine ⟨i + 1, by go_num, by omega, ?_, hw2.far (p := ⟨g7, i, none⟩) hne _, hrx.setCell (p := ⟨g7, i, none⟩) (Off.of_ne hbg) _, hbx.setCell (p := ⟨g7, i, none⟩) hB7 _⟩
            have h := hw7.set i y
            have h7 := pad_set (n := 32) (l := outTo H i) (by rw [outTo_length]; exact hlt32) y
            rw [outTo_length] at h7
            rw [h7, ← HS.out, hv.out] at h
            exact h
          case measure => simp [intOf]; omega
        · obtain rfl : i = 32 := by omega
          rw [pad_full (outTo_length H 32), ← HDG.out] at hw7
          obtain ⟨D, hD⟩ : ∃ D, D = digest m := ⟨_, rfl⟩
          have hDl := Lib.hid (show D.length = 32 by rw [hD]; exact digest_length m)
          rw [← hD] at hw7
          have HD := Lib.hid hD
          clear hD HDG hrx
          go_wp2_with (first | (refine wpList_load_whl rfl 25 (.tmp 7) rfl g7 rfl .u8 _ D hw7 _ Try.underlying25 rfl (by rw [hDl.out]; exact size_32u8) ?_) | (refine wpList_store_whl rfl 25 (.tmp 2) (.tmp 45) rfl w.heap.size .u8 _ (List.replicate 32 0) D rfl rfl hw2 hDl.out size_32u8 ?_; intro w9 hw9 hg9 hs9))
          exact bodyPost_ret (v := .agg (ints .u8 D).toArray) (results_whl rfl _ _ w.heap.size .u8 _ D _ rfl hw9 Try.underlying25 rfl (by rw [hDl.out]; exact size_32u8)) rfl ⟨by rw [HD.out], below_only hbx hg9 hbx.size (Nat.le_refl _)⟩
end Go.Proofs.Ytmbkehmgpcmicaa
