/-
  RsaShape, walked: an encoded message has the shape that the document says. Holds for every digest and length.
-/
import Derived.Test.YtfclpieijbgodaaRsaK
import Derived.Deep.RegionHeld3
namespace Go.Proofs.Ytfclpieijbgodaa
set_option linter.unusedVariables false
set_option linter.unusedSimpArgs false
open Go.RowKit

def head20 : List Nat := 0 :: head19
theorem enc_at0 (ds : List Nat) (n : Nat) : (encN ds n)[0]? = some 0 := by simp [encN]
theorem enc_at1 (ds : List Nat) (n : Nat) : (encN ds n)[1]? = some 1 := by simp [encN]
theorem enc_at {ds : List Nat} {n i : Nat} (h2 : 2 ≤ i) (hi : i < n - 52) : (encN ds n)[i]? = some 255 := by
  unfold encN
  rw [List.getElem?_append_right (by simpa using h2), List.getElem?_append_left (by simp; omega), List.getElem?_replicate, if_pos (by simp; omega)]
theorem enc_mid {ds : List Nat} {n : Nat} (hd : ds.length = 32) (hn : 62 ≤ n) : ((encN ds n).drop (n - 52)).take 20 = head20 := by
  have e : encN ds n = ([0, 1] ++ List.replicate (n - 54) 255) ++ (head20 ++ ds) := by simp [encN, head20]
  have hl : ([0, 1] ++ List.replicate (n - 54) 255).length = n - 52 := by simp; omega
  rw [e, ← hl, List.drop_left, show (20 : Nat) = head20.length from rfl, List.take_left]
theorem enc_end {ds : List Nat} {n : Nat} (hd : ds.length = 32) (hn : 62 ≤ n) : (encN ds n).drop (n - 32) = ds := by
  have e : encN ds n = ([0, 1] ++ List.replicate (n - 54) 255 ++ head20) ++ ds := by simp [encN, head20]
  have hl : ([0, 1] ++ List.replicate (n - 54) 255 ++ head20).length = n - 32 := by simp [head20, head19]; omega
  rw [e, ← hl, List.drop_left]
theorem rd_drop {k : IntKind} {w : World} {b o : Nat} {xs : List Nat} (h : Rd k w (some ⟨b, o, none⟩) xs) (n : Nat) : Rd k w (some ⟨b, o + n, none⟩) (xs.drop n) := by
  rcases h with rfl | ⟨b', o', he, hb, hc⟩
  · exact .inl (by simp)
  · injection he with he
    injection he with h1 h2
    subst h1
    subst h2
    exact .inr ⟨b, o + n, rfl, hb, fun i x hx => by rw [Nat.add_assoc]; exact hc (n + i) x (by rwa [List.getElem?_drop] at hx)⟩
set_option maxRecDepth 100000 in
set_option maxHeartbeats 3200000 in
theorem rsaShape_any (ds : List Nat) (n : Nat) (w : World) (hd : ds.length = 32) (ld : Lim 256 ds) (hn : n < 65536) :
    Calls Try.prog 13 #[.agg (ints .u8 ds).toArray, .int .u16 (n : Int)] w (Yes w) := by
  have hD : Whl .u8 49 (w.alloc (.cells (ints .u8 ds).toArray 49)) w.heap.size ds := whl_new0 _ _
  have e1 : Below w.heap.size w (w.alloc (.cells (ints .u8 ds).toArray 49)) := (Below.refl _ _).alloc (Nat.le_refl _) _
  have hl := Lib.hid hd
  clear hd
  have hE := encode_any ds (n : Int)
  by_cases h : n < 62 ∨ 512 < n
  · have HE : encOf ds (n : Int) = ([], 1) := by unfold encOf; rw [if_pos (by omega)]
    rw [HE] at hE
    clear HE
    have ht : (decide ((n : Int) < 62) || decide (512 < (n : Int))) = true := by simp; omega
    go_enter Try.func13, Try.ntmps13
    go_wp2_with (refine wpList_load_whl_if rfl 49 (.tmp 2) rfl w.heap.size rfl .u8 _ ds hD _ Try.underlying49 rfl (by rw [hl.out]; exact size_32u8) ?_)
    generalize w.alloc (.cells (ints .u8 ds).toArray 49) = w1 at *
    refine (hE w1 hl.out ld (by omega)).mono ?_
    rintro r w3 ⟨A, c, rfl, h3a, h3b, oA, e3⟩
    have D3 := hD.below e3
    have e3 := e1.trans (e3.mono e1.size)
    clear hD e1 hE
    go_wp2_with (refine wpList_load_whl_if rfl 49 (.tmp 2) rfl w.heap.size rfl .u8 _ ds D3 _ Try.underlying49 rfl (by rw [hl.out]; exact size_32u8) ?_)
    all_goals
      refine (alive06_any ds w3 hl.out ld).mono ?_
      rintro r w9 ⟨rfl, e9⟩
      have e9 := e3.trans (e9.mono e3.size)
      go_wp2_with fail
      go_ret
      exact ⟨rfl, e9⟩
  · have h1 : 62 ≤ n ∧ n ≤ 512 := by omega
    obtain ⟨h1, h2⟩ := h1
    have HE : encOf ds (n : Int) = (encN ds n, 0) := encOf_ok h1 h2
    rw [HE] at hE
    have hlen := Lib.hid (encN_length ds n hl.out (by omega))
    clear HE h
    go_enter Try.func13, Try.ntmps13
    go_wp2_with (refine wpList_load_whl_if rfl 49 (.tmp 2) rfl w.heap.size rfl .u8 _ ds hD _ Try.underlying49 rfl (by rw [hl.out]; exact size_32u8) ?_)
    generalize w.alloc (.cells (ints .u8 ds).toArray 49) = w1 at *
    refine (hE w1 hl.out ld (by omega)).mono ?_
    rintro r w3 ⟨A, c, rfl, h3a, h3b, oA, e3⟩
    rw [hlen.out] at h3a ⊢
    have D3 := hD.below e3
    have oA := oA.rd
    have e3 := e1.trans (e3.mono e1.size)
    clear hD e1 hE
    obtain ⟨b, o, rfl, hbl, hcl⟩ := oA.pos (enc_at0 ds n)
    have c0 := hcl 0 0 (enc_at0 ds n)
    have c1 := hcl 1 1 (enc_at1 ds n)
    rw [Nat.add_zero] at c0
    have HC := Lib.hid hcl
    clear hcl
    have hlc := Lib.hid h3b
    clear h3b
    go_wp2_with fail
    go_loopw [7] (fun t wr => ∃ i : Nat, t = .int .i64 i ∧ 2 ≤ i ∧ i ≤ n - 52 ∧ wr = w3) (fun t _ => n - (intOf t).toNat)
    case atStart => exact ⟨2, rfl, by omega, by omega, rfl⟩
    case round =>
      obtain ⟨i, rfl, hi2, hin, rfl⟩ := hrel
      by_cases hlt : i < n - 52
      · have ci := HC.out i 255 (enc_at hi2 hlt)
        go_wp2
        go_roundw
        case rel => exact ⟨i + 1, by go_num, by omega, by omega, trivial⟩
        case measure => simp [intOf] <;> omega
      · obtain ⟨k, hk⟩ : ∃ k, k + 52 = n := ⟨n - 52, by omega⟩
        obtain ⟨m, hm⟩ : ∃ m, m + 32 = n := ⟨n - 32, by omega⟩
        have xA : Rd .u8 wr (some ⟨b, o + k, none⟩) head20 := by
          have h := (rd_drop oA k).take 20
          rwa [show k = n - 52 by omega, enc_mid hl.out h1, show n - 52 = k by omega] at h
        have xB : Rd .u8 wr (some ⟨b, o + m, none⟩) ds := by
          have h := rd_drop oA m
          rwa [show m = n - 32 by omega, enc_end hl.out h1, show n - 32 = m by omega] at h
        have xH : Rd .u8 (wr.alloc (.cells #[.int .u8 0, .int .u8 48, .int .u8 49, .int .u8 48, .int .u8 13, .int .u8 6, .int .u8 9, .int .u8 96, .int .u8 134, .int .u8 72, .int .u8 1, .int .u8 101, .int .u8 3, .int .u8 4, .int .u8 2, .int .u8 1, .int .u8 5, .int .u8 0, .int .u8 4, .int .u8 32] 5)) (some ⟨wr.heap.size, 0, none⟩) head20 := Rd.of_all (blk_lit wr head20 _ (by rfl))
        have e4 : Below wr.heap.size wr (wr.alloc (.cells #[.int .u8 0, .int .u8 48, .int .u8 49, .int .u8 48, .int .u8 13, .int .u8 6, .int .u8 9, .int .u8 96, .int .u8 134, .int .u8 72, .int .u8 1, .int .u8 101, .int .u8 3, .int .u8 4, .int .u8 2, .int .u8 1, .int .u8 5, .int .u8 0, .int .u8 4, .int .u8 32] 5)) := (Below.refl _ _).alloc (Nat.le_refl _) _
        have D4 := D3.below e4
        have xA := xA.below e4
        have xB := xB.below e4
        have e4 := e3.trans (e4.mono e3.size)
        have xD : Rd .u8 (wr.alloc (.cells #[.int .u8 0, .int .u8 48, .int .u8 49, .int .u8 48, .int .u8 13, .int .u8 6, .int .u8 9, .int .u8 96, .int .u8 134, .int .u8 72, .int .u8 1, .int .u8 101, .int .u8 3, .int .u8 4, .int .u8 2, .int .u8 1, .int .u8 5, .int .u8 0, .int .u8 4, .int .u8 32] 5)) (some ⟨w.heap.size, 0, none⟩) ds := Rd.of_all D4.blk
        have p1 : IntKind.i64.wrap ((n : Int) - 52) = (k : Int) := by rw [IntWalk.i64_in _ (by omega)]; omega
        have p2 : IntKind.i64.wrap ((n : Int) - 32) = (m : Int) := by rw [IntWalk.i64_in _ (by omega)]; omega
        have q1 : (0 : Int) ≤ (k : Int) := by omega
        have q2 : (k : Int) ≤ (m : Int) := by omega
        have q3 : (m : Int) ≤ (c : Int) := by omega
        have q4 : (0 : Int) ≤ (m : Int) := by omega
        have q5 : (m : Int) ≤ (n : Int) := by omega
        have q6 : (n : Int) ≤ (c : Int) := by omega
        have q7 : m - k = 20 := by omega
        have q8 : n - m = 32 := by omega
        have q9 : ¬ c = k := by omega
        have q10 : ¬ c = m := by omega
        have hun := Try.underlying49
        have hsz : (Try.prog.info? 49).map (·.size) = some (ints .u8 ds).length := by rw [ints_length, hl.out]; exact size_32u8
        go_wp2_with fail
        clear c0 c1 HC
        generalize wr.alloc (.cells #[.int .u8 0, .int .u8 48, .int .u8 49, .int .u8 48, .int .u8 13, .int .u8 6, .int .u8 9, .int .u8 96, .int .u8 134, .int .u8 72, .int .u8 1, .int .u8 101, .int .u8 3, .int .u8 4, .int .u8 2, .int .u8 1, .int .u8 5, .int .u8 0, .int .u8 4, .int .u8 32] 5) = w4 at *
        have hd0 : Below w4.heap.size w4 w4.drew := below_drewN (Below.refl _ _) 1
        have hSS : ∀ W, Below w4.heap.size w4 W → (Below w4.heap.size w4 W ∧ W.rangeAt w.heap.size 0 (ints .u8 ds)) := fun W h => ⟨h, (Cut.of_blk (D4.below h).blk).range⟩
        have hS1 : Hid (∀ W c c', Below w4.heap.size w4 W → Calls Try.prog 45 #[.slice (some ⟨b, o + k, none⟩) 20 c, .slice (some ⟨wr.heap.size, 0, none⟩) 20 c'] W (Quiet (.bool true) W)) := fun W c c' h => by
          have hq := same06_any (some ⟨b, o + k, none⟩) (some ⟨wr.heap.size, 0, none⟩) 20 20 c c' head20 head20 W rfl rfl (by omega) (by omega) (xA.below h) (xH.below h)
          rwa [decide_eq_true rfl] at hq
        have hS2 : Hid (∀ W c c', Below w4.heap.size w4 W → Calls Try.prog 45 #[.slice (some ⟨b, o + m, none⟩) 32 c, .slice (some ⟨w.heap.size, 0, none⟩) 32 c'] W (Quiet (.bool true) W)) := fun W c c' h => by
          have hq := same06_any (some ⟨b, o + m, none⟩) (some ⟨w.heap.size, 0, none⟩) 32 32 c c' ds ds W hl.out.symm hl.out.symm (by omega) (by omega) (xB.below h) (xD.below h)
          rwa [decide_eq_true rfl] at hq
        have hS3 : Hid (∀ W, Calls Try.prog 41 #[.agg (ints .u8 ds).toArray] W (Yes W)) := fun W => alive06_any ds W hl.out ld
        clear xA xB xH xD
        go_region_held3 (fun W => Below w4.heap.size w4 W ∧ W.rangeAt w.heap.size 0 (ints .u8 ds))
          (first | with_reducible exact hSS _ hcurC | with_reducible exact hSS _ hd0 | with_reducible exact hSS _ (below_drewN (Below.refl _ _) _))
          (first
            | (go_at_call 45; (with_reducible refine (hS1.out _ _ _ ‹Below w4.heap.size w4 _ ∧ _›.1).mono ?_); rintro e _ ⟨rfl, qa, rfl⟩; have hcurA := below_drewN ‹Below w4.heap.size w4 _ ∧ _›.1 qa)
            | (go_at_call 45; (with_reducible refine (hS2.out _ _ _ ‹Below w4.heap.size w4 _ ∧ _›.1).mono ?_); rintro e _ ⟨rfl, qb, rfl⟩; have hcurB := below_drewN ‹Below w4.heap.size w4 _ ∧ _›.1 qb)
            | (go_at_call 41; (with_reducible refine (hS3.out _).mono ?_); rintro e wc ⟨rfl, ec⟩; have hcurC := ‹Below w4.heap.size w4 _ ∧ _›.1.trans (ec.mono ‹Below w4.heap.size w4 _ ∧ _›.1.size)))
        all_goals go_wp2_with fail
        all_goals go_ret
        all_goals exact ⟨rfl, e4.trans (hcurC.mono e4.size)⟩
end Go.Proofs.Ytfclpieijbgodaa
