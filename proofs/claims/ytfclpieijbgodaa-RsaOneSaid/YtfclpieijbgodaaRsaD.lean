/-
  The encoded message of a digest, by the document. Holds for every digest and every length.
-/
import Derived.Test.YtfclpieijbgodaaRsaC
namespace Go.Proofs.Ytfclpieijbgodaa
set_option linter.unusedVariables false
set_option linter.unusedSimpArgs false
open Go.RowKit

theorem own_lit {k : IntKind} {t : TypeId} (w : World) (xs : List Nat) (cur : Array Value) (h : cur = (ints k xs).toArray) {B : Nat} (hB : B ≤ w.heap.size) (hm : xs.length ≤ maxLen) :
    (w.alloc (.cells cur t)).ownsRow B t 1 (.slice (some ⟨w.heap.size, 0, none⟩) xs.length xs.length) xs.length (ints k xs) := by
  subst h
  exact ⟨by simp [ints], .inr ⟨w.heap.size, xs.length, _, rfl, hB, heap_alloc_new w _, Nat.le_refl _, hm, by simp [ints], by rw [List.take_of_length_le (by simp [ints])]⟩⟩
theorem own_keep {w w' : World} {B : Nat} {e : TypeId} {s : Nat} {v : Value} {n : Nat} {xs : List Value} (h : w.ownsRow B e s v n xs) (hk : ∀ j, v.ownBlock = some j → w'.heap[j]? = w.heap[j]?) : w'.ownsRow B e s v n xs := by
  refine ⟨h.1, ?_⟩
  rcases h.2 with hn | ⟨g, cap, cur, rfl, hb, hgg, rest⟩
  · exact .inl hn
  · exact .inr ⟨g, cap, cur, rfl, hb, (hk g rfl).trans hgg, rest⟩
theorem own_below {w w' : World} {B : Nat} {e : TypeId} {s : Nat} {v : Value} {n : Nat} {xs : List Value} (h : w.ownsRow B e s v n xs) (hb : Below w.heap.size w w') : w'.ownsRow B e s v n xs :=
  own_keep h fun k hk => hb.block k (h.lt k hk).2
theorem refAhead_any (w : World) : Calls Try.prog 85 #[] w (fun e w' => ∃ A c, e = .returned (.slice A 19 c) ∧ Own .u8 w' w.heap.size A head19 ∧ Below w.heap.size w w') := by
  go_enter Try.func85, Try.ntmps85
  go_wp2
  go_ret
  exact ⟨_, 19, rfl, Own.of_blk (blk_lit w head19 _ rfl) (Nat.le_refl _), (Below.refl _ _).alloc (Nat.le_refl _) _⟩
theorem enc_rows (ds : List Nat) (j : Nat) : [0, 1] ++ List.replicate j 255 ++ [0] ++ head19 ++ ds = encN ds (j + 54) := by simp [encN]
theorem enc_step (j : Nat) : [0, 1] ++ List.replicate j 255 ++ [255] = [0, 1] ++ List.replicate (j + 1) 255 := by rw [List.append_assoc, ← List.replicate_succ']
set_option maxRecDepth 100000 in
set_option maxHeartbeats 1600000 in
theorem refEncode_any (ds : List Nat) (n : Int) (w : World) (hd : ds.length = 32) (ld : Lim 256 ds) (hi : -9223372036854775808 ≤ n ∧ n ≤ 9223372036854775807) :
    Calls Try.prog 43 #[.agg (ints .u8 ds).toArray, .int .i64 n] w (Gives2 .u8 (encOf ds n).1 (encOf ds n).2 w) := by
  by_cases h : n < 62 ∨ 512 < n
  · have HE := Lib.hid (show encOf ds n = ([], 1) by unfold encOf; rw [if_pos h])
    have hb : (decide (n < 62) || decide (512 < n)) = true := by simpa using h
    go_enter Try.func43, Try.ntmps43
    go_wp2
    all_goals go_ret2
    all_goals rw [HE.out]
    all_goals exact ⟨none, 0, rfl, Nat.le_refl _, Nat.zero_le _, Own.nil _ _ _ _, (Below.refl _ _).alloc (Nat.le_refl _) _⟩
  · obtain ⟨m, rfl⟩ : ∃ m : Nat, n = (m : Int) := ⟨n.toNat, by omega⟩
    have HE := Lib.hid (show encOf ds (m : Int) = (encN ds m, 0) by unfold encOf; rw [if_neg h]; rfl)
    have h1 : 62 ≤ m ∧ m ≤ 512 := by omega
    obtain ⟨h1, h2⟩ := h1
    clear h
    go_enter Try.func43, Try.ntmps43
    go_wp2_with fail
    have b1 : Blk .u8 (w.alloc (Obj.cells (ints .u8 ds).toArray 49)) w.heap.size ds := blk_lit w ds _ rfl
    generalize hw1 : w.alloc (Obj.cells (ints .u8 ds).toArray 49) = w1 at *
    have s1 : w1.heap.size = w.heap.size + 1 := by rw [← hw1]; simp
    have e1 : Below w.heap.size w w1 := by rw [← hw1]; exact (Below.refl _ _).alloc (Nat.le_refl _) _
    clear hw1
    have O2 : (w1.alloc (.cells #[.int .u8 0, .int .u8 1] 5)).ownsRow w1.heap.size 5 1 (.slice (some ⟨w1.heap.size, 0, none⟩) 2 2) 2 (ints .u8 ([0, 1] ++ List.replicate 0 255)) := own_lit w1 [0, 1] _ rfl (Nat.le_refl _) (by decide)
    have e2 : Below w1.heap.size w1 (w1.alloc (.cells #[.int .u8 0, .int .u8 1] 5)) := (Below.refl _ _).alloc (Nat.le_refl _) _
    rw [s1] at O2 e2
    generalize w1.alloc (.cells #[.int .u8 0, .int .u8 1] 5) = w2 at *
    go_loopw [6] (fun so wr => ∃ (j : Nat) (A2 : Option Addr) (c2 : Nat), so = .slice A2 (j + 2) c2 ∧ j + 54 ≤ m ∧ wr.ownsRow (w.heap.size + 1) 5 1 (.slice A2 (j + 2) c2) (j + 2) (ints .u8 ([0, 1] ++ List.replicate j 255)) ∧ Below (w.heap.size + 1) w1 wr) (fun so _ => m - (match so with | .slice _ n _ => n | _ => 0))
    case atStart => exact ⟨0, some ⟨w.heap.size + 1, 0, none⟩, 2, rfl, by omega, O2, e2⟩
    case round =>
      clear O2 e2
      obtain ⟨j, A2, c2, rfl, hj, hown, hbel⟩ := hrel
      rw [← s1] at hown hbel
      by_cases hlt : j + 54 < m
      · have hs := hbel.size
        go_wp2_with (at_builtin; refine wpList_append_ints _ rfl (.tmp 19) (.tmp 20) _ rfl w1.heap.size 5 .u8 1 Try.underlying50 info_u8 (.slice A2 (j + 2) c2) (j + 2) _ rfl (hown.alloc _) _ 1 1 [255] rfl rfl (Rd.of_all (blk_lit wr [255] _ rfl)) (by simp only [maxLen]; omega) (by omega) (by simp; omega) ?_; intro v5 w5 hown5 hgrow5 _)
        obtain ⟨A5, c5, rfl, -⟩ := Own.of_row hown5
        have hbr5 : Below w1.heap.size w1 w5 := (hbel.alloc hs _).grown hgrow5 (by simp; omega) (fun k hk => (hown.lt k hk).1)
        rw [enc_step] at hown5
        clear hown hbel
        rw [s1] at hown5 hbr5
        go_roundw
        case rel => exact ⟨j + 1, A5, c5, rfl, by omega, hown5, hbr5⟩
        case measure => simp; omega
      · obtain rfl : m = j + 54 := by omega
        have hs := hbel.size
        have b1 := b1
        go_wp2_with (at_builtin; refine wpList_append_ints _ rfl (.tmp 22) (.tmp 23) _ rfl w1.heap.size 5 .u8 1 Try.underlying50 info_u8 (.slice A2 (j + 2) c2) (j + 2) _ rfl (hown.alloc _) _ 1 1 [0] rfl rfl (Rd.of_all (blk_lit wr [0] _ rfl)) (by simp only [maxLen]; omega) (by omega) (by simp; omega) ?_; intro v5 w5 hown5 hgrow5 _)
        obtain ⟨A5, c5, rfl, -⟩ := Own.of_row hown5
        have hbr5 : Below w1.heap.size w1 w5 := (hbel.alloc hs _).grown hgrow5 (by simp; omega) (fun k hk => (hown.lt k hk).1)
        clear hown hbel hgrow5 hs
        have hs := hbr5.size
        go_wp2_with fail
        refine (refAhead_any w5).mono ?_
        rintro e w6 ⟨A6, c6, rfl, o6, e6⟩
        dsimp only
        have hown6 := own_below hown5 e6
        have hbr6 := hbr5.trans (e6.mono hs)
        have hs6 := hbr6.size
        clear hown5 hbr5
        go_wp2_with (at_builtin; first
          | (refine wpList_append_ints _ rfl (.tmp 25) (.tmp 26) _ rfl w1.heap.size 5 .u8 1 Try.underlying50 info_u8 (.slice A5 (j + 2 + 1) c5) (j + 2 + 1) _ rfl hown6 A6 19 c6 head19 rfl rfl o6.rd (by simp only [maxLen]; omega) (by omega) hs6 ?_
             intro v7 w7 hown7 hgrow7 _
             obtain ⟨A7, c7, rfl, -⟩ := Own.of_row hown7
             have hbr7 : Below w1.heap.size w1 w7 := hbr6.grown hgrow7 hs6 (fun k hk => (hown6.lt k hk).1)
             clear hown6 hbr6 hgrow7 o6 e6
             have hs7 := hbr7.size
             have b7 := b1.below hbr7)
          | (refine wpList_append_ints _ rfl (.tmp 28) (.tmp 29) _ rfl w1.heap.size 5 .u8 1 Try.underlying50 info_u8 (.slice A7 (j + 2 + 1 + 19) c7) (j + 2 + 1 + 19) _ rfl hown7 (some ⟨w.heap.size, 0, none⟩) 32 32 ds rfl hd.symm (Rd.of_all b7) (by simp only [maxLen]; omega) (by omega) hs7 ?_
             intro v8 w8 hown8 hgrow8 _))
        obtain ⟨A8, c8, rfl, h8n, h8a, h8b, o8⟩ := Own.of_row hown8
        have hbr8 : Below w1.heap.size w1 w8 := hbr7.grown hgrow8 hs7 (fun k hk => (hown7.lt k hk).1)
        rw [enc_rows] at o8 h8n
        clear hown8 hown7 hgrow8 hbr7
        go_ret2
        rw [HE.out]
        have hlen := encN_length ds (j + 54) hd (by omega)
        refine ⟨A8, c8, ?_, ?_, h8b, o8.mono (by omega), e1.trans (hbr8.mono (by omega))⟩
        · rw [show (encN ds (j + 54), (0 : Int)).1.length = j + 54 from hlen]
          rfl
        · rw [show (encN ds (j + 54), (0 : Int)).1.length = j + 54 from hlen]
          exact h8a
end Go.Proofs.Ytfclpieijbgodaa
