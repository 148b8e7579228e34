/-
 The document's digest of a content (lintelref15.Of). Holds for all bytes.
-/
import Derived.Test.YtchaahnhpeoomaaGreatPPrsB
namespace Go.Proofs.YtchaahnhpeoomaaGreat
set_option linter.unusedVariables false
set_option linter.unusedSimpArgs false
set_option maxRecDepth 20000
open Go.RowKit
set_option maxRecDepth 100000 in
set_option maxHeartbeats 1600000 in
theorem rOf_any (s : Sgd) (w : World) (hc : s.content.ok w) (hl : s.content.xs.length ≤ 1000000) : Calls Tryz.prog 33 #[s.val] w (OfPost s.content.xs w) := by
 obtain ⟨w1, hw1⟩ : ∃ w1, w1 = w.alloc (.cells s.cells.toArray 48) := ⟨_, rfl⟩
 have e1 : Below w.heap.size w w1 := by rw [hw1]; exact (Below.refl _ _).alloc (Nat.le_refl _) _
 have z1 : w1.heap.size = w.heap.size + 1 := by rw [hw1]; simp
 have R1 : Row w1 w.heap.size 0 s.cells := by rw [hw1]; exact row_new _
 unfold Sgd.val
 go_enter Tryz.func33, Tryz.ntmps33
 go_wp2_with (refine wpList_alloc_arr rfl 49 rfl .u8 32 zero_32u8 ?_; rw [← hw1]; intro g w2 hg (hw2 : Whl .u8 49 w2 g z32) hs2 e2; have k1 : w2.cell? ⟨w.heap.size, 1, none⟩ = some s.content.val := (R1.below e2).cell (i := 1) rfl)
 have hc2 := (hc.below e1).below e2
 have e2 := e1.trans (e2.mono e1.size)
 have hgw : w.heap.size ≤ g := by rw [hg.out, z1]; omega
 clear R1 k1 e1 hc
 unfold Sl.val
 have hq := parse10_any s.content.A s.content.xs.length s.content.c s.content.xs w2 rfl hl hc2.cap hc2.max hc2.rd hc2.lim
 refine hq.mono ?_
 clear hq
 rintro r w3 ⟨e3, hp⟩
 have hw3 := hw2.below e3
 have e3 := e2.trans (e3.mono e2.size)
 have hbl : ∀ b, bodyB s.content.xs = some b → Lim 256 b := fun b h => bodyB_lim hc2.lim h
 clear hw2 e2 hc2
 cases hh : elemB s.content.xs with
 | none =>
  rw [hh] at hp
  obtain rfl := hp
  have hb : bodyB s.content.xs = none := by unfold bodyB; rw [hh]
  have HB := Lib.hid hb
  have hw4 := hw3.blk
  clear hh hb hbl
  go_wp2_with (first
   | (refine wpList_build_at rfl 49 #[] rfl (ints .u8 z32) (by exact built_z32) ?_)
   | (refine wpList_store_whl rfl 49 (.tmp 2) (.tmp 21) rfl g .u8 _ z32 z32 rfl rfl (hw3.below ((Below.refl _ _).alloc (Nat.le_refl _) _)) rfl (by exact size_32u8) ?_; intro w5 hw5 hg5 hs5))
  refine bodyPost_ret (results_row_tmp rfl _ _ g 0 (ints .u8 z32) _ rfl (Cut.of_blk hw5.blk).range Tryz.underlying49 rfl size_32u8) rfl ?_
  have e4 := e3.alloc e3.size (.cells #[.int .u8 0, .slice none 0 0, .slice none 0 0] 118)
  refine ⟨below_only e4 hg5 e4.size hgw, ?_⟩
  rw [HB.out]
  rfl
 | some p =>
  obtain ⟨f, m⟩ := p
  obtain ⟨-, hfm⟩ := elemB_some.1 hh
  have hb : bodyB s.content.xs = if s.content.xs.length = f + m then some ((s.content.xs.drop f).take m) else none := by unfold bodyB; rw [hh]
  rw [hh] at hp
  obtain ⟨t, A1, c1, A2, c2, A3, c3, rfl, ht, r1⟩ := hp
  have e4 := e3.alloc e3.size (.cells #[.int .u8 (t : Int), .slice A1 m c1, .slice A2 (f + m) c2] 118)
  have hw4 := hw3.below ((Below.refl _ _).alloc (Nat.le_refl _) (.cells #[.int .u8 (t : Int), .slice A1 m c1, .slice A2 (f + m) c2] 118))
  have r1 := r1.alloc (.cells #[.int .u8 (t : Int), .slice A1 m c1, .slice A2 (f + m) c2] 118)
  clear hh hw3 e3
  by_cases hlen : s.content.xs.length = f + m
  ·rw [if_pos hlen] at hb
   have HB := Lib.hid hb
   have z0 : s.content.xs.length - (f + m) = 0 := by omega
   have hm1 : m ≤ 1000000 := by omega
   have hbody := hbl _ hb
   have hbl1 : ((s.content.xs.drop f).take m).length = m := by simp; omega
   have HL := Lib.hid hbl1
   clear hb hlen hbl hbl1
   go_wp2_with fail
   have hq := refSum_any A1 m c1 ((s.content.xs.drop f).take m) _ HL.out.symm (by omega) r1 hbody
   refine hq.mono ?_
   clear hq
   rintro r w5 ⟨rfl, e5⟩
   have hw5 := hw4.below e5
   have e5 := e4.trans (e5.mono e4.size)
   have hd := Lib.hid (digest_length ((s.content.xs.drop f).take m))
   generalize hdg : digest ((s.content.xs.drop f).take m) = dg at *
   have HD := Lib.hid hdg
   clear hdg
   clear e4 hw4 r1
   go_wp2_with (refine wpList_store_whl rfl 49 (.tmp 2) (.tmp 24) rfl g .u8 _ z32 dg rfl rfl hw5 (by rw [hd.out]; rfl) (by exact size_32u8) ?_; intro w6 hw6 hg6 hs6)
   refine bodyPost_ret (results_row_tmp rfl _ _ g 0 (ints .u8 dg) _ rfl (Cut.of_blk hw6.blk).range Tryz.underlying49 rfl (by rw [ints_length, hd.out]; exact size_32u8)) rfl ?_
   refine ⟨below_only e5 hg6 e5.size hgw, ?_⟩
   rw [HB.out]
   dsimp only
   rw [HD.out]
   rfl
  ·rw [if_neg hlen] at hb
   have HB := Lib.hid hb
   have z0 : f + m < s.content.xs.length := by omega
   clear hb hlen hbl
   go_wp2_with (first
    | (refine wpList_build_at rfl 49 #[] rfl (ints .u8 z32) (by exact built_z32) ?_)
    | (refine wpList_store_whl rfl 49 (.tmp 2) (.tmp 21) rfl g .u8 _ z32 z32 rfl rfl hw4 rfl (by exact size_32u8) ?_; intro w5 hw5 hg5 hs5))
   refine bodyPost_ret (results_row_tmp rfl _ _ g 0 (ints .u8 z32) _ rfl (Cut.of_blk hw5.blk).range Tryz.underlying49 rfl size_32u8) rfl ?_
   refine ⟨below_only e4 hg5 e4.size hgw, ?_⟩
   rw [HB.out]
   rfl
end Go.Proofs.YtchaahnhpeoomaaGreat
