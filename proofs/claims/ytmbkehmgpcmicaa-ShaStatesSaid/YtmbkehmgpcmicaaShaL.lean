/-
  The anchor of the statements on sums (works), and the walk of ShaNil.
-/
import Derived.Test.YtmbkehmgpcmicaaShaK
import Derived.Lib.SlBytesConst
namespace Go.Proofs.Ytmbkehmgpcmicaa
set_option linter.unusedVariables false
set_option linter.unusedSimpArgs false
open Go.RowKit

theorem rd_mark {k : IntKind} {t : TypeId} {fr : Nat × Nat} (w : World) (xs : List Nat) (cur : Array Value) (h : cur = (ints k xs).toArray) : Rd k (w.alloc (.cells cur t fr)) (some ⟨w.heap.size, 0, none⟩) xs := by
  subst h
  refine Or.inr ⟨w.heap.size, 0, rfl, by simp, fun i x hx => ?_⟩
  rw [cell_of_row _ _ _ _ _ _ (heap_alloc_new w _), Nat.zero_add]
  simpa using ints_get hx
set_option maxRecDepth 100000 in
set_option maxHeartbeats 1600000 in
theorem shaWorks_any (w : World) : Calls Try.prog 12 #[] w (Yes w) := by
  obtain ⟨D, hD⟩ : ∃ D, D = digest [97, 98, 99] := ⟨_, rfl⟩
  have hDl := Lib.hid (show D.length = 32 by rw [hD]; exact digest_length _)
  have d0 : D[0]? = some 186 := by rw [hD, digest_abc]; rfl
  have d1 : D[1]? = some 120 := by rw [hD, digest_abc]; rfl
  have d31 : D[31]? = some 173 := by rw [hD, digest_abc]; rfl
  have HD := Lib.hid hD
  clear hD
  have kc := fun (w : World) (C : Array Value) (n c : Nat) => Lib.run_convert_bytes_const (P := Try.prog) w 22 5 C n c Try.underlying22 Try.underlying5
  have kc2 := fun (w : World) (o : Obj) (C : Array Value) (n c : Nat) => (show (convert 22 22 (.slice (some ⟨w.heap.size + 1, 0, none⟩) n c)).run Try.prog ((w.alloc o).alloc (.cells C 5)) = .ok (.slice (some ⟨w.heap.size + 1, 0, none⟩) n c) ((w.alloc o).alloc (.cells C 5 (C.size, C.size + 1))) from by have := kc (w.alloc o) C n c; rwa [World.size_alloc] at this)
  go_enter Try.func12, Try.ntmps12
  go_wp2_with fail
  refine (shaSum_any _ _ _ [97, 98, 99] _ rfl (by decide) (rd_mark w [97, 98, 99] _ rfl) (lim_small (by decide))).mono ?_
  rw [← HD.out]
  rintro e w1 ⟨rfl, hb1⟩
  have hbel : Below w.heap.size w w1 := ((Below.refl _ _).alloc (Nat.le_refl _) _).trans (hb1.mono (by simp))
  clear hb1
  go_wp2_with (refine wpList_store_whl rfl 25 (.tmp 1) (.tmp 4) rfl w1.heap.size .u8 25 (List.replicate 32 0) D rfl rfl (whl_new _ _ _ rfl) hDl.out size_32u8 ?_; intro w2 hw2 hg2 hs2; have q0 := hw2.blk.cell d0; have q1 := hw2.blk.cell d1; have q31 := hw2.blk.cell d31; clear hs2)
  have hbel2 := below_only (hbel.alloc hbel.size _) hg2 (by simp; exact Nat.le_succ_of_le hbel.size) hbel.size
  have hr1 := fun (o : Obj) => (rd_mark (k := .u8) (t := 5) (fr := (1, 2)) w2 [97] _ rfl).alloc o
  have hr2 : ∀ (o : Obj), Rd .u8 ((w2.alloc o).alloc (.cells #[.int .u8 97] 5 (1, 2))) (some ⟨w2.heap.size + 1, 0, none⟩) [97] := fun o => by
    have := rd_mark (k := .u8) (t := 5) (fr := (1, 2)) (w2.alloc o) [97] _ rfl
    rwa [World.size_alloc] at this
  refine (shaSame_any _ _ _ _ _ _ [97] [97] _ rfl rfl (by decide) (by decide) (hr1 _) (hr2 _) (lim_small (by decide)) (lim_small (by decide))).mono ?_
  rintro e w' ⟨rfl, q, rfl⟩
  have hbel3 := below_drewN ((hbel2.alloc hbel2.size (.cells #[.int .u8 97] 5 (1, 2))).alloc (by simp; exact Nat.le_succ_of_le hbel2.size) (.cells #[.int .u8 97] 5 (1, 2))) q
  clear hr1 hr2 q0 q1 q31 hw2 hg2 hbel2
  rw [show decide (([97] : List Nat) = [97]) = true from rfl]
  change Below _ _ (((w2.alloc (.cells (ints .u8 [97]).toArray 5 (1, 2))).alloc (.cells #[.int .u8 97] 5 (1, 2))).drewN q) at hbel3
  generalize ((w2.alloc (.cells (ints .u8 [97]).toArray 5 (1, 2))).alloc (.cells #[.int .u8 97] 5 (1, 2))).drewN q = w3 at *
  go_wp2_with fail
  refine (shaSame_any _ none _ 0 _ _ [97] [] _ rfl rfl (by decide) (by decide) (rd_mark w3 [97] _ rfl) (Rd.nil _ _ _) (lim_small (by decide)) (Lim.nil _)).mono ?_
  rintro e w' ⟨rfl, q2, rfl⟩
  rw [show decide (([97] : List Nat) = []) = false from rfl]
  go_wp2_with fail
  go_ret
  exact ⟨rfl, below_drewN (hbel3.alloc hbel3.size _) q2⟩
end Go.Proofs.Ytmbkehmgpcmicaa
