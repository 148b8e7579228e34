/-
 The map of chain's house: keys of two places, elements whether somebody signed. Which entries there are is nobody's business: each that is there is right.
-/
import Derived.Test.YtchaahnhpeoomaaGreatPGBas
import Derived.Maps.OwnSet
import Derived.DeepKeys4
namespace Go.Proofs.YtchaahnhpeoomaaGreat
set_option linter.unusedVariables false
set_option linter.unusedSimpArgs false
set_option maxRecDepth 20000
open Go.RowKit
def keyV (c p : Int) : Value := .agg #[.int .i64 c, .int .i64 p]
def toldV (b : Bool) : Value := .agg #[.bool b]
theorem laid_out : laidOutB Tryz.prog = true := by kernel_rfl
theorem key_wide : (match Tryz.prog.underlying 142 with | some (.array _ _) | some (.struct _) => true | _ => false) = true := by kernel_rfl
theorem key_law : Maps.Keyed Tryz.prog 142 := Maps.Keyed.of_law (deep_law_laid laid_out (m := 2) (by omega) (Nat.le_of_ble_eq_true (by kernel_rfl)) (by kernel_rfl) key_wide)
theorem key_of {c p : Int} (hc : (Lit.int .i64 c).wf = true) (hp : (Lit.int .i64 p).wf = true) : ∃ l, keyOf Tryz.prog 142 (keyV c p) = some l := by
 have hf : ∀ a b : Value, Value.formed Tryz.prog 142 (.agg #[a, b]) = true := fun a b => by kernel_rfl
 have h1 : ∀ d, Tryz.prog.keyLits (d + 1) 3 [.int .i64 c] = some [.int .i64 c] := fun d => by
  unfold Program.keyLits
  rw [show Tryz.prog.underlying 3 = some (.int .i64) from by kernel_rfl]
  simp [hc]
 have h2 : ∀ d, Tryz.prog.keyLits (d + 1) 3 [.int .i64 p] = some [.int .i64 p] := fun d => by
  unfold Program.keyLits
  rw [show Tryz.prog.underlying 3 = some (.int .i64) from by kernel_rfl]
  simp [hp]
 have h3 : ∀ d, Tryz.prog.keyLits (d + 2) 142 [.int .i64 c, .int .i64 p] = some [.int .i64 c, .int .i64 p] := fun d => by
  unfold Program.keyLits
  rw [show Tryz.prog.underlying 142 = some (.array 2 3) from by kernel_rfl]
  simp [show Tryz.prog.cellsOf 142 = 2 from by kernel_rfl, show Tryz.prog.cellsOf 3 = 1 from by kernel_rfl, List.range_succ, h1, h2]
 obtain ⟨d, hd⟩ : ∃ d, Tryz.prog.types.size + 1 = d + 2 := ⟨Tryz.prog.types.size - 1, by have : 2 < Tryz.prog.types.size := Nat.le_of_ble_eq_true (by kernel_rfl); omega⟩
 unfold keyOf keyV
 rw [show Tryz.prog.underlying 142 = some (.array 2 3) from by kernel_rfl]
 refine ⟨.string (keyBytes [.int .i64 c, .int .i64 p]), ?_⟩
 simp only [hd, hf, show Tryz.prog.keyType 142 = true from by kernel_rfl, Bool.and_self, if_true, Value.cells]
 rw [h3]
 rfl
def Tbl (sg : Int → Int → Bool) (W : World) (b : Nat) : Prop := ∃ es clock, W.heap[b]? = some (.map es clock) ∧ ∀ e ∈ es.toList, ∃ c p : Int, (Lit.int .i64 c).wf = true ∧ (Lit.int .i64 p).wf = true ∧ e.key = keyV c p ∧ e.val = toldV (sg c p)
variable {sg : Int → Int → Bool} {W W' : World} {b : Nat}
theorem Tbl.keys {es : Array MapEntry} (h : ∀ e ∈ es.toList, ∃ c p : Int, (Lit.int .i64 c).wf = true ∧ (Lit.int .i64 p).wf = true ∧ e.key = keyV c p ∧ e.val = toldV (sg c p)) : ∀ e ∈ es.toList, ∃ l, keyOf Tryz.prog 142 e.key = some l := fun e he => by
 obtain ⟨c, p, hc, hp, hk, _⟩ := h e he
 rw [hk]
 exact key_of hc hp
theorem Tbl.lt (h : Tbl sg W b) : b < W.heap.size := by
 obtain ⟨es, clock, hb, _⟩ := h
 exact (Array.getElem?_eq_some_iff.1 hb).1
theorem Tbl.kept (h : Tbl sg W b) (hk : W'.heap[b]? = W.heap[b]?) : Tbl sg W' b := by
 obtain ⟨es, clock, hb, he⟩ := h
 exact ⟨es, clock, hk.trans hb, he⟩
theorem Tbl.below (h : Tbl sg W b) (hb : Below W.heap.size W W') : Tbl sg W' b := h.kept (hb.block b h.lt)
theorem Tbl.made (W : World) : Tbl sg (W.alloc (.map #[] 0)) W.heap.size := ⟨#[], 0, heap_alloc_new _ _, fun e he => by simp at he⟩
theorem key_inj {c p c' p' : Int} (h : keyV c p = keyV c' p') : c = c' ∧ p = p' := by
 unfold keyV at h
 simpa using h
theorem Tbl.look (h : Tbl sg W b) {c p : Int} (hc : (Lit.int .i64 c).wf = true) (hp : (Lit.int .i64 p).wf = true) : ∃ ok v, (ok = true → v = sg c p) ∧ ∀ U : World, U.heap[b]? = W.heap[b]? → (Instr.lookup 139 (.map (some b)) (keyV c p) true).run Tryz.prog U = .ok (.tuple #[toldV v, .bool ok]) U := by
 obtain ⟨es, clock, hb, he⟩ := h
 obtain ⟨l, hl⟩ := key_of hc hp
 have ht : Tryz.prog.underlying 139 = some (.map 142 144) := by kernel_rfl
 have hz : ∀ W, (zeroValue 144).run Tryz.prog W = .ok (toldV false) W := fun W => by kernel_rfl
 by_cases hex : ∃ e ∈ es.toList, e.key = keyV c p
 ·refine ⟨true, sg c p, fun _ => rfl, fun U hU => ?_⟩
  rw [hb] at hU
  rcases key_law.find U hl es.toList (Tbl.keys he) with ⟨h1, h2⟩ | ⟨j, e, h1, h2, h3⟩
  ·obtain ⟨e, hm, hk⟩ := hex
   exact absurd hk (h2 e hm)
  ·obtain ⟨c', p', _, _, hk, hv⟩ := he e (List.mem_of_getElem? h2)
   obtain ⟨rfl, rfl⟩ := key_inj (h3.symm.trans hk)
   simp [Instr.lookup, run_underlying ht, MapKept.run_getObj_map hU, key_law.check U _ hl, h1, hv, Result.andThen]
 ·refine ⟨false, false, fun h => by simp at h, fun U hU => ?_⟩
  rw [hb] at hU
  rcases key_law.find U hl es.toList (Tbl.keys he) with ⟨h1, h2⟩ | ⟨j, e, h1, h2, h3⟩
  ·simp [Instr.lookup, run_underlying ht, MapKept.run_getObj_map hU, key_law.check U _ hl, h1, hz, Result.andThen]
  ·exact absurd ⟨e, List.mem_of_getElem? h2, h3⟩ hex
theorem Tbl.store (h : Tbl sg W b) {c p : Int} (hc : (Lit.int .i64 c).wf = true) (hp : (Lit.int .i64 p).wf = true) : ∃ W', (Instr.mapUpdate 139 (.map (some b)) (keyV c p) (toldV (sg c p))).run Tryz.prog W = .ok () W' ∧ Tbl sg W' b ∧ W.grownBy W' (some b) := by
 obtain ⟨es, clock, hb, he⟩ := h
 obtain ⟨l, hl⟩ := key_of hc hp
 have ht : Tryz.prog.underlying 139 = some (.map 142 144) := by kernel_rfl
 have hgr : ∀ es' c', W.grownBy (ChangeMaps.setBlock W b (.map es' c')) (some b) := fun es' c' => World.mapTurned.grown ⟨es, clock, es', c', hb, rfl⟩
 rcases key_law.find W hl es.toList (Tbl.keys he) with ⟨h1, h2⟩ | ⟨j, e, h1, h2, h3⟩
 ·refine ⟨ChangeMaps.setBlock W b (.map (es.push ⟨keyV c p, toldV (sg c p), clock⟩) (clock + 1)), by simp [Instr.mapUpdate, run_underlying ht, MapKept.run_getObj_map hb, key_law.check W false hl, h1, MapKept.run_setObj_map _ hb, Result.andThen, ChangeMaps.setBlock], ⟨_, _, ChangeMaps.heap_setBlock_same hb _, fun e he' => ?_⟩, hgr _ _⟩
  simp only [Array.toList_push, List.mem_append, List.mem_singleton] at he'
  rcases he' with he' | rfl
  ·exact he e he'
  ·exact ⟨c, p, hc, hp, rfl, rfl⟩
 ·have hj : es[j]? = some e := by simpa using h2
  refine ⟨ChangeMaps.setBlock W b (.map (es.modify j (fun e' => { e' with key := keyV c p, val := toldV (sg c p) })) clock), by simp [Instr.mapUpdate, run_underlying ht, MapKept.run_getObj_map hb, key_law.check W false hl, h1, hj, h3, key_law.stays W hl, MapKept.run_setObj_map _ hb, Result.andThen, ChangeMaps.setBlock], ⟨_, _, ChangeMaps.heap_setBlock_same hb _, fun e' he' => ?_⟩, hgr _ _⟩
  obtain ⟨i, hi, rfl⟩ := List.getElem_of_mem he'
  by_cases hij : i = j
  ·subst hij
   exact ⟨c, p, hc, hp, by simp [Array.getElem_modify], by simp [Array.getElem_modify]⟩
  ·have := he (es.toList[i]'(by simpa using hi)) (List.getElem_mem _)
   simpa [Array.getElem_modify, Ne.symm hij] using this
end Go.Proofs.YtchaahnhpeoomaaGreat
