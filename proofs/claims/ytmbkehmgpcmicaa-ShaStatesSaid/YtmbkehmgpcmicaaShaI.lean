/-
  The sum of a state (Sum), in the program.
-/
import Derived.Test.YtmbkehmgpcmicaaShaH
namespace Go.Proofs.Ytmbkehmgpcmicaa
set_option linter.unusedVariables false
set_option linter.unusedSimpArgs false
open Go.RowKit

/-! ### A state as a literal -/
theorem fold_set (off : Nat) : ∀ (vs pre mid post : List Value) (n : Nat), mid.length = vs.length → pre.length = off + n →
    (vs.zipIdx n).foldl (fun (cs : Array Value) (x : Value × Nat) => cs.setIfInBounds (off + x.2) x.1) (pre ++ mid ++ post).toArray = (pre ++ vs ++ post).toArray
  | [], pre, mid, post, n, h, _ => by
    have : mid = [] := List.eq_nil_of_length_eq_zero h
    subst this
    rfl
  | v :: vs, pre, m :: mid, post, n, h, hp => by
    rw [List.zipIdx_cons, List.foldl_cons]
    have h1 : ((pre ++ m :: mid ++ post).toArray.setIfInBounds (off + n) v) = ((pre ++ [v]) ++ mid ++ post).toArray := by
      rw [List.setIfInBounds_toArray, ← hp, List.append_assoc, List.set_append_right _ _ (Nat.le_refl _), Nat.sub_self]
      simp
    rw [h1, fold_set off vs (pre ++ [v]) mid post (n + 1) (by simpa using h) (by simp; omega)]
    simp
  | v :: vs, pre, [], post, n, h, _ => by simp at h
theorem fill_step (place : Nat → Option (Nat × Nat)) (i off size : Nat) (v : Value) (vs pre mid post : List Value) (rest : List (Nat × Value)) (hp : place i = some (off, size)) (hv : v.cells = vs.toArray) (h1 : vs.length = size) (h2 : mid.length = size) (h3 : pre.length = off) :
    Instr.fill place (pre ++ mid ++ post).toArray ((i, v) :: rest) = Instr.fill place (pre ++ vs ++ post).toArray rest := by
  rw [Instr.fill, hp]
  have h4 := fold_set off vs pre mid post 0 (by omega) (by omega)
  have h5 : ¬ (pre ++ mid ++ post).toArray.size < off + vs.length := by simp; omega
  simp only [hv, List.size_toArray, h1]
  rw [if_neg (by simp; omega)]
  rw [Array.zipIdx_toArray]
  rw [List.foldl_toArray']
  · rw [h4]
  · simp
theorem built_37 (parts : List (Nat × Value)) : Try.prog.built 37 parts = Instr.fill (fun x => (#[(0, 1), (1, 64), (65, 8), (73, 1), (74, 1)] : Array (Nat × Nat))[x]?) zeroCells.toArray parts := by kernel_rfl
def stateCells (ks hv : List Nat) (s : Value) : List Value := [.bool true] ++ ints .u32 ks ++ ints .u32 hv ++ [s, .int .u64 0]
theorem built_end (ks hv : List Nat) (s : Value) (hk : ks.length = 64) (h8 : hv.length = 8) (hs : s.cells = #[s]) :
    Try.prog.built 37 [(0, .bool true), (1, .agg (ints .u32 ks).toArray), (2, .agg (ints .u32 hv).toArray), (3, s)] = some (stateCells ks hv s).toArray := by
  rw [built_37]
  have e0 : zeroCells = [] ++ [.bool false] ++ (ints .u32 (List.replicate 64 0) ++ ints .u32 (List.replicate 8 0) ++ [.slice none 0 0, .int .u64 0]) := by unfold zeroCells; simp only [List.append_assoc, List.nil_append]
  rw [e0, fill_step _ 0 0 1 (.bool true) [.bool true] [] _ _ _ rfl rfl rfl rfl rfl]
  rw [show ([] ++ [Value.bool true] ++ (ints .u32 (List.replicate 64 0) ++ ints .u32 (List.replicate 8 0) ++ [.slice none 0 0, .int .u64 0])) = [Value.bool true] ++ ints .u32 (List.replicate 64 0) ++ (ints .u32 (List.replicate 8 0) ++ [.slice none 0 0, .int .u64 0]) by simp only [List.append_assoc, List.nil_append]]
  rw [fill_step _ 1 1 64 (.agg (ints .u32 ks).toArray) (ints .u32 ks) _ _ _ _ rfl rfl (by rw [ints_length, hk]) (by rw [ints_length, List.length_replicate]) rfl]
  rw [show ([Value.bool true] ++ ints .u32 ks ++ (ints .u32 (List.replicate 8 0) ++ [.slice none 0 0, .int .u64 0])) = ([Value.bool true] ++ ints .u32 ks) ++ ints .u32 (List.replicate 8 0) ++ [.slice none 0 0, .int .u64 0] by simp only [List.append_assoc]]
  rw [fill_step _ 2 65 8 (.agg (ints .u32 hv).toArray) (ints .u32 hv) _ _ _ _ rfl rfl (by rw [ints_length, h8]) (by rw [ints_length, List.length_replicate]) (by rw [List.length_append, ints_length, hk]; rfl)]
  rw [show ([Value.bool true] ++ ints .u32 ks ++ ints .u32 hv ++ [.slice none 0 0, .int .u64 0]) = ([Value.bool true] ++ ints .u32 ks ++ ints .u32 hv) ++ [.slice none 0 0] ++ [.int .u64 0] by simp only [List.append_assoc]; rfl]
  rw [fill_step _ 3 73 1 s [s] _ _ _ _ rfl (by rw [hs]) rfl rfl (by rw [List.length_append, List.length_append, ints_length, ints_length, hk, h8]; rfl)]
  rw [Instr.fill, stateCells]
  simp only [List.append_assoc]
  rfl
end Go.Proofs.Ytmbkehmgpcmicaa
