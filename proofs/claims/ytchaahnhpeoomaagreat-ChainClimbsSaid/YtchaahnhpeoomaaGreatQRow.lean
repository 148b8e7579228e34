/-
  How an argument that is a slice of integers reads as a list of numbers, for the last step of each statement. No condition.
-/
import Derived.Test.YtchaahnhpeoomaaGreatQGBas
import Derived.WalkKit
import Derived.ProofKit
import Derived.OpenShut
import Derived.WalkArith
namespace Go.Proofs.YtchaahnhpeoomaaGreat
set_option linter.unusedVariables false
set_option linter.unusedSimpArgs false
set_option maxRecDepth 20000
open Go.RowKit
def IsRow (k : IntKind) (w : World) (a : Option Addr) (len cap : Nat) (zs : List Int) : Prop :=
 (a = none ∧ len = 0 ∧ cap = 0 ∧ zs = []) ∨
 ∃ x, a = some x ∧ len ≤ cap ∧ cap ≤ maxLen ∧ zs.length = cap ∧ (∀ i, i < zs.length → w.cell? (x.add i) = some (.int k (zs.getD i 0))) ∧ ∀ n ∈ zs, (Lit.int k n).wf = true
theorem rd_of_row {k : IntKind} {b : Nat} (hk : ∀ n : Int, (Lit.int k n).wf = true → 0 ≤ n ∧ n < (b : Int)) {w : World} {a : Option Addr} {len cap : Nat} {zs : List Int} (h : IsRow k w a len cap zs) :
  ∃ xs : List Nat, len = xs.length ∧ len ≤ cap ∧ cap ≤ 9223372036854775807 ∧ Rd k w a xs ∧ Lim b xs := by
 rcases h with ⟨rfl, rfl, rfl, rfl⟩ | ⟨x, rfl, hl, hm, hz, hc, hw⟩
 ·exact ⟨[], rfl, Nat.le_refl _, Nat.zero_le _, Rd.nil _ _ _, Lim.nil _⟩
 ·have hget : ∀ (i y : Nat), ((zs.take len).map Int.toNat)[i]? = some y → ∃ z, zs[i]? = some z ∧ z = (y : Int) := by
   intro i y hy
   rw [List.getElem?_map] at hy
   obtain ⟨z, hz1, rfl⟩ := Option.map_eq_some_iff.1 hy
   rw [List.getElem?_take] at hz1
   split at hz1
   ·refine ⟨z, hz1, ?_⟩
    have := (hk z (hw z (List.mem_of_getElem? hz1))).1
    omega
   ·cases hz1
  refine ⟨(zs.take len).map Int.toNat, by rw [List.length_map, List.length_take]; omega, hl, by simpa [maxLen] using hm, ?_, ?_⟩
  ·rcases Nat.eq_zero_or_pos len with h0 | h0
   ·subst h0
    exact Or.inl (by simp)
   ·have hfirst := hc 0 (by omega)
    obtain ⟨bk, off, spot⟩ := x
    have hs : spot = none := by simpa [Addr.add] using World.cell?_spot hfirst
    subst hs
    refine Or.inr ⟨bk, off, rfl, ?_, fun i y hy => ?_⟩
    ·have := World.block_lt_of_cell? w _ hfirst
     simpa [Addr.add] using this
    ·obtain ⟨z, hz1, hz2⟩ := hget i y hy
     have h1 := hc i (List.getElem?_eq_some_iff.1 hz1).1
     have h2 : (⟨bk, off, none⟩ : Addr).add i = ⟨bk, off + i, none⟩ := by
      unfold Addr.add
      split
      ·simp_all
      ·rfl
     rw [h2, List.getD_eq_getElem?_getD, hz1, Option.getD_some, hz2] at h1
     exact h1
  ·intro y hy
   obtain ⟨i, hi⟩ := List.mem_iff_getElem?.1 hy
   obtain ⟨z, hz1, hz2⟩ := hget i y hi
   have := (hk z (hw z (List.mem_of_getElem? hz1))).2
   omega
theorem wf_u8' {n : Int} (h : (Lit.int .u8 n).wf = true) : 0 ≤ n ∧ n < ((256 : Nat) : Int) := by
 have := bounds_u8 h
 omega
end Go.Proofs.YtchaahnhpeoomaaGreat
