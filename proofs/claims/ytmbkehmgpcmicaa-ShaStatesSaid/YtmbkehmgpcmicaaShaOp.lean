/-
  A slice of structs as an argument: what its cells hold. Holds without any condition.
-/
import Derived.Test.YtmbkehmgpcmicaaShaSs
import Derived.Deep.Slices
import Derived.Deep.Strs
namespace Go.Proofs.Ytmbkehmgpcmicaa
set_option linter.unusedVariables false
set_option linter.unusedSimpArgs false
open Go.RowKit

/-- A slice whose elements are n cells each (n > 0). -/
def Recs {α : Type} (n : Nat) (f : α → List Value) (w : World) (a : Option Addr) (len cap : Nat) (xs : List α) : Prop :=
  len = xs.length ∧ len ≤ cap ∧ cap ≤ 9223372036854775807 ∧ (xs = [] ∨ ∃ bb o, a = some ⟨bb, o, none⟩ ∧ bb < w.heap.size ∧ ∀ (i : Nat) (x : α), xs[i]? = some x → ∀ j, j < n → w.cell? ⟨bb, o + i * n + j, none⟩ = (f x)[j]?)
theorem addr_add (bk off i : Nat) : (⟨bk, off, none⟩ : Addr).add i = ⟨bk, off + i, none⟩ := by unfold Addr.add; split <;> simp_all
theorem recs_of_trod {α : Type} [Inhabited α] {n : Nat} {f : α → List Value} {Q : α → Prop} {H : Type} {enc : TypeId × Value → H} {P : Program} {w : World} {base : Nat} {held : Bool} {t e : TypeId} {fuel : Nat} {a : Option Addr} {len cap : Nat} {x : DataW H × List MemPlace}
    (hn : 0 < n) (ht : P.underlying t = some (.slice e)) (ce : P.cellsOf e = n) (h : DataW.trod enc P w base (fun _ => true) held fuel t [.slice a len cap] = some x)
    (each : ∀ (m : Nat) (cs : List Value) (y : DataW H × List MemPlace), cs.length = n → DataW.trod enc P w base (fun _ => true) held m e cs = some y → ∃ z, cs = f z ∧ Q z) : ∃ xs, Recs n f w a len cap xs ∧ ∀ z ∈ xs, Q z := by
  rcases Go.Deep.open_slice ht h with ⟨hcs, _⟩ | ⟨a', len', cap', m, k, D, Pl, hcs, _, hl, hm, hmm, _, hr⟩
  · simp at hcs
    obtain ⟨rfl, rfl, rfl⟩ := hcs
    exact ⟨[], ⟨rfl, Nat.le_refl _, Nat.zero_le _, .inl rfl⟩, fun z hz => by cases hz⟩
  · simp at hcs
    obtain ⟨rfl, rfl, rfl⟩ := hcs
    simp only [if_true] at hmm
    have hmm' := hmm.symm
    subst hmm'
    rw [ce] at hr
    have each2 : ∀ r, r < len → ∃ y : α, (∀ j, j < n → w.cell? ((a'.add (r * n)).add j) = (f y)[j]?) ∧ (f y).length = n ∧ Q y := by
      intro r hrl
      obtain ⟨cs, h1, h2⟩ := hr r (by omega)
      obtain ⟨_, h3, h4⟩ := World.cells?_some h1
      obtain ⟨z, rfl, hz2⟩ := each _ _ _ h3 h2
      exact ⟨z, h4, h3, hz2⟩
    obtain ⟨g, hg⟩ := Go.Deep.choose_lt each2
    refine ⟨(List.range len).map g, ⟨by simp, hl, by simpa [maxLen] using hm, ?_⟩, ?_⟩
    · rcases Nat.eq_zero_or_pos len with h0 | h0
      · subst h0
        exact .inl rfl
      · obtain ⟨hf1, hf2, _⟩ := hg 0 h0
        have hfirst := hf1 0 hn
        obtain ⟨u, hu⟩ : ∃ u, (f (g 0))[0]? = some u := ⟨_, List.getElem?_eq_getElem (by omega)⟩
        rw [hu] at hfirst
        obtain ⟨bk, off, spot⟩ := a'
        have hs : spot = none := by simpa [Addr.add] using World.cell?_spot hfirst
        subst hs
        refine .inr ⟨bk, off, rfl, ?_, fun i r hr => ?_⟩
        · have := World.block_lt_of_cell? w _ hfirst
          simpa [Addr.add] using this
        · rw [List.getElem?_map, Option.map_eq_some_iff] at hr
          obtain ⟨j, hj, rfl⟩ := hr
          obtain ⟨hlt, rfl⟩ := List.getElem?_eq_some_iff.1 hj
          rw [List.getElem_range]
          intro j hj
          have h9 := (hg i (by simpa using hlt)).1 j hj
          rwa [addr_add, addr_add] at h9
    · intro r hr
      obtain ⟨i, hi, rfl⟩ := List.mem_map.1 hr
      exact (hg i (List.mem_range.1 hi)).2.2
theorem ops_of_trod {H : Type} {enc : TypeId × Value → H} {w : World} {base : Nat} {held : Bool} {fuel : Nat} {a : Option Addr} {len cap : Nat} {x : DataW H × List MemPlace}
    (h : DataW.trod enc Try.prog w base (fun _ => true) held fuel 29 [.slice a len cap] = some x) : ∃ qs, OpsOk w a len cap qs := by
  obtain ⟨qs, ⟨h1, h2, h3, h4⟩, hQ⟩ := recs_of_trod (n := 3) (f := fun q : Int × Bool × (Option Addr × Nat × List Nat) => [.int .i64 q.1, .bool q.2.1, rowVal q.2.2]) (Q := OpOk w) (by decide) Try.underlying29 (by kernel_rfl) h fun m cs y hl hy => by
    match cs, hl with
    | [u0, u1, u2], _ =>
      obtain ⟨y0, y1, y2, k, _, _, t0, t1, t2⟩ := Go.Deep.trod_struct3 Try.underlying41 hy
      obtain ⟨c0, hc0⟩ : ∃ c : Nat, Try.prog.cellsOf 3 = c ∧ c = 1 := ⟨_, rfl, by kernel_rfl⟩
      obtain ⟨c1, hc1⟩ : ∃ c : Nat, Try.prog.cellsOf 4 = c ∧ c = 1 := ⟨_, rfl, by kernel_rfl⟩
      obtain ⟨c2, hc2⟩ : ∃ c : Nat, Try.prog.cellsOf 22 = c ∧ c = 1 := ⟨_, rfl, by kernel_rfl⟩
      simp only [hc0.1, hc0.2, hc1.1, hc1.2, hc2.1, hc2.2, List.drop_zero, List.drop_succ_cons, List.take_succ_cons, List.take_zero] at t0 t1 t2
      obtain ⟨n, hn, _, hw⟩ := DataW.trod_int Try.underlying3 t0
      simp at hn
      subst hn
      obtain ⟨b, hb, _⟩ := DataW.trod_bool Try.underlying4 t1
      simp at hb
      subst hb
      obtain ⟨r, rfl, g⟩ := row_of_trod (fun _ h => wf_u8' h) Try.underlying22 Try.underlying5 (by kernel_rfl) t2
      have hb := bounds_i64 hw
      exact ⟨(n, b, r), rfl, ⟨⟨by omega, by omega⟩, g⟩⟩
  refine ⟨qs, h1, h2, h3, hQ, ?_⟩
  rcases h4 with h4 | ⟨bb, o, h5, h6, h7⟩
  · exact .inl h4
  · refine .inr ⟨bb, o, h5, h6, fun i q hq => ⟨?_, ?_, ?_⟩⟩
    · exact h7 i q hq 0 (by omega)
    · exact h7 i q hq 1 (by omega)
    · exact h7 i q hq 2 (by omega)
end Go.Proofs.Ytmbkehmgpcmicaa
