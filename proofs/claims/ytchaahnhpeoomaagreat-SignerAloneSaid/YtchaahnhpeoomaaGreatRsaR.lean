/-
  Arguments that came in, opened: an array of integers by value, a key, an integer.
-/
import Derived.Test.YtchaahnhpeoomaaGreatRow
import Derived.Test.YtchaahnhpeoomaaGreatGRsa
import Derived.Lib.SmallJoins
import Derived.OpenShut
namespace Go.Proofs.YtchaahnhpeoomaaGreat
set_option linter.unusedVariables false
set_option linter.unusedSimpArgs false
set_option maxRecDepth 20000
open Go.RowKit Go.WideShapes

theorem ints_of_all {k : IntKind} {b : Nat} : ∀ vs : List Value, (∀ v ∈ vs, ∃ x : Nat, v = .int k (x : Int) ∧ x < b) → ∃ xs : List Nat, vs = ints k xs ∧ Lim b xs
  | [], _ => ⟨[], rfl, fun x hx => by cases hx⟩
  | v :: vs, h => by
    obtain ⟨x, rfl, hx⟩ := h v (by simp)
    obtain ⟨xs, rfl, hl⟩ := ints_of_all vs fun u hu => h u (by simp [hu])
    exact ⟨x :: xs, by simp [ints], fun y hy => by
      rcases List.mem_cons.1 hy with rfl | hy
      · exact hx
      · exact hl y hy⟩
section
variable {H : Type} {enc : TypeId × Value → H} {P : Program} {w : World} {base : Nat} {spare : Nat → Bool} {held : Bool} {r : Reach} {b0 : Nat}
theorem okWide_arr {n : Nat} {e t : TypeId} {v : Value} (ht : P.underlying t = some (.array n e)) (h : Value.okWide P w r b0 t v) : ∃ cs, v = .agg cs ∧ cs.size = P.cellsOf t := by
  simp only [Value.okWide, ht] at h
  obtain ⟨cs, h1, h2, _⟩ := h
  exact ⟨cs, h1, h2⟩
theorem arr_of_trod {n : Nat} {e t : TypeId} {k : IntKind} {b : Nat} {v : Value} {d : DataW H} {p : List MemPlace} (hk : ∀ n : Int, (Lit.int k n).wf = true → 0 ≤ n ∧ n < (b : Int)) (ht : P.underlying t = some (.array n e)) (he : P.underlying e = some (.int k)) (hc : P.cellsOf e = 1) (hC : P.cellsOf t = n)
    (hv : Value.okWide P w r b0 t v) (h : DataW.Trod enc P w base spare held t v d p) : ∃ xs : List Nat, v = .agg (ints k xs).toArray ∧ xs.length = n ∧ Lim b xs := by
  obtain ⟨cs, rfl, hsz⟩ := okWide_arr ht hv
  obtain ⟨fuel, hf⟩ := h
  obtain ⟨xs, m, _, _, _, hxl, hall⟩ := DataW.trod_array ht hf
  have hcs : (Value.agg cs).cells = cs := by simp [Value.cells]
  rw [hcs, hc] at hall
  obtain ⟨ys, hy, hl⟩ := ints_of_all (k := k) (b := b) cs.toList fun v hv => by
    obtain ⟨i, hi⟩ := List.mem_iff_getElem?.1 hv
    have hlt := (List.getElem?_eq_some_iff.1 hi).1
    have hin : i < n := by simpa [hsz, hC] using hlt
    have h1 := hall i hin
    rw [Nat.mul_one, List.drop_eq_getElem_cons hlt, (List.getElem?_eq_some_iff.1 hi).2, List.take_succ_cons, List.take_zero, List.getElem?_eq_getElem (show i < xs.length by omega)] at h1
    obtain ⟨z, hz, _, hw⟩ := DataW.trod_int he h1
    simp at hz
    subst hz
    obtain ⟨h2, h3⟩ := hk z hw
    exact ⟨z.toNat, by rw [Int.toNat_of_nonneg h2], by omega⟩
  refine ⟨ys, ?_, ?_, hl⟩
  · rw [← hy]
  · have := congrArg List.length hy
    simp [ints, hsz, hC] at this
    omega
theorem int_of_trod {t : TypeId} {k : IntKind} {v : Value} {d : DataW H} {p : List MemPlace} (ht : P.underlying t = some (.int k)) (hv : Value.okWide P w r b0 t v) (h : DataW.Trod enc P w base spare held t v d p) : ∃ n : Int, v = .int k n ∧ (Lit.int k n).wf = true := by
  obtain ⟨n, rfl⟩ := okWide_int ht hv
  obtain ⟨fuel, hf⟩ := h
  obtain ⟨z, hz, _, hw⟩ := DataW.trod_int ht hf
  simp [Value.cells] at hz
  subst hz
  exact ⟨n, rfl, hw⟩
end
theorem nat_of_u64 {n : Int} (h : (Lit.int .u64 n).wf = true) : ∃ x : Nat, n = (x : Int) ∧ x < 18446744073709551616 := by
  have h := bounds_u64 h
  exact ⟨n.toNat, by omega, by omega⟩
/-- A key that came in. -/
structure KeyIn (w : World) (A : Option Addr) (c e : Nat) (ns : List Nat) : Prop where
  cap : ns.length ≤ c
  max : c ≤ 9223372036854775807
  rd : Rd .u8 w A ns
  lim : Lim 256 ns
  exp : e < 18446744073709551616
theorem key_of_trod {H : Type} {enc : TypeId × Value → H} {w : World} {base : Nat} {held : Bool} {r : Reach} {b0 : Nat} {v : Value} {d : DataW H} {p : List MemPlace}
    (hv : Value.okWide Tryz.prog w r b0 28 v) (h : DataW.Trod enc Tryz.prog w base (fun _ => true) held 28 v d p) : ∃ (A : Option Addr) (c e : Nat) (ns : List Nat), v = keyVal A ns.length c e ∧ KeyIn w A c e ns := by
  obtain ⟨v0, v1, y0, y1, n, rfl, _, _, t0, t1⟩ := Go.Joins.open_agg2 Tryz.underlying28 (by kernel_rfl) (by kernel_rfl) hv h
  obtain ⟨z, hz, _, hw⟩ := DataW.trod_int Tryz.underlying26 t1
  simp at hz
  subst hz
  obtain ⟨e, rfl, he⟩ := nat_of_u64 hw
  rcases Go.ChangeShapes.open_ints Tryz.underlying22 Tryz.underlying5 (by kernel_rfl) t0 with ⟨hcs, _⟩ | ⟨a, l, c, zs, hcs, _, hl, hm, hz, _, hcell, hwz⟩
  · simp at hcs
    exact ⟨none, 0, e, [], by rw [hcs]; rfl, Nat.le_refl _, Nat.zero_le _, Rd.nil _ _ _, Lim.nil _, he⟩
  · simp at hcs
    obtain ⟨xs, g1, g2, g3, g4, g5⟩ := rd_of_row (fun _ h => wf_u8' h) (.inr ⟨a, rfl, hl, hm, by simpa using hz, hcell, hwz⟩ : IsRow .u8 w (some a) l c zs)
    exact ⟨some a, c, e, xs, by rw [hcs, g1]; rfl, by omega, g3, g4, g5, he⟩
end Go.Proofs.YtchaahnhpeoomaaGreat
