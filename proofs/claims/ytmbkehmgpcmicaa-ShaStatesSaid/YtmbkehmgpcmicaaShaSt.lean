/-
  Several states side by side: what is written to one leaves the others. And a slice of slices of bytes that came in.
-/
import Derived.Test.YtmbkehmgpcmicaaShaN
import Derived.Test.YtmbkehmgpcmicaaRow
import Derived.Deep.Matrix
namespace Go.Proofs.Ytmbkehmgpcmicaa
set_option linter.unusedVariables false
set_option linter.unusedSimpArgs false
open Go.RowKit

/-! ### States -/
/-- These states lie in memory from block B on, and none of them touches another one's memory. -/
def Sts (w : World) (B : Nat) (l : List (Nat × Value × List Nat)) : Prop :=
  (∀ (i : Nat) (s : Nat × Value × List Nat), l[i]? = some s → St w s.1 s.2.1 s.2.2 ∧ B ≤ s.1 ∧ ∀ j, s.2.1.ownBlock = some j → B ≤ j) ∧
  ∀ (i j : Nat) (s t : Nat × Value × List Nat), l[i]? = some s → l[j]? = some t → i ≠ j → s.1 ≠ t.1 ∧ s.2.1.ownBlock ≠ some t.1 ∧ ∀ k, s.2.1.ownBlock = some k → t.2.1.ownBlock ≠ some k
section
variable {w w' : World} {B : Nat} {l : List (Nat × Value × List Nat)}
theorem Sts.nil (w : World) (B : Nat) : Sts w B [] := ⟨fun i s h => by simp at h, fun i j s t h => by simp at h⟩
theorem Sts.below (h : Sts w B l) (hb : Below w.heap.size w w') : Sts w' B l := ⟨fun i s hs => ⟨StN.below (h.1 i s hs).1 hb, (h.1 i s hs).2⟩, h.2⟩
theorem Sts.st {i g : Nat} {v : Value} {m : List Nat} (h : Sts w B l) (hi : l[i]? = some (g, v, m)) : St w g v m := (h.1 i _ hi).1
theorem Sts.base {i g : Nat} {v : Value} {m : List Nat} (h : Sts w B l) (hi : l[i]? = some (g, v, m)) : B ≤ g := (h.1 i _ hi).2.1
theorem Sts.lt {i g : Nat} {v : Value} {m : List Nat} (h : Sts w B l) (hi : l[i]? = some (g, v, m)) : g < w.heap.size := StN.lt (h.st hi)
theorem Sts.add {g : Nat} {v : Value} {m : List Nat} (h : Sts w B l) (hb : Below w.heap.size w w') (hs' : St w' g v m) (hg : w.heap.size ≤ g) (hv : ∀ j, v.ownBlock = some j → w.heap.size ≤ j) (hB : B ≤ w.heap.size) : Sts w' B (l ++ [(g, v, m)]) := by
  have hold : ∀ (i : Nat) (s : Nat × Value × List Nat), l[i]? = some s → s.1 < w.heap.size ∧ ∀ j, s.2.1.ownBlock = some j → j < w.heap.size := fun i s hs => ⟨StN.lt (h.1 i s hs).1, StN.own_lt (h.1 i s hs).1⟩
  have hget : ∀ (i : Nat) (s : Nat × Value × List Nat), (l ++ [(g, v, m)])[i]? = some s → (i < l.length ∧ l[i]? = some s) ∨ (i = l.length ∧ s = (g, v, m)) := by
    intro i s hs
    rcases Nat.lt_or_ge i l.length with hlt | hge
    · rw [List.getElem?_append_left hlt] at hs
      exact .inl ⟨hlt, hs⟩
    · rw [List.getElem?_append_right hge] at hs
      rcases Nat.eq_zero_or_pos (i - l.length) with h0 | h0
      · rw [h0] at hs
        simp at hs
        exact .inr ⟨by omega, hs.symm⟩
      · rw [List.getElem?_eq_none (by simp; omega)] at hs
        cases hs
  refine ⟨fun i s hs => ?_, fun i j s t hs ht hij => ?_⟩
  · rcases hget i s hs with ⟨_, h1⟩ | ⟨_, rfl⟩
    · exact (h.below hb).1 i s h1
    · exact ⟨hs', Nat.le_trans hB hg, fun j hj => Nat.le_trans hB (hv j hj)⟩
  · rcases hget i s hs with ⟨hi, h1⟩ | ⟨hi, rfl⟩
    · rcases hget j t ht with ⟨hj, h2⟩ | ⟨hj, rfl⟩
      · exact h.2 i j s t h1 h2 hij
      · have h3 := hold i s h1
        refine ⟨by show s.1 ≠ g; omega, fun e => ?_, fun k hk e => ?_⟩
        · have : g < w.heap.size := h3.2 g e
          omega
        · have := h3.2 k hk
          have := hv k e
          omega
    · rcases hget j t ht with ⟨hj, h2⟩ | ⟨hj, rfl⟩
      · have h3 := hold j t h2
        refine ⟨by show g ≠ t.1; omega, fun e => ?_, fun k hk e => ?_⟩
        · have : w.heap.size ≤ t.1 := hv _ e
          omega
        · have := h3.2 k e
          have : w.heap.size ≤ k := hv k hk
          omega
      · exact absurd (hi.trans hj.symm) hij
theorem Sts.write {i g : Nat} {v v' : Value} {m m' : List Nat} (h : Sts w B l) (hi : l[i]? = some (g, v, m)) (hM : St w' g v' m') (hbut : But w w' (fun k => k = g ∨ v.ownBlock = some k))
    (hv : ∀ j, v'.ownBlock = some j → w.heap.size ≤ j) (hB : B ≤ w.heap.size) : Sts w' B (l.set i (g, v', m')) := by
  have hil : i < l.length := (List.getElem?_eq_some_iff.1 hi).1
  have hget : ∀ (a : Nat) (s : Nat × Value × List Nat), (l.set i (g, v', m'))[a]? = some s → (a = i ∧ s = (g, v', m')) ∨ (a ≠ i ∧ l[a]? = some s) := by
    intro a s hs
    by_cases e : i = a
    · subst e
      rw [List.getElem?_set_self hil] at hs
      injection hs with hs
      exact .inl ⟨rfl, hs.symm⟩
    · rw [List.getElem?_set_ne e] at hs
      exact .inr ⟨fun h => e h.symm, hs⟩
  refine ⟨fun a s hs => ?_, fun a b s t hs ht hab => ?_⟩
  · rcases hget a s hs with ⟨_, rfl⟩ | ⟨hne, h1⟩
    · exact ⟨hM, h.base hi, fun j hj => Nat.le_trans hB (hv j hj)⟩
    · obtain ⟨h2, h3⟩ := h.1 a s h1
      obtain ⟨p1, p2, p3⟩ := h.2 a i s _ h1 hi hne
      obtain ⟨r1, r2, r3⟩ := h.2 i a _ s hi h1 (Ne.symm hne)
      refine ⟨StN.keep h2 hbut.size (hbut.2.2.2.2 _ (StN.lt h2) ?_) fun j hj => hbut.2.2.2.2 _ (StN.own_lt h2 j hj) ?_, h3⟩
      · rintro (e | e)
        · exact p1 e
        · exact r2 e
      · rintro (e | e)
        · exact p2 (by rw [hj, e])
        · exact p3 j hj e
  · rcases hget a s hs with ⟨ha, rfl⟩ | ⟨hne, h1⟩
    · rcases hget b t ht with ⟨hb, rfl⟩ | ⟨hne2, h2⟩
      · exact absurd (ha.trans hb.symm) hab
      · obtain ⟨r1, r2, r3⟩ := h.2 i b _ t hi h2 (Ne.symm hne2)
        refine ⟨r1, fun e => ?_, fun k hk e => ?_⟩
        · have h3 : w.heap.size ≤ t.1 := hv _ e
          have := StN.lt (h.1 b t h2).1
          omega
        · have h3 : w.heap.size ≤ k := hv _ hk
          have := StN.own_lt (h.1 b t h2).1 k e
          omega
    · rcases hget b t ht with ⟨hb, rfl⟩ | ⟨hne2, h2⟩
      · obtain ⟨r1, r2, r3⟩ := h.2 a i s _ h1 hi hne
        refine ⟨r1, r2, fun k hk e => ?_⟩
        have h3 : w.heap.size ≤ k := hv _ e
        have := StN.own_lt (h.1 a s h1).1 k hk
        omega
      · exact h.2 a b s t h1 h2 hab
theorem Sts.sum {i g : Nat} {v : Value} {m : List Nat} (h : Sts w B l) (hi : l[i]? = some (g, v, m)) (hM : St w' g v m) (hg : w.grownBy w' (some g)) : Sts w' B l := by
  refine ⟨fun a s hs => ⟨?_, (h.1 a s hs).2⟩, h.2⟩
  by_cases e : a = i
  · subst e
    rw [hi] at hs
    injection hs with hs
    subst hs
    exact hM
  · obtain ⟨h2, h3⟩ := h.1 a s hs
    obtain ⟨p1, p2, p3⟩ := h.2 a i s _ hs hi e
    exact StN.keep h2 hg.size (hg.block _ (StN.lt h2) (by simpa using p1)) fun j hj => hg.block _ (StN.own_lt h2 j hj) (by rw [← hj]; exact p2)
end
/-- A state takes bytes. -/
def StsWrite (B : Nat) (l : List (Nat × Value × List Nat)) (i g : Nat) (m : List Nat) (w : World) (e : Ending) (w' : World) : Prop :=
  e = .returned (.tuple #[]) ∧ ∃ v, Sts w' B (l.set i (g, v, m)) ∧ Below B w w'
theorem sts_write {w : World} {B i g : Nat} {l : List (Nat × Value × List Nat)} {v : Value} {m : List Nat} (h : Sts w B l) (hi : l[i]? = some (g, v, m)) (hB : B ≤ w.heap.size) (A : Option Addr) (n c : Nat) (b : List Nat) (hn : n = b.length)
    (hb : Rd .u8 w A b) (lb : Lim 256 b) (ho : Off A b g) (hm : m.length + n ≤ 2199023255552) :
    Calls Try.prog 20 #[.pointer (some ⟨g, 0, none⟩), .slice A n c] w (StsWrite B l i g (m ++ b) w) := by
  refine (write_any g v A n c m b m.length w (h.st hi) hn hb lb ho hm).mono ?_
  rintro e w1 ⟨rfl, v1, hM, hbut, hv⟩
  refine ⟨rfl, v1, h.write hi (.inl ?_) hbut hv hB, ?_⟩
  · rw [List.length_append, ← hn]
    exact hM
  · exact But.below (Below.refl B w) hbut hB (by
      rintro k (rfl | hk)
      · exact h.base hi
      · exact (h.1 i _ hi).2.2 k hk)
/-- A state is asked for its sum. -/
def StsSum (B : Nat) (l : List (Nat × Value × List Nat)) (m : List Nat) (w : World) (e : Ending) (w' : World) : Prop :=
  e = .returned (.agg (ints .u8 (digest m)).toArray) ∧ Sts w' B l ∧ Below B w w'
theorem sts_sum {w : World} {B i g : Nat} {l : List (Nat × Value × List Nat)} {v : Value} {m : List Nat} (h : Sts w B l) (hi : l[i]? = some (g, v, m)) (hB : B ≤ w.heap.size) (hm : m.length ≤ 1099511627776) :
    Calls Try.prog 18 #[.pointer (some ⟨g, 0, none⟩)] w (StsSum B l m w) := by
  refine (stateSum_any g v m w (h.st hi) hm).mono ?_
  rintro e w1 ⟨rfl, hM, hg⟩
  exact ⟨rfl, h.sum hi (.inl hM) hg, below_only (Below.refl B w) hg hB (h.base hi)⟩

/-! ### Slices of slices of bytes -/
/-- A row: where it lies, its capacity, its bytes. -/
def rowVal (r : Option Addr × Nat × List Nat) : Value := .slice r.1 r.2.2.length r.2.1
def RowOk (k : IntKind) (b : Nat) (w : World) (r : Option Addr × Nat × List Nat) : Prop := r.2.2.length ≤ r.2.1 ∧ r.2.1 ≤ 9223372036854775807 ∧ Rd k w r.1 r.2.2 ∧ Lim b r.2.2
/-- A slice of such rows. -/
def Mat (k : IntKind) (b : Nat) (w : World) (a : Option Addr) (len cap : Nat) (rs : List (Option Addr × Nat × List Nat)) : Prop :=
  len = rs.length ∧ len ≤ cap ∧ cap ≤ 9223372036854775807 ∧ (∀ r ∈ rs, RowOk k b w r) ∧
  (rs = [] ∨ ∃ bb o, a = some ⟨bb, o, none⟩ ∧ bb < w.heap.size ∧ ∀ (i : Nat) (r : Option Addr × Nat × List Nat), rs[i]? = some r → w.cell? ⟨bb, o + i, none⟩ = some (rowVal r))
theorem mat_of_trod {H : Type} {enc : TypeId × Value → H} {P : Program} {w : World} {base : Nat} {held : Bool} {t e q : TypeId} {k : IntKind} {b : Nat} (hk : ∀ n : Int, (Lit.int k n).wf = true → 0 ≤ n ∧ n < (b : Int)) {fuel : Nat} {a : Option Addr} {len cap : Nat} {x : DataW H × List MemPlace}
    (ht : P.underlying t = some (.slice e)) (he : P.underlying e = some (.slice q)) (hq : P.underlying q = some (.int k)) (ce : P.cellsOf e = 1) (cq : P.cellsOf q = 1)
    (h : DataW.trod enc P w base (fun _ => true) held fuel t [.slice a len cap] = some x) : ∃ rs, Mat k b w a len cap rs := by
  rcases Go.Deep.open_int_rows ht he hq ce cq h with ⟨hcs, _⟩ | ⟨a', len', cap', A, L, C, Z, hcs, _, hl, hm, _, hr⟩
  · simp at hcs
    obtain ⟨rfl, rfl, rfl⟩ := hcs
    exact ⟨[], rfl, Nat.le_refl _, Nat.zero_le _, (fun r hr => by cases hr), .inl rfl⟩
  · simp at hcs
    obtain ⟨rfl, rfl, rfl⟩ := hcs
    have each : ∀ r, r < len → ∃ y : Option Addr × Nat × List Nat, w.cell? (a'.add r) = some (rowVal y) ∧ RowOk k b w y := by
      intro r hrl
      obtain ⟨h1, h2, h3, h4, h5, h6, h7⟩ := hr r (by omega)
      have hrow : IsRow k w (A r) (L r) (C r) (Z r) := by
        cases hA : A r with
        | none =>
          have hc0 := h6 hA
          exact .inl ⟨rfl, by omega, hc0, List.eq_nil_of_length_eq_zero (by omega)⟩
        | some a'' => exact .inr ⟨a'', rfl, h2, h3, h4, fun i hi => (h7 a'' hA).2 i (by omega), h5⟩
      obtain ⟨xs, g1, g2, g3, g4, g5⟩ := rd_of_row hk hrow
      refine ⟨(A r, C r, xs), ?_, by show xs.length ≤ C r; omega, g3, g4, g5⟩
      rw [h1, rowVal, g1]
    obtain ⟨f, hf⟩ := Go.Deep.choose_lt each
    refine ⟨(List.range len).map f, by simp, hl, by simpa [maxLen] using hm, ?_, ?_⟩
    · intro r hr
      obtain ⟨i, hi, rfl⟩ := List.mem_map.1 hr
      exact (hf i (List.mem_range.1 hi)).2
    · rcases Nat.eq_zero_or_pos len with h0 | h0
      · subst h0
        exact .inl rfl
      · have hfirst := (hf 0 h0).1
        obtain ⟨bk, off, spot⟩ := a'
        have hs : spot = none := by simpa [Addr.add] using World.cell?_spot hfirst
        subst hs
        refine .inr ⟨bk, off, rfl, ?_, fun i r hr => ?_⟩
        · have := World.block_lt_of_cell? w _ hfirst
          simpa [Addr.add] using this
        · rw [List.getElem?_map, Option.map_eq_some_iff] at hr
          obtain ⟨j, hj, rfl⟩ := hr
          obtain ⟨hlt, rfl⟩ := List.getElem?_eq_some_iff.1 hj
          rw [List.getElem_range]
          have h9 := (hf i (by simpa using hlt)).1
          have h10 : (⟨bk, off, none⟩ : Addr).add i = ⟨bk, off + i, none⟩ := by unfold Addr.add; split <;> simp_all
          rwa [h10] at h9
/-- A slice that came in reads as a row. -/
theorem row_of_trod {H : Type} {enc : TypeId × Value → H} {P : Program} {w : World} {base : Nat} {held : Bool} {t q : TypeId} {k : IntKind} {b : Nat} (hk : ∀ n : Int, (Lit.int k n).wf = true → 0 ≤ n ∧ n < (b : Int)) {fuel : Nat} {v : Value} {x : DataW H × List MemPlace}
    (ht : P.underlying t = some (.slice q)) (hq : P.underlying q = some (.int k)) (cq : P.cellsOf q = 1) (h : DataW.trod enc P w base (fun _ => true) held fuel t [v] = some x) : ∃ r, v = rowVal r ∧ RowOk k b w r := by
  rcases Go.ChangeShapes.open_ints ht hq cq h with ⟨hcs, _⟩ | ⟨a, l, c, zs, hcs, _, hl, hm, hz, _, hcell, hwz⟩
  · simp at hcs
    exact ⟨(none, 0, []), by rw [hcs]; rfl, Nat.le_refl _, Nat.zero_le _, Rd.nil _ _ _, Lim.nil _⟩
  · simp at hcs
    obtain ⟨xs, g1, g2, g3, g4, g5⟩ := rd_of_row hk (.inr ⟨a, rfl, hl, hm, by simpa using hz, hcell, hwz⟩ : IsRow k w (some a) l c zs)
    exact ⟨(some a, c, xs), by rw [hcs, rowVal, g1], by show xs.length ≤ c; omega, g3, g4, g5⟩
/-- A slice whose elements are a cell each. -/
def Cells {α : Type} (f : α → Value) (w : World) (a : Option Addr) (len cap : Nat) (xs : List α) : Prop :=
  len = xs.length ∧ len ≤ cap ∧ cap ≤ 9223372036854775807 ∧ (xs = [] ∨ ∃ bb o, a = some ⟨bb, o, none⟩ ∧ bb < w.heap.size ∧ ∀ (i : Nat) (x : α), xs[i]? = some x → w.cell? ⟨bb, o + i, none⟩ = some (f x))
theorem Cells.pos {α : Type} {f : α → Value} {w : World} {a : Option Addr} {len cap : Nat} {xs : List α} {i : Nat} {x : α} (h : Cells f w a len cap xs) (hi : xs[i]? = some x) : ∃ bb o, a = some ⟨bb, o, none⟩ ∧ bb < w.heap.size ∧ ∀ (i : Nat) (x : α), xs[i]? = some x → w.cell? ⟨bb, o + i, none⟩ = some (f x) := by
  rcases h.2.2.2 with rfl | h
  · simp at hi
  · exact h
theorem cells_of_trod {α : Type} [Inhabited α] {f : α → Value} {Q : α → Prop} {H : Type} {enc : TypeId × Value → H} {P : Program} {w : World} {base : Nat} {held : Bool} {t e : TypeId} {fuel : Nat} {a : Option Addr} {len cap : Nat} {x : DataW H × List MemPlace}
    (ht : P.underlying t = some (.slice e)) (ce : P.cellsOf e = 1) (h : DataW.trod enc P w base (fun _ => true) held fuel t [.slice a len cap] = some x)
    (each : ∀ (n : Nat) (v : Value) (y : DataW H × List MemPlace), DataW.trod enc P w base (fun _ => true) held n e [v] = some y → ∃ z, v = f z ∧ Q z) : ∃ xs, Cells f w a len cap xs ∧ ∀ z ∈ xs, Q z := by
  rcases Go.Deep.open_slice1 ht ce h with ⟨hcs, _⟩ | ⟨a', len', cap', m, n, V, D, Pl, hcs, _, hl, hm, hmm, _, hr⟩
  · simp at hcs
    obtain ⟨rfl, rfl, rfl⟩ := hcs
    exact ⟨[], ⟨rfl, Nat.le_refl _, Nat.zero_le _, .inl rfl⟩, fun z hz => by cases hz⟩
  · simp at hcs
    obtain ⟨rfl, rfl, rfl⟩ := hcs
    simp only [if_true] at hmm
    have hmm' := hmm.symm
    subst hmm'
    have each2 : ∀ r, r < len → ∃ y : α, w.cell? (a'.add r) = some (f y) ∧ Q y := by
      intro r hrl
      obtain ⟨h1, h2⟩ := hr r (by omega)
      obtain ⟨z, hz1, hz2⟩ := each _ _ _ h2
      exact ⟨z, by rw [h1, hz1], hz2⟩
    obtain ⟨g, hg⟩ := Go.Deep.choose_lt each2
    refine ⟨(List.range len).map g, ⟨by simp, hl, by simpa [maxLen] using hm, ?_⟩, ?_⟩
    · rcases Nat.eq_zero_or_pos len with h0 | h0
      · subst h0
        exact .inl rfl
      · have hfirst := (hg 0 h0).1
        obtain ⟨bk, off, spot⟩ := a'
        have hs : spot = none := by simpa [Addr.add] using World.cell?_spot hfirst
        subst hs
        refine .inr ⟨bk, off, rfl, ?_, fun i r hr => ?_⟩
        · have := World.block_lt_of_cell? w _ hfirst
          simpa [Addr.add] using this
        · rw [List.getElem?_map, Option.map_eq_some_iff] at hr
          obtain ⟨j, hj, rfl⟩ := hr
          obtain ⟨hlt, rfl⟩ := List.getElem?_eq_some_iff.1 hj
          rw [List.getElem_range]
          have h9 := (hg i (by simpa using hlt)).1
          have h10 : (⟨bk, off, none⟩ : Addr).add i = ⟨bk, off + i, none⟩ := by unfold Addr.add; split <;> simp_all
          rwa [h10] at h9
    · intro r hr
      obtain ⟨i, hi, rfl⟩ := List.mem_map.1 hr
      exact (hg i (List.mem_range.1 hi)).2
theorem bools_of_trod {H : Type} {enc : TypeId × Value → H} {P : Program} {w : World} {base : Nat} {held : Bool} {t e : TypeId} {fuel : Nat} {a : Option Addr} {len cap : Nat} {x : DataW H × List MemPlace}
    (ht : P.underlying t = some (.slice e)) (he : P.underlying e = some .bool) (ce : P.cellsOf e = 1) (h : DataW.trod enc P w base (fun _ => true) held fuel t [.slice a len cap] = some x) : ∃ bs, Cells Value.bool w a len cap bs := by
  obtain ⟨bs, hb, _⟩ := cells_of_trod (f := Value.bool) (Q := fun _ => True) ht ce h fun n v y hy => by
    obtain ⟨b, hb, _⟩ := DataW.trod_bool he hy
    simp at hb
    exact ⟨b, hb, trivial⟩
  exact ⟨bs, hb⟩
section
variable {k : IntKind} {b len cap : Nat} {w : World} {a : Option Addr} {rs : List (Option Addr × Nat × List Nat)}
theorem Mat.row {i : Nat} {r : Option Addr × Nat × List Nat} (h : Mat k b w a len cap rs) (hi : rs[i]? = some r) : RowOk k b w r := h.2.2.2.1 r (List.mem_of_getElem? hi)
theorem Mat.pos {i : Nat} {r : Option Addr × Nat × List Nat} (h : Mat k b w a len cap rs) (hi : rs[i]? = some r) : ∃ bb o, a = some ⟨bb, o, none⟩ ∧ bb < w.heap.size ∧ ∀ (i : Nat) (r : Option Addr × Nat × List Nat), rs[i]? = some r → w.cell? ⟨bb, o + i, none⟩ = some (rowVal r) := by
  rcases h.2.2.2.2 with rfl | h
  · simp at hi
  · exact h
end
end Go.Proofs.Ytmbkehmgpcmicaa
