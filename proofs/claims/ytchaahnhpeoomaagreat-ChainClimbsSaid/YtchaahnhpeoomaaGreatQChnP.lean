/-
  Rows of those who sign one another, as lists: who stands at which place of a row, the shortest row to somebody who is trusted, and all who stand in some row. Holds for any relation.
-/
namespace Go.Proofs.YtchaahnhpeoomaaGreat.Chn
set_option linter.unusedVariables false
set_option linter.unusedSimpArgs false
set_option maxRecDepth 20000
structure House (α : Type) where
 leaf : α
 pool : List α
 sg : α → α → Bool
 fit : α → Nat → Bool
section
variable {α : Type} (H : House α)
def House.at (i : Int) : α := if i = -1 then H.leaf else (H.pool[i.toNat]?).getD H.leaf
def House.idx : List Int := (List.range H.pool.length).map fun (i : Nat) => (i : Int)
def House.lvl : Nat → List Int
 | 0 => [-1]
 | k + 1 => H.idx.filter fun i => H.fit (H.at i) (k + 1) && (House.lvl k).any fun c => H.sg (H.at c) (H.at i)
def House.last (tr : α → Bool) : Option Nat := (List.range 8).find? fun k => (H.lvl k).any fun i => tr (H.at i)
def House.good (tr : α → Bool) (l : Nat) : Nat → List Int
 | 0 => (H.lvl l).filter fun i => tr (H.at i)
 | d + 1 => (H.lvl (l - (d + 1))).filter fun i => (House.good tr l d).any fun p => H.sg (H.at i) (H.at p)
def House.rowI (tr : α → Bool) (l : Nat) : Nat → Int → List Int
 | 0, _ => []
 | d + 1, a => match (H.good tr l d).find? fun p => H.sg (H.at a) (H.at p) with
  | some p => p :: House.rowI tr l d p
  | none => []
def House.find (tr : α → Bool) : Option (List α) := (H.last tr).map fun l => H.leaf :: (H.rowI tr l l (-1)).map H.at
def fresh : List Int → List Int → List Int
 | _, [] => []
 | seen, i :: r => if i ∈ seen then fresh seen r else i :: fresh (i :: seen) r
def House.reachI : List Int := fresh [-1] ((List.range 8).flatMap H.lvl)
def House.reach : List α := H.leaf :: H.reachI.map H.at
theorem mem_idx {i : Int} : i ∈ H.idx ↔ 0 ≤ i ∧ i < H.pool.length := by
 unfold House.idx
 rw [List.mem_map]
 constructor
 ·rintro ⟨j, hj, rfl⟩
  have := List.mem_range.1 hj
  omega
 ·rintro ⟨h1, h2⟩
  exact ⟨i.toNat, List.mem_range.2 (by omega), by omega⟩
theorem mem_lvl_succ {k : Nat} {i : Int} : i ∈ H.lvl (k + 1) ↔ (0 ≤ i ∧ i < H.pool.length) ∧ H.fit (H.at i) (k + 1) = true ∧ ∃ c ∈ H.lvl k, H.sg (H.at c) (H.at i) = true := by
 rw [House.lvl, List.mem_filter, mem_idx, Bool.and_eq_true, List.any_eq_true]
theorem mem_fresh {s l : List Int} {i : Int} : i ∈ fresh s l ↔ i ∈ l ∧ i ∉ s := by
 induction l generalizing s with
 | nil => simp [fresh]
 | cons a l ih =>
  unfold fresh
  split
  ·rename_i h
   rw [ih, List.mem_cons]
   constructor
   ·rintro ⟨h1, h2⟩
    exact ⟨.inr h1, h2⟩
   ·rintro ⟨h1 | h1, h2⟩
    ·exact absurd (h1 ▸ h) h2
    ·exact ⟨h1, h2⟩
  ·rename_i h
   rw [List.mem_cons, ih, List.mem_cons, List.mem_cons]
   constructor
   ·rintro (rfl | ⟨h1, h2⟩)
    ·exact ⟨.inl rfl, h⟩
    ·exact ⟨.inr h1, fun h3 => h2 (.inr h3)⟩
   ·rintro ⟨h1 | h1, h2⟩
    ·exact .inl h1
    ·by_cases h3 : i = a
     ·exact .inl h3
     ·exact .inr ⟨h1, fun h4 => h4.elim h3 h2⟩
theorem fresh_nodup {s l : List Int} : (fresh s l).Nodup := by
 induction l generalizing s with
 | nil => simp [fresh]
 | cons a l ih =>
  unfold fresh
  split
  ·exact ih
  ·refine List.nodup_cons.2 ⟨fun h => ?_, ih⟩
   exact (mem_fresh.1 h).2 (by simp)
theorem mem_reachI {i : Int} : i ∈ H.reachI ↔ i ≠ -1 ∧ ∃ k, k < 8 ∧ i ∈ H.lvl k := by
 unfold House.reachI
 rw [mem_fresh, List.mem_flatMap]
 constructor
 ·rintro ⟨⟨k, hk, h⟩, h2⟩
  exact ⟨by simpa using h2, k, List.mem_range.1 hk, h⟩
 ·rintro ⟨h2, k, hk, h⟩
  exact ⟨⟨k, List.mem_range.2 hk, h⟩, by simpa using h2⟩
theorem lvl_range {k : Nat} {i : Int} (h : i ∈ H.lvl k) (hi : i ≠ -1) : 0 ≤ i ∧ i < H.pool.length := by
 cases k with
 | zero => simp [House.lvl] at h; exact absurd h hi
 | succ k => exact ((mem_lvl_succ H).1 h).1
theorem nodup_lt {n : Nat} : ∀ {l : List Nat}, l.Nodup → (∀ i ∈ l, i < n) → l.length ≤ n := by
 induction n with
 | zero =>
  intro l _ h
  cases l with
  | nil => exact Nat.le_refl _
  | cons a l => exact absurd (h a (by simp)) (Nat.not_lt_zero _)
 | succ n ih =>
  intro l hn h
  by_cases hm : n ∈ l
  ·have h1 := ih (l := l.erase n) (hn.erase n) fun i hi => by
    have h2 := h i (List.mem_of_mem_erase hi)
    have h3 : i ≠ n := fun e => by
     rw [e] at hi
     exact hn.not_mem_erase hi
    omega
   have h2 := List.length_erase_of_mem hm
   omega
  ·have := ih hn fun i hi => by
    have h2 := h i hi
    have h3 : i ≠ n := fun e => hm (e ▸ hi)
    omega
   omega
theorem nodup_len {n : Nat} {l : List Int} (h : l.Nodup) (hr : ∀ i ∈ l, 0 ≤ i ∧ i < (n : Int)) : l.length ≤ n := by
 have h1 : (l.map Int.toNat).Nodup := by
  induction l with
  | nil => simp
  | cons a l ih =>
   rw [List.nodup_cons] at h
   rw [List.map_cons, List.nodup_cons]
   refine ⟨fun hm => ?_, ih h.2 fun i hi => hr i (by simp [hi])⟩
   obtain ⟨b, hb, e⟩ := List.mem_map.1 hm
   have h3 := hr a (by simp)
   have h4 := hr b (by simp [hb])
   exact h.1 ((show a = b by omega) ▸ hb)
 have := nodup_lt (n := n) h1 fun x hx => by
  obtain ⟨i, hi, rfl⟩ := List.mem_map.1 hx
  have := hr i hi
  omega
 simpa using this
theorem good_sub {tr : α → Bool} {l d : Nat} {i : Int} (h : i ∈ H.good tr l d) : i ∈ H.lvl (l - d) := by
 cases d with
 | zero => exact (List.mem_filter.1 (by rwa [House.good] at h)).1
 | succ d => exact (List.mem_filter.1 (by rwa [House.good] at h)).1
theorem good_leads {tr : α → Bool} {l d : Nat} {i : Int} (h : i ∈ H.good tr l (d + 1)) : ∃ p ∈ H.good tr l d, H.sg (H.at i) (H.at p) = true := by
 rw [House.good, List.mem_filter, List.any_eq_true] at h
 exact h.2
theorem last_some {tr : α → Bool} {l : Nat} (h : H.last tr = some l) : l < 8 ∧ (∃ i ∈ H.lvl l, tr (H.at i) = true) ∧ ∀ k, k < l → ∀ i ∈ H.lvl k, tr (H.at i) = false := by
 unfold House.last at h
 rw [List.find?_range_eq_some] at h
 obtain ⟨h1, h2, h3⟩ := h
 rw [List.any_eq_true] at h1
 refine ⟨List.mem_range.1 (by simpa using h2), h1, fun k hk i hi => ?_⟩
 have := h3 k hk
 rw [Bool.not_eq_true', List.any_eq_false] at this
 simpa using this i hi
theorem good_up {tr : α → Bool} {l : Nat} : ∀ d, d ≤ l → ∀ i ∈ H.good tr l d, (d = l ∧ i = -1) ∨ ∃ c ∈ H.good tr l (d + 1), H.sg (H.at c) (H.at i) = true := by
 intro d hd i hi
 have h1 := good_sub H hi
 cases hk : l - d with
 | zero =>
  rw [hk] at h1
  refine .inl ⟨by omega, ?_⟩
  simpa [House.lvl] using h1
 | succ k =>
  rw [hk, mem_lvl_succ] at h1
  obtain ⟨c, hc, hs⟩ := h1.2.2
  refine .inr ⟨c, ?_, hs⟩
  rw [House.good, List.mem_filter, List.any_eq_true]
  refine ⟨by rwa [show l - (d + 1) = k by omega], i, hi, hs⟩
theorem good_root {tr : α → Bool} {l : Nat} (h : ∃ i ∈ H.lvl l, tr (H.at i) = true) : (-1 : Int) ∈ H.good tr l l := by
 obtain ⟨i, hi, ht⟩ := h
 have h0 : ∃ i, i ∈ H.good tr l 0 := ⟨i, by rw [House.good]; exact List.mem_filter.2 ⟨hi, ht⟩⟩
 have : ∀ d, d ≤ l → ∃ i, i ∈ H.good tr l d := by
  intro d
  induction d with
  | zero => exact fun _ => h0
  | succ d ih =>
   intro hd
   obtain ⟨j, hj⟩ := ih (by omega)
   rcases good_up H d (by omega) j hj with ⟨e, _⟩ | ⟨c, hc, _⟩
   ·omega
   ·exact ⟨c, hc⟩
 obtain ⟨j, hj⟩ := this l (Nat.le_refl _)
 have h1 := good_sub H hj
 rw [Nat.sub_self, House.lvl, List.mem_singleton] at h1
 rwa [h1] at hj
theorem row_spec {tr : α → Bool} {l : Nat} : ∀ d a, a ∈ H.good tr l d → (a :: H.rowI tr l d a).length = d + 1 ∧ (∀ (j : Nat) p, (a :: H.rowI tr l d a)[j]? = some p → p ∈ H.good tr l (d - j)) ∧
  ∀ (j : Nat) p q, (a :: H.rowI tr l d a)[j]? = some p → (a :: H.rowI tr l d a)[j + 1]? = some q → H.sg (H.at p) (H.at q) = true := by
 intro d
 induction d with
 | zero =>
  intro a ha
  refine ⟨rfl, fun j p hp => ?_, fun j p q hp hq => ?_⟩
  ·rw [House.rowI] at hp
   cases j with
   | zero =>
    have : a = p := by simpa using hp
    rw [← this]
    exact ha
   | succ j => simp at hp
  ·rw [House.rowI] at hq
   simp at hq
 | succ d ih =>
  intro a ha
  obtain ⟨p0, hp0, hs0⟩ := good_leads H ha
  obtain ⟨p, hp⟩ : ∃ p, (H.good tr l d).find? (fun p => H.sg (H.at a) (H.at p)) = some p := by
   cases hf : (H.good tr l d).find? fun p => H.sg (H.at a) (H.at p) with
   | some p => exact ⟨p, rfl⟩
   | none =>
    rw [List.find?_eq_none] at hf
    exact absurd hs0 (hf p0 hp0)
  have hpm := List.mem_of_find?_eq_some hp
  have hps := List.find?_some hp
  obtain ⟨h1, h2, h3⟩ := ih p hpm
  have e : H.rowI tr l (d + 1) a = p :: H.rowI tr l d p := by rw [House.rowI, hp]
  rw [e]
  refine ⟨by rw [List.length_cons, h1], fun j q hq => ?_, fun j q r hq hr => ?_⟩
  ·cases j with
   | zero =>
    have : a = q := by simpa using hq
    rw [← this]
    exact ha
   | succ j =>
    have := h2 j q (by simpa using hq)
    rwa [show d + 1 - (j + 1) = d - j by omega]
  ·cases j with
   | zero =>
    have e1 : a = q := by simpa using hq
    have e2 : p = r := by simpa using hr
    rw [← e1, ← e2]
    exact hps
   | succ j => exact h3 j q r (by simpa using hq) (by simpa using hr)
theorem at_neg : H.at (-1) = H.leaf := by unfold House.at; rw [if_pos rfl]
theorem find_spec {tr : α → Bool} {r : List α} (h : H.find tr = some r) : ∃ (l : Nat) (L : List Int), H.last tr = some l ∧ l < 8 ∧ r = L.map H.at ∧ L.length = l + 1 ∧ L[0]? = some (-1) ∧ (∀ (j : Nat) p, L[j]? = some p → p ∈ H.lvl j ∧ (tr (H.at p) = decide (j = l))) ∧
  ∀ (j : Nat) p q, L[j]? = some p → L[j + 1]? = some q → H.sg (H.at p) (H.at q) = true := by
 unfold House.find at h
 rw [Option.map_eq_some_iff] at h
 obtain ⟨l, hl, rfl⟩ := h
 obtain ⟨h1, h2, h3⟩ := last_some H hl
 obtain ⟨g1, g2, g3⟩ := row_spec H l (-1) (good_root H h2)
 refine ⟨l, -1 :: H.rowI tr l l (-1), hl, h1, by rw [List.map_cons, at_neg], g1, rfl, fun j p hp => ?_, g3⟩
 have hj : j < l + 1 := by
  have := (List.getElem?_eq_some_iff.1 hp).1
  omega
 have hg := g2 j p hp
 have hm := good_sub H hg
 rw [show l - (l - j) = j by omega] at hm
 refine ⟨hm, ?_⟩
 by_cases e : j = l
 ·rw [e, Nat.sub_self, House.good, List.mem_filter] at hg
  rw [hg.2, decide_eq_true e]
 ·rw [h3 j (by omega) p hm, decide_eq_false e]
theorem reach_mem {c : α} : c ∈ H.reach ↔ ∃ k, k < 8 ∧ ∃ i ∈ H.lvl k, c = H.at i := by
 unfold House.reach
 rw [List.mem_cons, List.mem_map]
 constructor
 ·rintro (rfl | ⟨i, hi, rfl⟩)
  ·exact ⟨0, by omega, -1, by simp [House.lvl], (at_neg H).symm⟩
  ·obtain ⟨_, k, hk, h2⟩ := (mem_reachI H).1 hi
   exact ⟨k, hk, i, h2, rfl⟩
 ·rintro ⟨k, hk, i, hi, rfl⟩
  by_cases e : i = -1
  ·rw [e]
   exact .inl (at_neg H)
  ·exact .inr ⟨i, (mem_reachI H).2 ⟨e, k, hk, hi⟩, rfl⟩
end
end Go.Proofs.YtchaahnhpeoomaaGreat.Chn
