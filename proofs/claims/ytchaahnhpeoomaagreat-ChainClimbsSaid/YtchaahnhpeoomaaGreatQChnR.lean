/-
  Ladders, plainly: where each is signed by the next one alone, a place of a row has one who stands there, up to the first one that may not; so the reached are the ladder's first ones, and what is found
-/
import Derived.Test.YtchaahnhpeoomaaGreatQChnP
namespace Go.Proofs.YtchaahnhpeoomaaGreat.Chn
set_option linter.unusedVariables false
set_option linter.unusedSimpArgs false
set_option maxRecDepth 20000
section
variable {α : Type} (H : House α)
def House.lv : Nat → List α
 | 0 => [H.leaf]
 | k + 1 => H.pool.filter fun c => H.fit c (k + 1) && (House.lv k).any fun b => H.sg b c
theorem idx_at : H.idx.map H.at = H.pool := by
 apply List.ext_getElem?
 intro i
 unfold House.idx
 rw [List.map_map, List.getElem?_map]
 by_cases h : i < H.pool.length
 ·rw [List.getElem?_range h, Option.map_some, List.getElem?_eq_getElem h]
  unfold House.at
  rw [Function.comp, if_neg (by omega), Int.toNat_natCast, List.getElem?_eq_getElem h, Option.getD_some]
 ·rw [List.getElem?_eq_none (by simpa using h), List.getElem?_eq_none (by omega), Option.map_none]
theorem map_filter_at {l : List Int} {p : Int → Bool} {q : α → Bool} (h : ∀ i ∈ l, p i = q (H.at i)) : (l.filter p).map H.at = (l.map H.at).filter q := by
 induction l with
 | nil => rfl
 | cons a l ih =>
  have h1 := ih fun i hi => h i (by simp [hi])
  have h2 := h a (by simp)
  rw [List.map_cons, List.filter_cons, List.filter_cons, h2]
  split
  ·rw [List.map_cons, h1]
  ·exact h1
theorem lv_eq (k : Nat) : (H.lvl k).map H.at = H.lv k := by
 induction k with
 | zero => rw [House.lvl, House.lv, List.map_cons, at_neg, List.map_nil]
 | succ k ih =>
  rw [House.lvl, House.lv, map_filter_at H (q := fun c => H.fit c (k + 1) && (H.lv k).any fun b => H.sg b c) fun i _ => by rw [← ih, List.any_map]; rfl, idx_at]
variable {G : House α}
structure Like (G H : House α) : Prop where
 leaf : G.leaf = H.leaf
 sg : G.sg = H.sg
 fit : G.fit = H.fit
variable {H}
theorem lv_reach {k : Nat} (hk : k < 8) {c : α} (h : c ∈ H.lv k) : c ∈ H.reach := by
 rw [← lv_eq] at h
 obtain ⟨i, hi, rfl⟩ := List.mem_map.1 h
 exact (reach_mem H).2 ⟨k, hk, i, hi, rfl⟩
theorem lv_other (w : Like G H) {c : α} {a b : List α} (hG : G.pool = a ++ c :: b) (hH : H.pool = a ++ b) (hs : ∀ x ∈ H.reach, H.sg x c = false) : ∀ k, k < 8 → G.lv k = H.lv k := by
 intro k
 induction k with
 | zero =>
  intro _
  rw [House.lv, House.lv, w.leaf]
 | succ k ih =>
  intro hk
  have e := ih (by omega)
  have hc : ((H.lv k).any fun b => H.sg b c) = false := by
   rw [List.any_eq_false]
   intro x hx
   rw [hs x (lv_reach (by omega) hx)]
   simp
  rw [House.lv, House.lv, hG, hH, List.filter_append, List.filter_append, List.filter_cons, e, w.fit, w.sg]
  simp only [hc, Bool.and_false, Bool.false_eq_true, if_false]
def up (n : Nat) (i : Int) : Int := if i < n then i else i + 1
theorem up_inj {n : Nat} {i j : Int} (h : up n i = up n j) : i = j := by
 unfold up at h
 split at h <;> split at h <;> omega
theorem range_map {m : Nat} (f : Nat → Int) (n k : Nat) (h : m = n + (1 + k)) : (List.range m).map f = (List.range n).map f ++ f n :: (List.range k).map fun i => f (n + (1 + i)) := by
 rw [h, List.range_add, List.map_append, List.range_add, List.map_append, List.map_append, List.map_map, List.map_map, List.map_map]
 rfl
theorem idx_other {c : α} {a b : List α} (hG : G.pool = a ++ c :: b) (hH : H.pool = a ++ b) : ∃ s t, G.idx = s.map (up a.length) ++ (a.length : Int) :: t.map (up a.length) ∧ H.idx = s ++ t := by
 refine ⟨(List.range a.length).map fun (i : Nat) => (i : Int), (List.range b.length).map fun (i : Nat) => ((a.length + i : Nat) : Int), ?_, ?_⟩
 ·unfold House.idx
  rw [hG, range_map _ a.length b.length (by rw [List.length_append, List.length_cons]; omega), List.map_map, List.map_map]
  congr 1
  ·refine List.map_congr_left fun i hi => ?_
   have := List.mem_range.1 hi
   show (i : Int) = up a.length (i : Int)
   unfold up
   rw [if_pos (by omega)]
  ·congr 1
   refine List.map_congr_left fun i hi => ?_
   show ((a.length + (1 + i) : Nat) : Int) = up a.length ((a.length + i : Nat) : Int)
   unfold up
   rw [if_neg (by omega)]
   omega
 ·unfold House.idx
  rw [hH, List.length_append, List.range_add, List.map_append, List.map_map]
  rfl
theorem at_other (w : Like G H) {c : α} {a b : List α} (hG : G.pool = a ++ c :: b) (hH : H.pool = a ++ b) {i : Int} (hi : -1 ≤ i) : G.at (up a.length i) = H.at i := by
 unfold House.at up
 rw [hG, hH, w.leaf]
 by_cases h1 : i = -1
 ·rw [h1, if_pos (by omega), if_pos rfl]
 ·rw [if_neg h1]
  by_cases h2 : i < a.length
  ·rw [if_pos h2, if_neg h1, List.getElem?_append_left (by omega), List.getElem?_append_left (by omega)]
  ·rw [if_neg h2, if_neg (by omega), List.getElem?_append_right (by omega), List.getElem?_append_right (by omega), show (i + 1).toNat - a.length = (i.toNat - a.length) + 1 by omega, List.getElem?_cons_succ]
theorem filter_up {n : Nat} {p q : Int → Bool} {l : List Int} (h : ∀ i ∈ l, p (up n i) = q i) : (l.map (up n)).filter p = (l.filter q).map (up n) := by
 induction l with
 | nil => rfl
 | cons a l ih =>
  rw [List.map_cons, List.filter_cons, List.filter_cons, h a (by simp), ih fun i hi => h i (by simp [hi])]
  split <;> rfl
theorem lvl_other (w : Like G H) {c : α} {a b : List α} (hG : G.pool = a ++ c :: b) (hH : H.pool = a ++ b) (hs : ∀ x ∈ H.reach, H.sg x c = false) : ∀ k, k < 8 → G.lvl k = (H.lvl k).map (up a.length) := by
 intro k hk
 cases k with
 | zero =>
  rw [House.lvl, House.lvl, List.map_cons, List.map_nil]
  unfold up
  rw [if_pos (by omega)]
 | succ k =>
  have e := lv_other w hG hH hs k (by omega)
  obtain ⟨s, t, h1, h2⟩ := idx_other hG hH
  have hc : ((H.lv k).any fun b => H.sg b c) = false := by
   rw [List.any_eq_false]
   intro x hx
   rw [hs x (lv_reach (by omega) hx)]
   simp
  have hm : ∀ i ∈ H.idx, (G.fit (G.at (up a.length i)) (k + 1) && (G.lvl k).any fun c => G.sg (G.at c) (G.at (up a.length i))) = (H.fit (H.at i) (k + 1) && (H.lvl k).any fun c => H.sg (H.at c) (H.at i)) := by
   intro i hi
   have hr := (mem_idx H).1 hi
   rw [at_other w hG hH (by omega), w.fit, w.sg]
   congr 1
   have e1 := congrArg (fun l => l.any fun b => H.sg b (H.at i)) e
   simp only [← lv_eq, List.any_map] at e1
   exact e1
  have hat : G.at (a.length : Int) = c := by
   unfold House.at
   rw [if_neg (by omega), hG, List.getElem?_append_right (by omega), Int.toNat_natCast, Nat.sub_self]
   rfl
  have hn : (G.fit (G.at (a.length : Int)) (k + 1) && (G.lvl k).any fun b => G.sg (G.at b) (G.at (a.length : Int))) = false := by
   have e1 := congrArg (fun l => l.any fun b => H.sg b c) e
   simp only [← lv_eq, List.any_map] at e1
   rw [hat, w.sg]
   have e2 : ((G.lvl k).any fun b => H.sg (G.at b) c) = false := by
    refine e1.trans ?_
    rw [← lv_eq, List.any_map] at hc
    exact hc
   rw [e2, Bool.and_false]
  rw [House.lvl, House.lvl, h1, h2, List.filter_append, List.filter_cons, hn, List.filter_append, List.map_append]
  rw [h2] at hm
  rw [filter_up (q := fun i => H.fit (H.at i) (k + 1) && (H.lvl k).any fun c => H.sg (H.at c) (H.at i)) fun i hi => hm i (List.mem_append.2 (.inl hi)), filter_up (q := fun i => H.fit (H.at i) (k + 1) && (H.lvl k).any fun c => H.sg (H.at c) (H.at i)) fun i hi => hm i (List.mem_append.2 (.inr hi))]
  rfl
theorem fresh_up {n : Nat} {s l : List Int} : fresh (s.map (up n)) (l.map (up n)) = (fresh s l).map (up n) := by
 induction l generalizing s with
 | nil => rfl
 | cons a l ih =>
  rw [List.map_cons, fresh, fresh]
  by_cases h : a ∈ s
  ·rw [if_pos h, if_pos (List.mem_map.2 ⟨a, h, rfl⟩), ih]
  ·rw [if_neg h, if_neg fun h1 => by
    obtain ⟨b, hb, e⟩ := List.mem_map.1 h1
    exact h (up_inj e ▸ hb), ← List.map_cons, ih, List.map_cons]
theorem flat_congr {β γ : Type} {f g : β → List γ} {l : List β} (h : ∀ x ∈ l, f x = g x) : l.flatMap f = l.flatMap g := by
 induction l with
 | nil => rfl
 | cons a l ih => rw [List.flatMap_cons, List.flatMap_cons, h a (by simp), ih fun x hx => h x (by simp [hx])]
theorem reach_other (w : Like G H) {c : α} {a b : List α} (hG : G.pool = a ++ c :: b) (hH : H.pool = a ++ b) (hs : ∀ x ∈ H.reach, H.sg x c = false) : G.reach = H.reach := by
 have h1 : (List.range 8).flatMap G.lvl = ((List.range 8).flatMap H.lvl).map (up a.length) := by
  rw [List.map_flatMap]
  refine flat_congr fun k hk => ?_
  exact lvl_other w hG hH hs k (List.mem_range.1 hk)
 have h2 : G.reachI = H.reachI.map (up a.length) := by
  unfold House.reachI
  rw [h1, ← fresh_up]
  rfl
 unfold House.reach
 rw [h2, w.leaf, List.map_map]
 congr 1
 refine List.map_congr_left fun i hi => ?_
 obtain ⟨hn, k, _, hk⟩ := (mem_reachI H).1 hi
 have := lvl_range H hk hn
 exact at_other w hG hH (by omega)
end
end Go.Proofs.YtchaahnhpeoomaaGreat.Chn
namespace Go.Proofs.YtchaahnhpeoomaaGreat.Chn
set_option linter.unusedVariables false
set_option linter.unusedSimpArgs false
set_option maxRecDepth 20000
section
variable {α : Type} {H : House α}
theorem fresh_all {s l : List Int} (h : l.Nodup) (hs : ∀ i ∈ l, i ∉ s) : fresh s l = l := by
 induction l generalizing s with
 | nil => rfl
 | cons a l ih =>
  rw [List.nodup_cons] at h
  rw [fresh, if_neg (hs a (by simp)), ih h.2]
  intro i hi h1
  rcases List.mem_cons.1 h1 with rfl | h1
  ·exact h.1 hi
  ·exact hs i (by simp [hi]) h1
theorem flat_ones {β : Type} {c : Nat → β} {m : Nat} : ∀ q, ((List.range q).flatMap fun k => if k < m then [c k] else []) = (List.range (min q m)).map c := by
 intro q
 induction q with
 | zero => simp
 | succ q ih =>
  rw [List.range_succ, List.flatMap_append, ih, List.flatMap_cons, List.flatMap_nil, List.append_nil]
  by_cases h : q < m
  ·rw [if_pos h, Nat.min_eq_left (by omega), Nat.min_eq_left (by omega), List.range_succ, List.map_append]
   rfl
  ·rw [if_neg h, List.append_nil, Nat.min_eq_right (by omega), Nat.min_eq_right (by omega)]
theorem nodup_of_map {β γ : Type} (f : β → γ) {l : List β} (h : (l.map f).Nodup) : l.Nodup :=
 (List.pairwise_map.1 h).imp fun {a b} h e => h (congrArg f e)
theorem reach_ones {c : Nat → α} {m : Nat} (hm : 0 < m) (hl : ∀ k, k < 8 → H.lv k = if k < m then [c k] else []) (inj : ∀ i j, i < m → j < m → c i = c j → i = j) : H.reach = (List.range (min 8 m)).map c := by
 have hfm : ((List.range 8).flatMap H.lvl).map H.at = (List.range (min 8 m)).map c := by
  rw [List.map_flatMap, ← flat_ones]
  refine flat_congr fun k hk => ?_
  rw [lv_eq]
  exact hl k (List.mem_range.1 hk)
 have hnd : ((List.range 8).flatMap H.lvl).Nodup := by
  refine nodup_of_map H.at ?_
  rw [hfm]
  refine List.pairwise_map.2 (List.Pairwise.imp_of_mem ?_ (List.nodup_range (n := min 8 m)))
  intro a b ha hb h e
  have := List.mem_range.1 ha
  have := List.mem_range.1 hb
  exact h (inj a b (by omega) (by omega) e)
 have h8 : (List.range 8).flatMap H.lvl = -1 :: ((List.range 7).map Nat.succ).flatMap H.lvl := by
  rw [show 8 = 7 + 1 from rfl, List.range_succ_eq_map, List.flatMap_cons]
  rfl
 have hI : H.reachI = ((List.range 7).map Nat.succ).flatMap H.lvl := by
  unfold House.reachI
  rw [h8] at hnd ⊢
  rw [List.nodup_cons] at hnd
  rw [fresh, if_pos (by simp)]
  refine fresh_all hnd.2 fun i hi h1 => ?_
  have h2 : i = -1 := by simpa using h1
  exact hnd.1 (h2 ▸ hi)
 unfold House.reach
 rw [hI, ← hfm, h8, List.map_cons, at_neg]
theorem last_ones {c : Nat → α} {m : Nat} (hl : ∀ k, k < 8 → H.lv k = if k < m then [c k] else []) {tr : α → Bool} {k : Nat} (hk : k < 8) : ((H.lvl k).any fun i => tr (H.at i)) = (decide (k < m) && tr (c k)) := by
 have e : ((H.lvl k).any fun i => tr (H.at i)) = (H.lv k).any tr := by
  rw [← lv_eq, List.any_map]
  rfl
 rw [e, hl k hk]
 split
 ·rename_i h
  rw [decide_eq_true h]
  simp
 ·rename_i h
  rw [decide_eq_false h]
  rfl
theorem find_ones {c : Nat → α} {m j : Nat} (hl : ∀ k, k < 8 → H.lv k = if k < m then [c k] else []) {tr : α → Bool} (hj : j < 8) (hm : j < m) (ht : tr (c j) = true) (hf : ∀ i, i < j → tr (c i) = false) : H.find tr = some ((List.range (j + 1)).map c) := by
 have h1 : H.last tr = some j := by
  unfold House.last
  rw [List.find?_range_eq_some]
  refine ⟨by rw [last_ones hl hj, decide_eq_true hm, ht]; rfl, List.mem_range.2 hj, fun k hk => ?_⟩
  rw [last_ones hl (by omega), hf k hk, Bool.and_false]
  rfl
 cases h : H.find tr with
 | none =>
  unfold House.find at h
  rw [h1] at h
  exact absurd h (by simp)
 | some r =>
  obtain ⟨l, L, h2, _, rfl, hL, _, hi, _⟩ := find_spec H h
  have e : l = j := by rw [h1] at h2; exact (Option.some.inj h2).symm
  subst e
  congr 1
  apply List.ext_getElem?
  intro i
  rw [List.getElem?_map, List.getElem?_map]
  by_cases hil : i < l + 1
  ·have hp := List.getElem?_eq_getElem (show i < L.length by omega)
   have hm2 := (hi i _ hp).1
   have h3 : H.at L[i] ∈ H.lv i := by
    rw [← lv_eq]
    exact List.mem_map.2 ⟨_, hm2, rfl⟩
   rw [hl i (by omega), if_pos (by omega), List.mem_singleton] at h3
   rw [hp, Option.map_some, List.getElem?_range hil, Option.map_some, h3]
  ·rw [List.getElem?_eq_none (by omega), List.getElem?_eq_none (by simpa using hil), Option.map_none, Option.map_none]
theorem find_ones_none {c : Nat → α} {m : Nat} (hl : ∀ k, k < 8 → H.lv k = if k < m then [c k] else []) {tr : α → Bool} (hf : ∀ i, i < 8 → i < m → tr (c i) = false) : H.find tr = none := by
 have h1 : H.last tr = none := by
  unfold House.last
  rw [List.find?_eq_none]
  intro k hk
  rw [last_ones hl (List.mem_range.1 hk)]
  by_cases h : k < m
  ·rw [hf k (List.mem_range.1 hk) h, Bool.and_false]
   simp
  ·rw [decide_eq_false h]
   simp
 unfold House.find
 rw [h1]
 rfl
theorem lv_ladder {c : Nat → α} {n m : Nat} {ok : Nat → Bool} (h0 : H.leaf = c 0) (hp : H.pool.Perm ((List.range (n - 1)).map fun i => c (i + 1))) (inj : ∀ i j, i < n → j < n → c i = c j → i = j) (hs : ∀ i j, i < n → 0 < j → j < n → H.sg (c i) (c j) = (decide (j = i + 1) && ok j))
  (hm : m ≤ n) (hm0 : 0 < m) (hok : ∀ j, 0 < j → j < m → ok j = true ∧ H.fit (c j) j = true) (hno : m < n → ok m = false ∨ H.fit (c m) m = false) : ∀ k, H.lv k = if k < m then [c k] else [] := by
 have hnd : H.pool.Nodup := by
  refine hp.nodup_iff.2 (List.pairwise_map.2 (List.Pairwise.imp_of_mem ?_ (List.nodup_range (n := n - 1))))
  intro a b ha hb h e
  have := List.mem_range.1 ha
  have := List.mem_range.1 hb
  have := inj _ _ (by omega) (by omega) e
  omega
 intro k
 induction k with
 | zero => rw [House.lv, if_pos hm0, h0]
 | succ k ih =>
  have hmem : ∀ x, x ∈ H.lv (k + 1) ↔ x ∈ (if k + 1 < m then [c (k + 1)] else []) := by
   intro x
   rw [House.lv, List.mem_filter, hp.mem_iff, List.mem_map, ih]
   constructor
   ·rintro ⟨⟨j, hj, rfl⟩, h⟩
    have hj := List.mem_range.1 hj
    rw [Bool.and_eq_true, List.any_eq_true] at h
    obtain ⟨h1, b, hb, h2⟩ := h
    by_cases hk : k < m
    ·rw [if_pos hk, List.mem_singleton] at hb
     rw [hb, hs k (j + 1) (by omega) (by omega) (by omega), Bool.and_eq_true, decide_eq_true_iff] at h2
     have e : j = k := by omega
     subst e
     by_cases h3 : j + 1 < m
     ·rw [if_pos h3]
      simp
     ·have e2 : m = j + 1 := by omega
      rcases hno (by omega) with h4 | h4
      ·rw [e2, h2.2] at h4
       cases h4
      ·rw [e2, h1] at h4
       cases h4
    ·rw [if_neg hk] at hb
     cases hb
   ·intro h
    by_cases h3 : k + 1 < m
    ·rw [if_pos h3, List.mem_singleton] at h
     obtain ⟨h1, h2⟩ := hok (k + 1) (by omega) h3
     refine ⟨⟨k, List.mem_range.2 (by omega), h.symm⟩, ?_⟩
     rw [h, h2, if_pos (by omega), List.any_cons, hs k (k + 1) (by omega) (by omega) (by omega), decide_eq_true rfl, h1]
     rfl
    ·rw [if_neg h3] at h
     cases h
  have hn1 : (H.lv (k + 1)).Nodup := by
   rw [House.lv]
   exact hnd.filter _
  by_cases h3 : k + 1 < m
  ·rw [if_pos h3] at hmem ⊢
   exact List.perm_singleton.1 ((List.perm_ext_iff_of_nodup hn1 (by simp)).2 hmem)
  ·rw [if_neg h3] at hmem ⊢
   exact List.eq_nil_iff_forall_not_mem.2 fun x hx => by cases (hmem x).1 hx
end
end Go.Proofs.YtchaahnhpeoomaaGreat.Chn
