/-
 The same by what stands at a place: whom a row reaches hangs on who is in the pool, not on where. A pool told in another order, twice, or with one more.
-/
import Derived.Test.YtchaahnhpeoomaaGreatPChnP
namespace Go.Proofs.YtchaahnhpeoomaaGreat.Chn
set_option linter.unusedVariables false
set_option linter.unusedSimpArgs false
set_option maxRecDepth 20000
section
variable {α : Type} (H : House α)
def House.lv : Nat → List α
 | 0 => [H.leaf]
 | k + 1 => H.pool.filter fun c => H.fit c (k + 1) && (House.lv k).any fun b => H.sg b c
def House.gd (tr : α → Bool) (l : Nat) : Nat → List α
 | 0 => (H.lv l).filter tr
 | d + 1 => (H.lv (l - (d + 1))).filter fun c => (House.gd tr l d).any fun p => H.sg c p
def House.rw (tr : α → Bool) (l : Nat) : Nat → α → List α
 | 0, _ => []
 | d + 1, a => match (H.gd tr l d).find? fun p => H.sg a p with
  | some p => p :: House.rw tr l d p
  | none => []
theorem idx_at : H.idx.map H.at = H.pool := by
 apply List.ext_getElem?
 intro i
 unfold House.idx
 rw [List.map_map, List.getElem?_map]
 by_cases h : i < H.pool.length
 ·rw [List.getElem?_range h, Option.map_some, List.getElem?_eq_getElem h]
  unfold House.at
  rw [Function.comp, if_neg (by omega), Int.toNat_natCast, List.getElem?_eq_getElem h, Option.getD_some]
 ·rw [List.getElem?_eq_none (by simpa using h), List.getElem?_eq_none (by omega), Option.map_none]
theorem map_filter_at {l : List Int} {p : Int → Bool} {q : α → Bool} (h : ∀ i ∈ l, p i = q (H.at i)) : (l.filter p).map H.at = (l.map H.at).filter q := by
 induction l with
 | nil => rfl
 | cons a l ih =>
  have h1 := ih fun i hi => h i (by simp [hi])
  have h2 := h a (by simp)
  rw [List.map_cons, List.filter_cons, List.filter_cons, h2]
  split
  ·rw [List.map_cons, h1]
  ·exact h1
theorem lv_eq (k : Nat) : (H.lvl k).map H.at = H.lv k := by
 induction k with
 | zero => rw [House.lvl, House.lv, List.map_cons, at_neg, List.map_nil]
 | succ k ih =>
  rw [House.lvl, House.lv, map_filter_at H (q := fun c => H.fit c (k + 1) && (H.lv k).any fun b => H.sg b c) fun i _ => by rw [← ih, List.any_map]; rfl, idx_at]
theorem gd_eq (tr : α → Bool) (l d : Nat) : (H.good tr l d).map H.at = H.gd tr l d := by
 induction d with
 | zero => rw [House.good, House.gd, map_filter_at H (q := tr) fun i _ => rfl, lv_eq]
 | succ d ih => rw [House.good, House.gd, map_filter_at H (q := fun c => (H.gd tr l d).any fun p => H.sg c p) fun i _ => by rw [← ih, List.any_map]; rfl, lv_eq]
theorem rw_eq (tr : α → Bool) (l d : Nat) (a : Int) : (H.rowI tr l d a).map H.at = H.rw tr l d (H.at a) := by
 induction d generalizing a with
 | zero => rfl
 | succ d ih =>
  rw [House.rowI, House.rw, ← gd_eq, List.find?_map]
  have e : ((fun p => H.sg (H.at a) p) ∘ H.at) = fun p => H.sg (H.at a) (H.at p) := rfl
  rw [e]
  cases (H.good tr l d).find? fun p => H.sg (H.at a) (H.at p) with
  | none => rfl
  | some p => rw [Option.map_some, List.map_cons, ih]
theorem last_eq (tr : α → Bool) : H.last tr = (List.range 8).find? fun k => (H.lv k).any tr := by
 unfold House.last
 congr 1
 funext k
 rw [← lv_eq, List.any_map]
 rfl
theorem find_eq (tr : α → Bool) : H.find tr = (H.last tr).map fun l => H.leaf :: H.rw tr l l H.leaf := by
 unfold House.find
 congr 1
 funext l
 rw [rw_eq, at_neg]
def House.ever (c : α) : Bool := (List.range 7).any fun k => H.fit c (k + 1) && (H.lv k).any fun b => H.sg b c
theorem mem_reachI_ever {i : Int} : i ∈ H.reachI ↔ i ∈ H.idx.filter fun i => H.ever (H.at i) := by
 rw [mem_reachI, List.mem_filter]
 unfold House.ever
 rw [List.any_eq_true]
 constructor
 ·rintro ⟨h1, k, hk, h2⟩
  cases k with
  | zero => exact absurd (by simpa [House.lvl] using h2) h1
  | succ k =>
   rw [House.lvl, List.mem_filter] at h2
   refine ⟨h2.1, k, List.mem_range.2 (by omega), ?_⟩
   rw [← lv_eq, List.any_map]
   exact h2.2
 ·rintro ⟨h1, k, hk, h2⟩
  have hk' := List.mem_range.1 hk
  refine ⟨fun e => ?_, k + 1, by omega, ?_⟩
  ·have := (mem_idx H).1 h1
   omega
  ·rw [House.lvl, List.mem_filter]
   refine ⟨h1, ?_⟩
   rw [← lv_eq, List.any_map] at h2
   exact h2
theorem idx_nodup : H.idx.Nodup := by
 unfold House.idx
 refine List.pairwise_map.2 ((List.nodup_range (n := H.pool.length)).imp fun {a b} h e => h ?_)
 omega
theorem reach_count : H.reach.length = 1 + (H.pool.filter H.ever).length := by
 have h : H.reachI.length = (H.idx.filter fun i => H.ever (H.at i)).length := by
  refine List.Perm.length_eq ?_
  exact (List.perm_ext_iff_of_nodup fresh_nodup ((idx_nodup H).filter _)).2 fun i => mem_reachI_ever H
 unfold House.reach
 rw [List.length_cons, List.length_map, h, ← List.length_map (f := H.at), map_filter_at H (q := H.ever) fun i _ => rfl, idx_at]
 omega
theorem reach_ever {c : α} : c ∈ H.reach ↔ c = H.leaf ∨ (c ∈ H.pool ∧ H.ever c = true) := by
 unfold House.reach
 rw [List.mem_cons, List.mem_map]
 constructor
 ·rintro (h | ⟨i, hi, rfl⟩)
  ·exact .inl h
  ·rw [mem_reachI_ever, List.mem_filter] at hi
   refine .inr ⟨?_, hi.2⟩
   rw [← idx_at]
   exact List.mem_map.2 ⟨i, hi.1, rfl⟩
 ·rintro (h | ⟨h1, h2⟩)
  ·exact .inl h
  ·rw [← idx_at] at h1
   obtain ⟨i, hi, rfl⟩ := List.mem_map.1 h1
   exact .inr ⟨i, (mem_reachI_ever H).2 (List.mem_filter.2 ⟨hi, h2⟩), rfl⟩
variable {G : House α}
structure Like (G H : House α) : Prop where
 leaf : G.leaf = H.leaf
 sg : G.sg = H.sg
 fit : G.fit = H.fit
theorem any_like {a b : List α} {f : α → Bool} (h : ∀ c, c ∈ a ↔ c ∈ b) : a.any f = b.any f := by
 rw [Bool.eq_iff_iff, List.any_eq_true, List.any_eq_true]
 constructor
 ·rintro ⟨x, h1, h2⟩
  exact ⟨x, (h x).1 h1, h2⟩
 ·rintro ⟨x, h1, h2⟩
  exact ⟨x, (h x).2 h1, h2⟩
variable {H}
theorem lv_like (w : Like G H) (hp : ∀ c, c ∈ G.pool ↔ c ∈ H.pool) (k : Nat) : ∀ c, c ∈ G.lv k ↔ c ∈ H.lv k := by
 induction k with
 | zero =>
  intro c
  rw [House.lv, House.lv, w.leaf]
 | succ k ih =>
  intro c
  rw [House.lv, House.lv, List.mem_filter, List.mem_filter, hp, w.fit, w.sg, any_like ih]
theorem ever_like (w : Like G H) (hp : ∀ c, c ∈ G.pool ↔ c ∈ H.pool) : G.ever = H.ever := by
 funext c
 unfold House.ever
 congr 1
 funext k
 rw [w.fit, w.sg, any_like (lv_like w hp k)]
theorem last_like (w : Like G H) (hp : ∀ c, c ∈ G.pool ↔ c ∈ H.pool) (tr : α → Bool) : G.last tr = H.last tr := by
 rw [last_eq, last_eq]
 congr 1
 funext k
 exact any_like (lv_like w hp k)
theorem find_len {tr : α → Bool} {r : List α} (h : H.find tr = some r) : ∃ l, H.last tr = some l ∧ r.length = l + 1 := by
 obtain ⟨l, L, hl, _, rfl, hL, _⟩ := find_spec H h
 exact ⟨l, hl, by rw [List.length_map, hL]⟩
theorem find_like (w : Like G H) (hp : ∀ c, c ∈ G.pool ↔ c ∈ H.pool) (tr : α → Bool) : (G.find tr).map List.length = (H.find tr).map List.length := by
 have h := last_like w hp tr
 cases h1 : G.find tr with
 | none =>
  cases h2 : H.find tr with
  | none => rfl
  | some b =>
   obtain ⟨l, hl, _⟩ := find_len h2
   unfold House.find at h1
   rw [h, hl] at h1
   exact absurd h1 (by simp)
 | some a =>
  obtain ⟨l, hl, ha⟩ := find_len h1
  cases h2 : H.find tr with
  | none =>
   unfold House.find at h2
   rw [← h, hl] at h2
   exact absurd h2 (by simp)
  | some b =>
   obtain ⟨m, hm, hb⟩ := find_len h2
   rw [h, hm] at hl
   have := Option.some.inj hl
   rw [Option.map_some, Option.map_some, ha, hb, this]
theorem reach_like (w : Like G H) (hp : ∀ c, c ∈ G.pool ↔ c ∈ H.pool) (c : α) : c ∈ G.reach ↔ c ∈ H.reach := by
 rw [reach_ever, reach_ever, w.leaf, hp, ever_like w hp]
theorem turned_reach (w : Like G H) (hp : G.pool.Perm H.pool) : G.reach.length = H.reach.length := by
 rw [reach_count, reach_count, ever_like w fun c => hp.mem_iff, (hp.filter _).length_eq]
theorem mem_twice (hp : G.pool = H.pool ++ H.pool) (c : α) : c ∈ G.pool ↔ c ∈ H.pool := by
 rw [hp, List.mem_append, or_self]
theorem twice_reach (w : Like G H) (hp : G.pool = H.pool ++ H.pool) : G.reach.length = 2 * H.reach.length - 1 := by
 rw [reach_count, reach_count, ever_like w (mem_twice hp), hp, List.filter_append, List.length_append]
 omega
theorem lv_twice (w : Like G H) (hp : G.pool = H.pool ++ H.pool) {k : Nat} (hk : 0 < k) : G.lv k = H.lv k ++ H.lv k := by
 cases k with
 | zero => omega
 | succ k =>
  rw [House.lv, House.lv, hp, w.fit, w.sg, List.filter_append]
  simp only [any_like (lv_like w (mem_twice hp) k)]
theorem gd_twice (w : Like G H) (hp : G.pool = H.pool ++ H.pool) (tr : α → Bool) {l : Nat} : ∀ d, d < l → G.gd tr l d = H.gd tr l d ++ H.gd tr l d := by
 intro d
 induction d with
 | zero =>
  intro h
  rw [House.gd, House.gd, lv_twice w hp h, List.filter_append]
 | succ d ih =>
  intro h
  rw [House.gd, House.gd, lv_twice w hp (by omega), List.filter_append, ih (by omega), w.sg]
  simp only [List.any_append, Bool.or_self]
theorem rw_twice (w : Like G H) (hp : G.pool = H.pool ++ H.pool) (tr : α → Bool) {l : Nat} : ∀ d a, d ≤ l → G.rw tr l d a = H.rw tr l d a := by
 intro d
 induction d with
 | zero => exact fun _ _ => rfl
 | succ d ih =>
  intro a h
  rw [House.rw, House.rw, gd_twice w hp tr d (by omega), List.find?_append, w.sg]
  cases (H.gd tr l d).find? fun p => H.sg a p with
  | none => rfl
  | some p =>
   show p :: G.rw tr l d p = p :: H.rw tr l d p
   rw [ih p (by omega)]
theorem find_twice (w : Like G H) (hp : G.pool = H.pool ++ H.pool) (tr : α → Bool) : G.find tr = H.find tr := by
 rw [find_eq, find_eq, last_like w (mem_twice hp), w.leaf]
 congr 1
 funext l
 rw [rw_twice w hp tr l _ (Nat.le_refl _)]
theorem lv_more (w : Like G H) (hp : ∀ c ∈ H.pool, c ∈ G.pool) (k : Nat) : ∀ c ∈ H.lv k, c ∈ G.lv k := by
 induction k with
 | zero =>
  intro c
  rw [House.lv, House.lv, w.leaf]
  exact id
 | succ k ih =>
  intro c
  rw [House.lv, House.lv, List.mem_filter, List.mem_filter, w.fit, w.sg, Bool.and_eq_true, Bool.and_eq_true, List.any_eq_true, List.any_eq_true]
  rintro ⟨h1, h2, b, hb, h3⟩
  exact ⟨hp c h1, h2, b, ih b hb, h3⟩
theorem ever_more (w : Like G H) (hp : ∀ c ∈ H.pool, c ∈ G.pool) {c : α} (h : H.ever c = true) : G.ever c = true := by
 unfold House.ever at h ⊢
 rw [List.any_eq_true] at h ⊢
 obtain ⟨k, hk, h1⟩ := h
 refine ⟨k, hk, ?_⟩
 rw [Bool.and_eq_true, List.any_eq_true] at h1 ⊢
 obtain ⟨h1, b, hb, h2⟩ := h1
 rw [w.fit, w.sg]
 exact ⟨h1, b, lv_more w hp k b hb, h2⟩
theorem last_more (w : Like G H) (hp : ∀ c ∈ H.pool, c ∈ G.pool) {tr ts : α → Bool} (ht : ∀ c, tr c = true → ts c = true) {l : Nat} (h : H.last tr = some l) : ∃ m, G.last ts = some m ∧ m ≤ l := by
 obtain ⟨h1, ⟨i, hi, h2⟩, _⟩ := last_some H h
 have h3 : (G.lv l).any ts = true := List.any_eq_true.2 ⟨H.at i, lv_more w hp l _ (by rw [← lv_eq]; exact List.mem_map.2 ⟨i, hi, rfl⟩), ht _ h2⟩
 cases hm : G.last ts with
 | none =>
  have := last_none G hm l h1
  rw [← lv_eq, List.any_map, List.any_eq_true] at h3
  obtain ⟨j, hj, h4⟩ := h3
  have h5 := this j hj
  rw [Function.comp, h5] at h4
  exact absurd h4 (by simp)
 | some m =>
  refine ⟨m, rfl, Nat.le_of_not_lt fun hl => ?_⟩
  rw [← lv_eq, List.any_map, List.any_eq_true] at h3
  obtain ⟨j, hj, h4⟩ := h3
  have h5 := (last_some G hm).2.2 l hl j hj
  rw [Function.comp, h5] at h4
  exact absurd h4 (by simp)
theorem find_more (w : Like G H) (hp : ∀ c ∈ H.pool, c ∈ G.pool) {tr ts : α → Bool} (ht : ∀ c, tr c = true → ts c = true) {r : List α} (h : H.find tr = some r) : ∃ s, G.find ts = some s ∧ s.length ≤ r.length := by
 obtain ⟨l, hl, hr⟩ := find_len h
 obtain ⟨m, hm, hml⟩ := last_more w hp ht hl
 have e : G.find ts = some (G.leaf :: (G.rowI ts m m (-1)).map G.at) := by unfold House.find; rw [hm]; rfl
 obtain ⟨m', hm', hs⟩ := find_len e
 rw [hm] at hm'
 have := Option.some.inj hm'
 exact ⟨_, e, by omega⟩
theorem filter_mono {p q : α → Bool} {l : List α} (h : ∀ c, p c = true → q c = true) : (l.filter p).length ≤ (l.filter q).length := by
 induction l with
 | nil => exact Nat.le_refl _
 | cons a l ih =>
  rw [List.filter_cons, List.filter_cons]
  cases hp : p a with
  | true => rw [if_pos rfl, if_pos (h a hp), List.length_cons, List.length_cons]; omega
  | false =>
   rw [if_neg (by simp)]
   split
   ·rw [List.length_cons]; omega
   ·exact ih
theorem more_reach (w : Like G H) {c : α} (hp : G.pool = H.pool ++ [c]) : H.reach.length ≤ G.reach.length := by
 rw [reach_count, reach_count, hp, List.filter_append, List.length_append]
 have := filter_mono (l := H.pool) fun c h => ever_more w (fun b hb => by rw [hp]; exact List.mem_append.2 (.inl hb)) (c := c) h
 omega
theorem lv_reach {k : Nat} (hk : k < 8) {c : α} (h : c ∈ H.lv k) : c ∈ H.reach := by
 rw [← lv_eq] at h
 obtain ⟨i, hi, rfl⟩ := List.mem_map.1 h
 exact (reach_mem H).2 ⟨k, hk, i, hi, rfl⟩
theorem lv_other (w : Like G H) {c : α} {a b : List α} (hG : G.pool = a ++ c :: b) (hH : H.pool = a ++ b) (hs : ∀ x ∈ H.reach, H.sg x c = false) : ∀ k, k < 8 → G.lv k = H.lv k := by
 intro k
 induction k with
 | zero =>
  intro _
  rw [House.lv, House.lv, w.leaf]
 | succ k ih =>
  intro hk
  have e := ih (by omega)
  have hc : ((H.lv k).any fun b => H.sg b c) = false := by
   rw [List.any_eq_false]
   intro x hx
   rw [hs x (lv_reach (by omega) hx)]
   simp
  rw [House.lv, House.lv, hG, hH, List.filter_append, List.filter_append, List.filter_cons, e, w.fit, w.sg]
  simp only [hc, Bool.and_false, Bool.false_eq_true, if_false]
theorem gd_other {k : Nat} (w : Like G H) (h : ∀ k, k < 8 → G.lv k = H.lv k) (tr : α → Bool) {l : Nat} (hl : l < 8) (d : Nat) : G.gd tr l d = H.gd tr l d := by
 induction d with
 | zero => rw [House.gd, House.gd, h l hl]
 | succ d ih => rw [House.gd, House.gd, h _ (by omega), ih, w.sg]
theorem find_congr {β : Type} {p q : β → Bool} {l : List β} (h : ∀ x ∈ l, p x = q x) : l.find? p = l.find? q := by
 induction l with
 | nil => rfl
 | cons a l ih =>
  rw [List.find?_cons, List.find?_cons, h a (by simp), ih fun x hx => h x (by simp [hx])]
theorem find_other (w : Like G H) (h : ∀ k, k < 8 → G.lv k = H.lv k) (tr : α → Bool) : G.find tr = H.find tr := by
 have hl : G.last tr = H.last tr := by
  rw [last_eq, last_eq]
  refine find_congr fun k hk => ?_
  rw [h k (List.mem_range.1 hk)]
 rw [find_eq, find_eq, hl, w.leaf]
 cases hm : H.last tr with
 | none => rfl
 | some l =>
  have hl8 := (last_some H hm).1
  have : ∀ d a, G.rw tr l d a = H.rw tr l d a := by
   intro d
   induction d with
   | zero => exact fun _ => rfl
   | succ d ih =>
    intro a
    rw [House.rw, House.rw, gd_other (k := 0) w h tr hl8, w.sg]
    cases (H.gd tr l d).find? fun p => H.sg a p with
    | none => rfl
    | some p =>
     show p :: G.rw tr l d p = p :: H.rw tr l d p
     rw [ih]
  rw [Option.map_some, Option.map_some, this]
def up (n : Nat) (i : Int) : Int := if i < n then i else i + 1
theorem up_inj {n : Nat} {i j : Int} (h : up n i = up n j) : i = j := by
 unfold up at h
 split at h <;> split at h <;> omega
theorem range_map {m : Nat} (f : Nat → Int) (n k : Nat) (h : m = n + (1 + k)) : (List.range m).map f = (List.range n).map f ++ f n :: (List.range k).map fun i => f (n + (1 + i)) := by
 rw [h, List.range_add, List.map_append, List.range_add, List.map_append, List.map_append, List.map_map, List.map_map, List.map_map]
 rfl
theorem idx_other {c : α} {a b : List α} (hG : G.pool = a ++ c :: b) (hH : H.pool = a ++ b) : ∃ s t, G.idx = s.map (up a.length) ++ (a.length : Int) :: t.map (up a.length) ∧ H.idx = s ++ t := by
 refine ⟨(List.range a.length).map fun (i : Nat) => (i : Int), (List.range b.length).map fun (i : Nat) => ((a.length + i : Nat) : Int), ?_, ?_⟩
 ·unfold House.idx
  rw [hG, range_map _ a.length b.length (by rw [List.length_append, List.length_cons]; omega), List.map_map, List.map_map]
  congr 1
  ·refine List.map_congr_left fun i hi => ?_
   have := List.mem_range.1 hi
   show (i : Int) = up a.length (i : Int)
   unfold up
   rw [if_pos (by omega)]
  ·congr 1
   refine List.map_congr_left fun i hi => ?_
   show ((a.length + (1 + i) : Nat) : Int) = up a.length ((a.length + i : Nat) : Int)
   unfold up
   rw [if_neg (by omega)]
   omega
 ·unfold House.idx
  rw [hH, List.length_append, List.range_add, List.map_append, List.map_map]
  rfl
theorem at_other (w : Like G H) {c : α} {a b : List α} (hG : G.pool = a ++ c :: b) (hH : H.pool = a ++ b) {i : Int} (hi : -1 ≤ i) : G.at (up a.length i) = H.at i := by
 unfold House.at up
 rw [hG, hH, w.leaf]
 by_cases h1 : i = -1
 ·rw [h1, if_pos (by omega), if_pos rfl]
 ·rw [if_neg h1]
  by_cases h2 : i < a.length
  ·rw [if_pos h2, if_neg h1, List.getElem?_append_left (by omega), List.getElem?_append_left (by omega)]
  ·rw [if_neg h2, if_neg (by omega), List.getElem?_append_right (by omega), List.getElem?_append_right (by omega), show (i + 1).toNat - a.length = (i.toNat - a.length) + 1 by omega, List.getElem?_cons_succ]
theorem filter_up {n : Nat} {p q : Int → Bool} {l : List Int} (h : ∀ i ∈ l, p (up n i) = q i) : (l.map (up n)).filter p = (l.filter q).map (up n) := by
 induction l with
 | nil => rfl
 | cons a l ih =>
  rw [List.map_cons, List.filter_cons, List.filter_cons, h a (by simp), ih fun i hi => h i (by simp [hi])]
  split <;> rfl
theorem lvl_other (w : Like G H) {c : α} {a b : List α} (hG : G.pool = a ++ c :: b) (hH : H.pool = a ++ b) (hs : ∀ x ∈ H.reach, H.sg x c = false) : ∀ k, k < 8 → G.lvl k = (H.lvl k).map (up a.length) := by
 intro k hk
 cases k with
 | zero =>
  rw [House.lvl, House.lvl, List.map_cons, List.map_nil]
  unfold up
  rw [if_pos (by omega)]
 | succ k =>
  have e := lv_other w hG hH hs k (by omega)
  obtain ⟨s, t, h1, h2⟩ := idx_other hG hH
  have hc : ((H.lv k).any fun b => H.sg b c) = false := by
   rw [List.any_eq_false]
   intro x hx
   rw [hs x (lv_reach (by omega) hx)]
   simp
  have hm : ∀ i ∈ H.idx, (G.fit (G.at (up a.length i)) (k + 1) && (G.lvl k).any fun c => G.sg (G.at c) (G.at (up a.length i))) = (H.fit (H.at i) (k + 1) && (H.lvl k).any fun c => H.sg (H.at c) (H.at i)) := by
   intro i hi
   have hr := (mem_idx H).1 hi
   rw [at_other w hG hH (by omega), w.fit, w.sg]
   congr 1
   have e1 := congrArg (fun l => l.any fun b => H.sg b (H.at i)) e
   simp only [← lv_eq, List.any_map] at e1
   exact e1
  have hat : G.at (a.length : Int) = c := by
   unfold House.at
   rw [if_neg (by omega), hG, List.getElem?_append_right (by omega), Int.toNat_natCast, Nat.sub_self]
   rfl
  have hn : (G.fit (G.at (a.length : Int)) (k + 1) && (G.lvl k).any fun b => G.sg (G.at b) (G.at (a.length : Int))) = false := by
   have e1 := congrArg (fun l => l.any fun b => H.sg b c) e
   simp only [← lv_eq, List.any_map] at e1
   rw [hat, w.sg]
   have e2 : ((G.lvl k).any fun b => H.sg (G.at b) c) = false := by
    refine e1.trans ?_
    rw [← lv_eq, List.any_map] at hc
    exact hc
   rw [e2, Bool.and_false]
  rw [House.lvl, House.lvl, h1, h2, List.filter_append, List.filter_cons, hn, List.filter_append, List.map_append]
  rw [h2] at hm
  rw [filter_up (q := fun i => H.fit (H.at i) (k + 1) && (H.lvl k).any fun c => H.sg (H.at c) (H.at i)) fun i hi => hm i (List.mem_append.2 (.inl hi)), filter_up (q := fun i => H.fit (H.at i) (k + 1) && (H.lvl k).any fun c => H.sg (H.at c) (H.at i)) fun i hi => hm i (List.mem_append.2 (.inr hi))]
  rfl
theorem fresh_up {n : Nat} {s l : List Int} : fresh (s.map (up n)) (l.map (up n)) = (fresh s l).map (up n) := by
 induction l generalizing s with
 | nil => rfl
 | cons a l ih =>
  rw [List.map_cons, fresh, fresh]
  by_cases h : a ∈ s
  ·rw [if_pos h, if_pos (List.mem_map.2 ⟨a, h, rfl⟩), ih]
  ·rw [if_neg h, if_neg fun h1 => by
    obtain ⟨b, hb, e⟩ := List.mem_map.1 h1
    exact h (up_inj e ▸ hb), ← List.map_cons, ih, List.map_cons]
theorem flat_congr {β γ : Type} {f g : β → List γ} {l : List β} (h : ∀ x ∈ l, f x = g x) : l.flatMap f = l.flatMap g := by
 induction l with
 | nil => rfl
 | cons a l ih => rw [List.flatMap_cons, List.flatMap_cons, h a (by simp), ih fun x hx => h x (by simp [hx])]
theorem reach_other (w : Like G H) {c : α} {a b : List α} (hG : G.pool = a ++ c :: b) (hH : H.pool = a ++ b) (hs : ∀ x ∈ H.reach, H.sg x c = false) : G.reach = H.reach := by
 have h1 : (List.range 8).flatMap G.lvl = ((List.range 8).flatMap H.lvl).map (up a.length) := by
  rw [List.map_flatMap]
  refine flat_congr fun k hk => ?_
  exact lvl_other w hG hH hs k (List.mem_range.1 hk)
 have h2 : G.reachI = H.reachI.map (up a.length) := by
  unfold House.reachI
  rw [h1, ← fresh_up]
  rfl
 unfold House.reach
 rw [h2, w.leaf, List.map_map]
 congr 1
 refine List.map_congr_left fun i hi => ?_
 obtain ⟨hn, k, _, hk⟩ := (mem_reachI H).1 hi
 have := lvl_range H hk hn
 exact at_other w hG hH (by omega)
end
end Go.Proofs.YtchaahnhpeoomaaGreat.Chn
