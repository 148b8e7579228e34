/-
  States and rows of the call's own side by side: what one of them suffers leaves the others.
-/
import Derived.Test.YtmbkehmgpcmicaaShaSt
import Derived.Maps.AppendAt
namespace Go.Proofs.Ytmbkehmgpcmicaa
set_option linter.unusedVariables false
set_option linter.unusedSimpArgs false
open Go.RowKit

theorem own_keep {w w' : World} {B : Nat} {e : TypeId} {s : Nat} {v : Value} {n : Nat} {xs : List Value} (h : w.ownsRow B e s v n xs) (hk : ∀ j, v.ownBlock = some j → w'.heap[j]? = w.heap[j]?) : w'.ownsRow B e s v n xs := by
  refine ⟨h.1, ?_⟩
  rcases h.2 with hn | ⟨g, cap, cur, rfl, hb, hgg, rest⟩
  · exact .inl hn
  · exact .inr ⟨g, cap, cur, rfl, hb, (hk g rfl).trans hgg, rest⟩
/-- States, and blocks that none of them touches. -/
def Fam (w : World) (B : Nat) (l : List (Nat × Value × List Nat)) (R : List (Option Nat)) : Prop :=
  Sts w B l ∧ (∀ (i k : Nat), R[i]? = some (some k) → B ≤ k ∧ k < w.heap.size ∧ ∀ (j : Nat) (s : Nat × Value × List Nat), l[j]? = some s → k ≠ s.1 ∧ s.2.1.ownBlock ≠ some k) ∧ ∀ (i j k : Nat), R[i]? = some (some k) → R[j]? = some (some k) → i = j
/-- The blocks are as they were. -/
def Same (w w' : World) (R : List (Option Nat)) : Prop := ∀ (i k : Nat), R[i]? = some (some k) → w'.heap[k]? = w.heap[k]?
section
variable {w w' : World} {B : Nat} {l : List (Nat × Value × List Nat)} {R : List (Option Nat)}
theorem Fam.sts (h : Fam w B l R) : Sts w B l := h.1
theorem Fam.same_below (h : Fam w B l R) (hb : Below w.heap.size w w') : Same w w' R := fun i k hk => hb.block k (h.2.1 i k hk).2.1
theorem Fam.below (h : Fam w B l R) (hb : Below w.heap.size w w') : Fam w' B l R :=
  ⟨h.1.below hb, fun i k hk => ⟨(h.2.1 i k hk).1, Nat.lt_of_lt_of_le (h.2.1 i k hk).2.1 hb.size, (h.2.1 i k hk).2.2⟩, h.2.2⟩
theorem Fam.of_sts (h : Sts w B l) : Fam w B l [] := ⟨h, fun i k hk => by simp at hk, fun i j k hk => by simp at hk⟩
theorem get_add {α : Type} {l : List α} {x s : α} {i : Nat} (hs : (l ++ [x])[i]? = some s) : (i < l.length ∧ l[i]? = some s) ∨ (i = l.length ∧ s = x) := by
  rcases Nat.lt_or_ge i l.length with hlt | hge
  · rw [List.getElem?_append_left hlt] at hs
    exact .inl ⟨hlt, hs⟩
  · rw [List.getElem?_append_right hge] at hs
    rcases Nat.eq_zero_or_pos (i - l.length) with h0 | h0
    · rw [h0] at hs
      simp at hs
      exact .inr ⟨by omega, hs.symm⟩
    · rw [List.getElem?_eq_none (by simp; omega)] at hs
      cases hs
theorem get_set {α : Type} {l : List α} {x s : α} {i a : Nat} (hil : i < l.length) (hs : (l.set i x)[a]? = some s) : (a = i ∧ s = x) ∨ (a ≠ i ∧ l[a]? = some s) := by
  by_cases e : i = a
  · subst e
    rw [List.getElem?_set_self hil] at hs
    injection hs with hs
    exact .inl ⟨rfl, hs.symm⟩
  · rw [List.getElem?_set_ne e] at hs
    exact .inr ⟨fun h => e h.symm, hs⟩
/-- A block more, or none. -/
theorem Fam.guard (h : Fam w B l R) (r : Option Nat) (hr : ∀ k, r = some k → w.heap.size ≤ k ∧ k < w'.heap.size) (hb : Below w.heap.size w w') (hB : B ≤ w.heap.size) : Fam w' B l (R ++ [r]) := by
  refine ⟨h.1.below hb, fun i k hk => ?_, fun i j k hi hj => ?_⟩
  · rcases get_add hk with ⟨_, h1⟩ | ⟨_, h1⟩
    · exact (h.below hb).2.1 i k h1
    · obtain ⟨h2, h3⟩ := hr k h1.symm
      refine ⟨Nat.le_trans hB h2, h3, fun j s hs => ⟨fun e => ?_, fun e => ?_⟩⟩
      · have := StN.lt (h.1.1 j s hs).1
        omega
      · have := StN.own_lt (h.1.1 j s hs).1 k e
        omega
  · rcases get_add hi with ⟨_, h1⟩ | ⟨hi, h1⟩
    · rcases get_add hj with ⟨_, h2⟩ | ⟨_, h2⟩
      · exact h.2.2 i j k h1 h2
      · have := (hr k h2.symm).1
        have := (h.2.1 i k h1).2.1
        omega
    · rcases get_add hj with ⟨_, h2⟩ | ⟨hj, h2⟩
      · have := (hr k h1.symm).1
        have := (h.2.1 j k h2).2.1
        omega
      · omega
/-- A row has grown. -/
theorem Fam.append {i : Nat} {r r' : Option Nat} (h : Fam w B l R) (hi : R[i]? = some r) (hg : w.grownBy w' r) (hr : r' = r ∨ r' = some w.heap.size) (hlt : ∀ k, r' = some k → k < w'.heap.size) (hB : B ≤ w.heap.size) :
    Fam w' B l (R.set i r') ∧ (∀ (j k : Nat), j ≠ i → R[j]? = some (some k) → w'.heap[k]? = w.heap[k]?) := by
  have hil : i < R.length := (List.getElem?_eq_some_iff.1 hi).1
  have hst : ∀ (j : Nat) (s : Nat × Value × List Nat), l[j]? = some s → r ≠ some s.1 ∧ ∀ k, s.2.1.ownBlock = some k → r ≠ some k := by
    intro j s hs
    refine ⟨fun e => ?_, fun k hk e => ?_⟩
    · have := ((h.2.1 i s.1 (by rw [hi, e])).2.2 j s hs).1
      exact this rfl
    · exact ((h.2.1 i k (by rw [hi, e])).2.2 j s hs).2 hk
  refine ⟨⟨⟨fun j s hs => ⟨?_, (h.1.1 j s hs).2⟩, h.1.2⟩, fun j k hk => ?_, fun a b k ha hb => ?_⟩, fun j k hj hk => ?_⟩
  · obtain ⟨h1, h2⟩ := hst j s hs
    have h3 := (h.1.1 j s hs).1
    exact StN.keep h3 hg.size (hg.block _ (StN.lt h3) (fun e => h1 e.symm)) fun k hk => hg.block _ (StN.own_lt h3 k hk) (fun e => h2 k hk e.symm)
  · rcases get_set hil hk with ⟨_, h1⟩ | ⟨_, h1⟩
    · rcases hr with hr | hr
      · have h2 := h.2.1 i k (by rw [hi, ← hr, h1])
        exact ⟨h2.1, hlt k h1.symm, h2.2.2⟩
      · have h2 : w.heap.size = k := by
          rw [hr] at h1
          injection h1 with h1
          exact h1.symm
        refine ⟨by omega, hlt k h1.symm, fun a s hs => ⟨fun e => ?_, fun e => ?_⟩⟩
        · have := StN.lt (h.1.1 a s hs).1
          omega
        · have := StN.own_lt (h.1.1 a s hs).1 k e
          omega
    · have h2 := h.2.1 j k h1
      exact ⟨h2.1, Nat.lt_of_lt_of_le h2.2.1 hg.size, h2.2.2⟩
  · rcases get_set hil ha with ⟨ha, h1⟩ | ⟨ha, h1⟩
    · rcases get_set hil hb with ⟨hb, h2⟩ | ⟨hb, h2⟩
      · omega
      · rcases hr with hr | hr
        · exact absurd (h.2.2 b i k h2 (by rw [hi, ← hr, h1])) hb
        · have h3 : w.heap.size = k := by
            rw [hr] at h1
            injection h1 with h1
            exact h1.symm
          have := (h.2.1 b k h2).2.1
          omega
    · rcases get_set hil hb with ⟨hb, h2⟩ | ⟨hb, h2⟩
      · rcases hr with hr | hr
        · exact absurd (h.2.2 a i k h1 (by rw [hi, ← hr, h2])) ha
        · have h3 : w.heap.size = k := by
            rw [hr] at h2
            injection h2 with h2
            exact h2.symm
          have := (h.2.1 a k h1).2.1
          omega
      · exact h.2.2 a b k h1 h2
  · refine hg.block k (h.2.1 j k hk).2.1 fun e => ?_
    exact hj (h.2.2 j i k hk (by rw [hi, ← e]))
/-- Something has been done with one state. -/
theorem Fam.write {i g : Nat} {v v' : Value} {m m' : List Nat} (h : Fam w B l R) (hi : l[i]? = some (g, v, m)) (hM : St w' g v' m') (hbut : But w w' (fun k => k = g ∨ v.ownBlock = some k))
    (hv : ∀ j, v'.ownBlock = some j → w.heap.size ≤ j) (hB : B ≤ w.heap.size) : Fam w' B (l.set i (g, v', m')) R ∧ Same w w' R := by
  have hil : i < l.length := (List.getElem?_eq_some_iff.1 hi).1
  refine ⟨⟨h.1.write hi hM hbut hv hB, fun a k hk => ?_, h.2.2⟩, fun a k hk => ?_⟩
  · obtain ⟨h1, h2, h3⟩ := h.2.1 a k hk
    refine ⟨h1, Nat.lt_of_lt_of_le h2 hbut.size, fun j s hs => ?_⟩
    rcases get_set hil hs with ⟨_, rfl⟩ | ⟨_, h4⟩
    · refine ⟨(h3 i _ hi).1, fun e => ?_⟩
      have := hv k e
      omega
    · exact h3 j s h4
  · obtain ⟨h1, h2, h3⟩ := h.2.1 a k hk
    refine hbut.2.2.2.2 k h2 ?_
    rintro (e | e)
    · exact (h3 i _ hi).1 e
    · exact (h3 i _ hi).2 e
theorem Fam.sum {i g : Nat} {v : Value} {m : List Nat} (h : Fam w B l R) (hi : l[i]? = some (g, v, m)) (hM : St w' g v m) (hg : w.grownBy w' (some g)) : Fam w' B l R ∧ Same w w' R := by
  refine ⟨⟨h.1.sum hi hM hg, fun a k hk => ?_, h.2.2⟩, fun a k hk => ?_⟩
  · obtain ⟨h1, h2, h3⟩ := h.2.1 a k hk
    exact ⟨h1, Nat.lt_of_lt_of_le h2 hg.size, h3⟩
  · obtain ⟨h1, h2, h3⟩ := h.2.1 a k hk
    exact hg.block k h2 (fun e => (h3 i _ hi).1 (by injection e))
end
def FamWrite (B : Nat) (l : List (Nat × Value × List Nat)) (R : List (Option Nat)) (i g : Nat) (m : List Nat) (w : World) (e : Ending) (w' : World) : Prop :=
  e = .returned (.tuple #[]) ∧ ∃ v, Fam w' B (l.set i (g, v, m)) R ∧ Same w w' R ∧ Below B w w'
theorem fam_write {w : World} {B i g : Nat} {l : List (Nat × Value × List Nat)} {R : List (Option Nat)} {v : Value} {m : List Nat} (h : Fam w B l R) (hi : l[i]? = some (g, v, m)) (hB : B ≤ w.heap.size) (A : Option Addr) (n c : Nat) (b : List Nat) (hn : n = b.length)
    (hb : Rd .u8 w A b) (lb : Lim 256 b) (ho : Off A b g) (hm : m.length + n ≤ 2199023255552) :
    Calls Try.prog 20 #[.pointer (some ⟨g, 0, none⟩), .slice A n c] w (FamWrite B l R i g (m ++ b) w) := by
  refine (write_any g v A n c m b m.length w (h.1.st hi) hn hb lb ho hm).mono ?_
  rintro e w1 ⟨rfl, v1, hM, hbut, hv⟩
  have hM2 : St w1 g v1 (m ++ b) := .inl (by rw [List.length_append, ← hn]; exact hM)
  obtain ⟨h1, h2⟩ := h.write hi hM2 hbut hv hB
  refine ⟨rfl, v1, h1, h2, ?_⟩
  exact But.below (Below.refl B w) hbut hB (by
      rintro k (rfl | hk)
      · exact h.1.base hi
      · exact (h.1.1 i _ hi).2.2 k hk)
def FamSum (B : Nat) (l : List (Nat × Value × List Nat)) (R : List (Option Nat)) (m : List Nat) (w : World) (e : Ending) (w' : World) : Prop :=
  e = .returned (.agg (ints .u8 (digest m)).toArray) ∧ Fam w' B l R ∧ Same w w' R ∧ Below B w w'
theorem fam_sum {w : World} {B i g : Nat} {l : List (Nat × Value × List Nat)} {R : List (Option Nat)} {v : Value} {m : List Nat} (h : Fam w B l R) (hi : l[i]? = some (g, v, m)) (hB : B ≤ w.heap.size) (hm : m.length ≤ 1099511627776) :
    Calls Try.prog 18 #[.pointer (some ⟨g, 0, none⟩)] w (FamSum B l R m w) := by
  refine (stateSum_any g v m w (h.1.st hi) hm).mono ?_
  rintro e w1 ⟨rfl, hM, hg⟩
  obtain ⟨h1, h2⟩ := h.sum hi (.inl hM) hg
  exact ⟨rfl, h1, h2, below_only (Below.refl B w) hg hB (h.1.base hi)⟩

section
variable {P : Program} {w : World}
theorem run_append_block (B : Nat) (t ty e : TypeId) (k : IntKind) (bytes : Nat) (ht : P.underlying t = some (.slice e)) (hinfo : (P.info? e).map (fun i => (i.zero, i.size, i.bytes)) = some (some (.int k 0), 1, bytes))
    (v : Value) (n : Nat) (xs : List Nat) (hown : w.ownsRow B e 1 v n (ints k xs)) (A : Option Addr) (m c : Nat) (ys : List Nat) (hm : m = ys.length) (hr : Rd k w A ys)
    (h63 : n + m ≤ maxLen) (hbytes : (n + m) * bytes ≤ 140737488355328) (hbase : B ≤ w.heap.size) {v' : Value} {w' : World} (hrun : (Builtin.append_ #[t, t] ty #[v, .slice A m c]).run P w = .ok v' w') :
    v'.ownBlock = v.ownBlock ∨ v'.ownBlock = some w.heap.size := by
  obtain ⟨i, hi, hzz⟩ := Option.map_eq_some_iff.1 hinfo
  simp only [Prod.mk.injEq] at hzz
  obtain ⟨hz, hs, hb⟩ := hzz
  rcases A with _ | ad
  · have h0 : ys = [] := by
      rcases hr with h | ⟨b, off, h, _⟩
      · exact h
      · cases h
    subst h0
    subst hm
    rcases hown.2 with ⟨rfl, rfl⟩ | ⟨g, cap, cur, rfl, _, _, hnc, _⟩
    · simp [Builtin.append_, run_underlying ht, sizeOf, typeInfo, hi, Builtin.lenOf, Builtin.firstCells] at hrun
      exact .inl (by rw [hrun.1])
    · simp [Builtin.append_, run_underlying ht, sizeOf, typeInfo, hi, Builtin.lenOf, Builtin.firstCells, hnc, storeCells] at hrun
      exact .inl (by rw [← hrun.1])
  · rcases Nat.eq_zero_or_pos ys.length with h0 | hp
    · obtain rfl : ys = [] := List.eq_nil_of_length_eq_zero h0
      subst hm
      obtain ⟨v2, w2, hrun2, _, _, _, h5⟩ := run_append_own_at (P := P) w B t ty e i _ 1 bytes ht hi hz hs hb rfl (by omega) v n _ hown ad 0 c [] (by simp) (by simp) (by simp) h63 hbytes hbase
      have h6 := hrun.symm.trans hrun2
      injection h6 with h7
      rw [h7]
      exact h5
    · obtain ⟨ad', he, hcells⟩ := rd_cells hr hp
      injection he with he
      subst he
      obtain ⟨v2, w2, hrun2, _, _, _, h5⟩ := run_append_own_at (P := P) w B t ty e i _ 1 bytes ht hi hz hs hb rfl (by omega) v n _ hown ad m c (ints k ys) (by rw [ints_length]; omega) hcells (ints_one k ys) h63 hbytes hbase
      have h6 := hrun.symm.trans hrun2
      injection h6 with h7
      rw [h7]
      exact h5
/-- append onto a row of the call's own: where the new row lies is told, too. -/
theorem wpList_append_ints3 (w : World) {ops : Array Oper} {rest : List Oper} {o : Oper} {a : Act} {Q : Exit → Act → World → Prop} (hgd : o.guard = none) (s x : Operand) (t : TypeId)
    (ho : o.op = .call { callee := .builtin .append, args := #[s, x], argTypes := #[t, t] })
    (B : Nat) (e : TypeId) (k : IntKind) (bytes : Nat) (ht : P.underlying t = some (.slice e)) (hinfo : (P.info? e).map (fun i => (i.zero, i.size, i.bytes)) = some (some (.int k 0), 1, bytes))
    (v : Value) (n : Nat) (xs : List Nat) (hs : a.eval s = v) (hown : w.ownsRow B e 1 v n (ints k xs)) (A : Option Addr) (m c : Nat) (ys : List Nat) (hx : a.eval x = .slice A m c) (hm : m = ys.length) (hr : Rd k w A ys)
    (h63 : n + m ≤ maxLen) (hbytes : (n + m) * bytes ≤ 140737488355328) (hbase : B ≤ w.heap.size)
    (h : ∀ A' c' w', w'.ownsRow B e 1 (.slice A' (n + m) c') (n + m) (ints k (xs ++ ys)) → w.grownBy w' v.ownBlock → ((Value.slice A' (n + m) c').ownBlock = v.ownBlock ∨ (Value.slice A' (n + m) c').ownBlock = some w.heap.size) → wpList P ops Q rest (a.put o.dst (.slice A' (n + m) c')) w') : wpList P ops Q (o :: rest) a w := by
  refine wpList_plain hgd fun K hK => ?_
  obtain ⟨v', w', hrun, h2, h3, h4⟩ := run_append_ints (P := P) w B t o.type e k bytes ht hinfo v n xs hown A m c ys hm hr h63 hbytes hbase
  have h5 := run_append_block B t o.type e k bytes ht hinfo v n xs hown A m c ys hm hr h63 hbytes hbase hrun
  obtain ⟨A', c', rfl, -⟩ := Own.of_row h2
  unfold Oper.wp execOp
  simp only [ho, resolve, invoke, builtin, Sem.run_bind, Sem.run_pure, Result.andThen_ok, List.map_toArray, List.map_cons, List.map_nil, hs, hx, hrun]
  exact hK _ _ (h _ _ _ h2 h3 h5)
end
end Go.Proofs.Ytmbkehmgpcmicaa
