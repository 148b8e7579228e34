/-
  How the four states of ShaStates stand, and what each step leaves of it.
-/
import Derived.Test.YtmbkehmgpcmicaaShaFa
import Derived.Test.YtmbkehmgpcmicaaShaAl
namespace Go.Proofs.Ytmbkehmgpcmicaa
set_option linter.unusedVariables false
set_option linter.unusedSimpArgs false
open Go.RowKit

theorem Fam.drop {w : World} {B : Nat} {l : List (Nat × Value × List Nat)} {R : List (Option Nat)} {r : Option Nat} (h : Fam w B l (R ++ [r])) : Fam w B l R := by
  have hget : ∀ (i k : Nat), R[i]? = some (some k) → (R ++ [r])[i]? = some (some k) := fun i k hk => by rw [List.getElem?_append_left (List.getElem?_eq_some_iff.1 hk).1]; exact hk
  exact ⟨h.1, fun i k hk => h.2.1 i k (hget i k hk), fun i j k hi hj => h.2.2 i j k (hget i k hi) (hget j k hj)⟩
def RowIn (w : World) (B : Nat) (r : Option Addr × Nat × List Nat) : Prop := w.ownsRow B 5 1 (rowVal r) r.2.2.length (ints .u8 r.2.2) ∧ Lim 256 r.2.2
def Rws (r0 r1 r2 r3 : Option Addr × Nat × List Nat) (L H : Nat) : List (Option Nat) := [(rowVal r0).ownBlock, (rowVal r1).ownBlock, (rowVal r2).ownBlock, (rowVal r3).ownBlock, some L, some H]
/-- How the four states, what was written to them, and the two lists stand; X: what else is guarded. -/
def Inv (B g1 g2 g3 L H : Nat) (w : World) (v1 v2 v3 : Value) (m0 m1 m2 : List Nat) (r0 r1 r2 r3 : Option Addr × Nat × List Nat) (X : List (Option Nat)) : Prop :=
  Fam w B [(g1, v1, m0), (g2, v2, m1), (g3, v3, m2)] (Rws r0 r1 r2 r3 L H ++ X) ∧
  RowIn w B r0 ∧ RowIn w B r1 ∧ RowIn w B r2 ∧ RowIn w B r3 ∧
  Cut w L 0 [.pointer (some ⟨g1, 0, none⟩), .pointer (some ⟨g2, 0, none⟩), .pointer (some ⟨g3, 0, none⟩), .pointer none] ∧ Cut w H 0 [rowVal r0, rowVal r1, rowVal r2, rowVal r3]
section
variable {w w' : World} {B g1 g2 g3 L H : Nat} {v1 v2 v3 u1 u2 u3 : Value} {m0 m1 m2 k0 k1 k2 : List Nat} {r0 r1 r2 r3 : Option Addr × Nat × List Nat} {X : List (Option Nat)}
theorem Inv.keep (h : Inv B g1 g2 g3 L H w v1 v2 v3 m0 m1 m2 r0 r1 r2 r3 X) (hF : Fam w' B [(g1, u1, k0), (g2, u2, k1), (g3, u3, k2)] (Rws r0 r1 r2 r3 L H ++ X)) (hs : Same w w' (Rws r0 r1 r2 r3 L H ++ X)) (hz : w.heap.size ≤ w'.heap.size) :
    Inv B g1 g2 g3 L H w' u1 u2 u3 k0 k1 k2 r0 r1 r2 r3 X := by
  obtain ⟨_, h0, h1, h2, h3, hL, hH⟩ := h
  exact ⟨hF, ⟨own_keep h0.1 fun k hk => hs 0 k (by rw [← hk]; rfl), h0.2⟩, ⟨own_keep h1.1 fun k hk => hs 1 k (by rw [← hk]; rfl), h1.2⟩, ⟨own_keep h2.1 fun k hk => hs 2 k (by rw [← hk]; rfl), h2.2⟩,
    ⟨own_keep h3.1 fun k hk => hs 3 k (by rw [← hk]; rfl), h3.2⟩, hL.keep hz (hs 4 L rfl), hH.keep hz (hs 5 H rfl)⟩
theorem Inv.below (h : Inv B g1 g2 g3 L H w v1 v2 v3 m0 m1 m2 r0 r1 r2 r3 X) (hb : Below w.heap.size w w') : Inv B g1 g2 g3 L H w' v1 v2 v3 m0 m1 m2 r0 r1 r2 r3 X :=
  h.keep (h.1.below hb) (h.1.same_below hb) hb.size
theorem Inv.guard (h : Inv B g1 g2 g3 L H w v1 v2 v3 m0 m1 m2 r0 r1 r2 r3 X) (r : Option Nat) (hr : ∀ k, r = some k → w.heap.size ≤ k ∧ k < w'.heap.size) (hb : Below w.heap.size w w') (hB : B ≤ w.heap.size) :
    Inv B g1 g2 g3 L H w' v1 v2 v3 m0 m1 m2 r0 r1 r2 r3 (X ++ [r]) := by
  obtain ⟨hF, h1⟩ := h.below hb
  exact ⟨by rw [← List.append_assoc]; exact h.1.guard r hr hb hB, h1⟩
theorem Inv.drop {r : Option Nat} (h : Inv B g1 g2 g3 L H w v1 v2 v3 m0 m1 m2 r0 r1 r2 r3 (X ++ [r])) : Inv B g1 g2 g3 L H w v1 v2 v3 m0 m1 m2 r0 r1 r2 r3 X := by
  obtain ⟨hF, h1⟩ := h
  rw [← List.append_assoc] at hF
  exact ⟨hF.drop, h1⟩
/-- What is guarded beside has turned. -/
theorem Inv.touch {r : Option Nat} (h : Inv B g1 g2 g3 L H w v1 v2 v3 m0 m1 m2 r0 r1 r2 r3 [r]) (hg : w.grownBy w' r) (hB : B ≤ w.heap.size) : Inv B g1 g2 g3 L H w' v1 v2 v3 m0 m1 m2 r0 r1 r2 r3 [r] := by
  have hlt : ∀ k, r = some k → k < w'.heap.size := fun k hk => Nat.lt_of_lt_of_le (h.1.2.1 6 k (by rw [← hk]; rfl)).2.1 hg.size
  obtain ⟨hF, hk⟩ := h.1.append (i := 6) (r := r) (r' := r) rfl hg (.inl rfl) hlt hB
  obtain ⟨_, h0, h1, h2, h3, hL, hH⟩ := h
  exact ⟨hF, ⟨own_keep h0.1 fun k e => hk 0 k (by omega) (by rw [← e]; rfl), h0.2⟩, ⟨own_keep h1.1 fun k e => hk 1 k (by omega) (by rw [← e]; rfl), h1.2⟩, ⟨own_keep h2.1 fun k e => hk 2 k (by omega) (by rw [← e]; rfl), h2.2⟩,
    ⟨own_keep h3.1 fun k e => hk 3 k (by omega) (by rw [← e]; rfl), h3.2⟩, hL.keep hg.size (hk 4 L (by omega) rfl), hH.keep hg.size (hk 5 H (by omega) rfl)⟩
end
theorem off_own {w : World} {B p : Nat} {e : TypeId} {A : Option Addr} {c g : Nat} {m : List Nat} (h : w.ownsRow B e 1 (.slice A p c) p (ints .u8 m)) (hg : ∀ k, (Value.slice A p c).ownBlock = some k → k ≠ g) : Off A m g := by
  rcases h.2 with ⟨he, _⟩ | ⟨b, cap, cur, he, _⟩
  · injection he with he
    subst he
    exact .inr fun ad h => by cases h
  · injection he with he
    subst he
    exact .inr fun ad h => by
      injection h with h
      subst h
      exact hg b rfl
theorem inv_write_0 {w : World} {B g1 g2 g3 L H : Nat} {v1 v2 v3 : Value} {m0 m1 m2 : List Nat} {r0 r1 r2 r3 : Option Addr × Nat × List Nat} {X : List (Option Nat)} (h : Inv B g1 g2 g3 L H w v1 v2 v3 m0 m1 m2 r0 r1 r2 r3 X) (hB : B ≤ w.heap.size)
    (A : Option Addr) (n c : Nat) (b : List Nat) (hn : n = b.length) (hb : Rd .u8 w A b) (lb : Lim 256 b) (ho : Off A b g1) (hm : m0.length + n ≤ 2199023255552) :
    Calls Try.prog 20 #[.pointer (some ⟨g1, 0, none⟩), .slice A n c] w (fun e w' => e = .returned (.tuple #[]) ∧ ∃ v', Inv B g1 g2 g3 L H w' v' v2 v3 (m0 ++ b) m1 m2 r0 r1 r2 r3 X ∧ Same w w' (Rws r0 r1 r2 r3 L H ++ X) ∧ Below B w w') := by
  refine (fam_write (i := 0) h.1 rfl hB A n c b hn hb lb ho hm).mono ?_
  rintro e w' ⟨rfl, v', hF, hs, hb⟩
  exact ⟨rfl, v', h.keep hF hs hb.size, hs, hb⟩
theorem inv_sum_0 {w : World} {B g1 g2 g3 L H : Nat} {v1 v2 v3 : Value} {m0 m1 m2 : List Nat} {r0 r1 r2 r3 : Option Addr × Nat × List Nat} {X : List (Option Nat)} (h : Inv B g1 g2 g3 L H w v1 v2 v3 m0 m1 m2 r0 r1 r2 r3 X) (hB : B ≤ w.heap.size) (hm : m0.length ≤ 1099511627776) :
    Calls Try.prog 18 #[.pointer (some ⟨g1, 0, none⟩)] w (fun e w' => e = .returned (.agg (ints .u8 (digest m0)).toArray) ∧ Inv B g1 g2 g3 L H w' v1 v2 v3 m0 m1 m2 r0 r1 r2 r3 X ∧ Same w w' (Rws r0 r1 r2 r3 L H ++ X) ∧ Below B w w') := by
  refine (fam_sum (i := 0) h.1 rfl hB hm).mono ?_
  rintro e w' ⟨rfl, hF, hs, hb⟩
  exact ⟨rfl, h.keep hF hs hb.size, hs, hb⟩
theorem inv_write_1 {w : World} {B g1 g2 g3 L H : Nat} {v1 v2 v3 : Value} {m0 m1 m2 : List Nat} {r0 r1 r2 r3 : Option Addr × Nat × List Nat} {X : List (Option Nat)} (h : Inv B g1 g2 g3 L H w v1 v2 v3 m0 m1 m2 r0 r1 r2 r3 X) (hB : B ≤ w.heap.size)
    (A : Option Addr) (n c : Nat) (b : List Nat) (hn : n = b.length) (hb : Rd .u8 w A b) (lb : Lim 256 b) (ho : Off A b g2) (hm : m1.length + n ≤ 2199023255552) :
    Calls Try.prog 20 #[.pointer (some ⟨g2, 0, none⟩), .slice A n c] w (fun e w' => e = .returned (.tuple #[]) ∧ ∃ v', Inv B g1 g2 g3 L H w' v1 v' v3 m0 (m1 ++ b) m2 r0 r1 r2 r3 X ∧ Same w w' (Rws r0 r1 r2 r3 L H ++ X) ∧ Below B w w') := by
  refine (fam_write (i := 1) h.1 rfl hB A n c b hn hb lb ho hm).mono ?_
  rintro e w' ⟨rfl, v', hF, hs, hb⟩
  exact ⟨rfl, v', h.keep hF hs hb.size, hs, hb⟩
theorem inv_sum_1 {w : World} {B g1 g2 g3 L H : Nat} {v1 v2 v3 : Value} {m0 m1 m2 : List Nat} {r0 r1 r2 r3 : Option Addr × Nat × List Nat} {X : List (Option Nat)} (h : Inv B g1 g2 g3 L H w v1 v2 v3 m0 m1 m2 r0 r1 r2 r3 X) (hB : B ≤ w.heap.size) (hm : m1.length ≤ 1099511627776) :
    Calls Try.prog 18 #[.pointer (some ⟨g2, 0, none⟩)] w (fun e w' => e = .returned (.agg (ints .u8 (digest m1)).toArray) ∧ Inv B g1 g2 g3 L H w' v1 v2 v3 m0 m1 m2 r0 r1 r2 r3 X ∧ Same w w' (Rws r0 r1 r2 r3 L H ++ X) ∧ Below B w w') := by
  refine (fam_sum (i := 1) h.1 rfl hB hm).mono ?_
  rintro e w' ⟨rfl, hF, hs, hb⟩
  exact ⟨rfl, h.keep hF hs hb.size, hs, hb⟩
theorem inv_write_2 {w : World} {B g1 g2 g3 L H : Nat} {v1 v2 v3 : Value} {m0 m1 m2 : List Nat} {r0 r1 r2 r3 : Option Addr × Nat × List Nat} {X : List (Option Nat)} (h : Inv B g1 g2 g3 L H w v1 v2 v3 m0 m1 m2 r0 r1 r2 r3 X) (hB : B ≤ w.heap.size)
    (A : Option Addr) (n c : Nat) (b : List Nat) (hn : n = b.length) (hb : Rd .u8 w A b) (lb : Lim 256 b) (ho : Off A b g3) (hm : m2.length + n ≤ 2199023255552) :
    Calls Try.prog 20 #[.pointer (some ⟨g3, 0, none⟩), .slice A n c] w (fun e w' => e = .returned (.tuple #[]) ∧ ∃ v', Inv B g1 g2 g3 L H w' v1 v2 v' m0 m1 (m2 ++ b) r0 r1 r2 r3 X ∧ Same w w' (Rws r0 r1 r2 r3 L H ++ X) ∧ Below B w w') := by
  refine (fam_write (i := 2) h.1 rfl hB A n c b hn hb lb ho hm).mono ?_
  rintro e w' ⟨rfl, v', hF, hs, hb⟩
  exact ⟨rfl, v', h.keep hF hs hb.size, hs, hb⟩
theorem inv_sum_2 {w : World} {B g1 g2 g3 L H : Nat} {v1 v2 v3 : Value} {m0 m1 m2 : List Nat} {r0 r1 r2 r3 : Option Addr × Nat × List Nat} {X : List (Option Nat)} (h : Inv B g1 g2 g3 L H w v1 v2 v3 m0 m1 m2 r0 r1 r2 r3 X) (hB : B ≤ w.heap.size) (hm : m2.length ≤ 1099511627776) :
    Calls Try.prog 18 #[.pointer (some ⟨g3, 0, none⟩)] w (fun e w' => e = .returned (.agg (ints .u8 (digest m2)).toArray) ∧ Inv B g1 g2 g3 L H w' v1 v2 v3 m0 m1 m2 r0 r1 r2 r3 X ∧ Same w w' (Rws r0 r1 r2 r3 L H ++ X) ∧ Below B w w') := by
  refine (fam_sum (i := 2) h.1 rfl hB hm).mono ?_
  rintro e w' ⟨rfl, hF, hs, hb⟩
  exact ⟨rfl, h.keep hF hs hb.size, hs, hb⟩
section
variable {w w' : World} {B g1 g2 g3 L H : Nat} {v1 v2 v3 : Value} {m0 m1 m2 : List Nat} {r0 r1 r2 r3 r' : Option Addr × Nat × List Nat} {X : List (Option Nat)}
/-- Row 0 has grown, and has been put back. -/
theorem Inv.put_0 (h : Inv B g1 g2 g3 L H w v1 v2 v3 m0 m1 m2 r0 r1 r2 r3 X) (hg : w.grownBy w' (rowVal r0).ownBlock) (hr : (rowVal r').ownBlock = (rowVal r0).ownBlock ∨ (rowVal r').ownBlock = some w.heap.size) (hin : RowIn w' B r') (hB : B ≤ w.heap.size) :
    Inv B g1 g2 g3 L H (w'.setCell ⟨H, 0, none⟩ (rowVal r')) v1 v2 v3 m0 m1 m2 r' r1 r2 r3 X ∧ ∀ (j k : Nat), X[j]? = some (some k) → (w'.setCell ⟨H, 0, none⟩ (rowVal r')).heap[k]? = w.heap[k]? := by
  have hlt : ∀ k, (rowVal r').ownBlock = some k → k < w'.heap.size := fun k hk => (hin.1.lt k hk).2
  obtain ⟨hF, hk⟩ := h.1.append (i := 0) (r := (rowVal r0).ownBlock) (r' := (rowVal r').ownBlock) rfl hg hr hlt hB
  have hg2 : w'.grownBy (w'.setCell ⟨H, 0, none⟩ (rowVal r')) (some H) := only_set (only_refl w' (some H)) (.inl rfl) _
  have hF' : Fam w' B [(g1, v1, m0), (g2, v2, m1), (g3, v3, m2)] (Rws r' r1 r2 r3 L H ++ X) := hF
  have hHlt : H < w'.heap.size := (hF'.2.1 5 H rfl).2.1
  obtain ⟨hF2, hk2⟩ := hF'.append (i := 5) (r := some H) (r' := some H) rfl hg2 (.inl rfl) (fun k e => by injection e with e; subst e; simpa using hHlt) (Nat.le_trans hB hg.size)
  obtain ⟨_, h0, h1, h2, h3, hL, hH⟩ := h
  have hin2 : ∀ r i, (Rws r' r1 r2 r3 L H ++ X)[i]? = some (rowVal r).ownBlock → i ≠ 5 → RowIn w' B r → RowIn (w'.setCell ⟨H, 0, none⟩ (rowVal r')) B r := fun r i hi hne hr => ⟨own_keep hr.1 fun k e => hk2 i k hne (by rw [hi, e]), hr.2⟩
  have old : ∀ r i, (Rws r0 r1 r2 r3 L H ++ X)[i]? = some (rowVal r).ownBlock → i ≠ 0 → RowIn w B r → RowIn w' B r := fun r i hi hne hr => ⟨own_keep hr.1 fun k e => hk i k hne (by rw [hi, e]), hr.2⟩
  refine ⟨⟨hF2, ?_, ?_, ?_, ?_, (hL.keep hg.size (hk 4 L (by omega) rfl)).keep hg2.size (hk2 4 L (by omega) rfl), ?_⟩, fun j k hj => ?_⟩
  · first | exact hin2 _ 0 rfl (by omega) hin | exact hin2 _ 0 rfl (by omega) (old _ 0 rfl (by omega) h0)
  · first | exact hin2 _ 1 rfl (by omega) hin | exact hin2 _ 1 rfl (by omega) (old _ 1 rfl (by omega) h1)
  · first | exact hin2 _ 2 rfl (by omega) hin | exact hin2 _ 2 rfl (by omega) (old _ 2 rfl (by omega) h2)
  · first | exact hin2 _ 3 rfl (by omega) hin | exact hin2 _ 3 rfl (by omega) (old _ 3 rfl (by omega) h3)
  · have h5 := hH.keep hg.size (hk 5 H (by omega) rfl)
    have h6 := h5.set (i := 0) rfl (rowVal r')
    rw [Nat.zero_add] at h6
    exact h6
  · have e1 : ∀ (a b c d e f : Option Nat), ([a, b, c, d, e, f] ++ X)[6 + j]? = some (some k) := fun a b c d e f => by rw [List.getElem?_append_right (by simp)]; simpa using hj
    exact (hk2 (6 + j) k (by omega) (e1 _ _ _ _ _ _)).trans (hk (6 + j) k (by omega) (e1 _ _ _ _ _ _))
/-- Row 1 has grown, and has been put back. -/
theorem Inv.put_1 (h : Inv B g1 g2 g3 L H w v1 v2 v3 m0 m1 m2 r0 r1 r2 r3 X) (hg : w.grownBy w' (rowVal r1).ownBlock) (hr : (rowVal r').ownBlock = (rowVal r1).ownBlock ∨ (rowVal r').ownBlock = some w.heap.size) (hin : RowIn w' B r') (hB : B ≤ w.heap.size) :
    Inv B g1 g2 g3 L H (w'.setCell ⟨H, 1, none⟩ (rowVal r')) v1 v2 v3 m0 m1 m2 r0 r' r2 r3 X ∧ ∀ (j k : Nat), X[j]? = some (some k) → (w'.setCell ⟨H, 1, none⟩ (rowVal r')).heap[k]? = w.heap[k]? := by
  have hlt : ∀ k, (rowVal r').ownBlock = some k → k < w'.heap.size := fun k hk => (hin.1.lt k hk).2
  obtain ⟨hF, hk⟩ := h.1.append (i := 1) (r := (rowVal r1).ownBlock) (r' := (rowVal r').ownBlock) rfl hg hr hlt hB
  have hg2 : w'.grownBy (w'.setCell ⟨H, 1, none⟩ (rowVal r')) (some H) := only_set (only_refl w' (some H)) (.inl rfl) _
  have hF' : Fam w' B [(g1, v1, m0), (g2, v2, m1), (g3, v3, m2)] (Rws r0 r' r2 r3 L H ++ X) := hF
  have hHlt : H < w'.heap.size := (hF'.2.1 5 H rfl).2.1
  obtain ⟨hF2, hk2⟩ := hF'.append (i := 5) (r := some H) (r' := some H) rfl hg2 (.inl rfl) (fun k e => by injection e with e; subst e; simpa using hHlt) (Nat.le_trans hB hg.size)
  obtain ⟨_, h0, h1, h2, h3, hL, hH⟩ := h
  have hin2 : ∀ r i, (Rws r0 r' r2 r3 L H ++ X)[i]? = some (rowVal r).ownBlock → i ≠ 5 → RowIn w' B r → RowIn (w'.setCell ⟨H, 1, none⟩ (rowVal r')) B r := fun r i hi hne hr => ⟨own_keep hr.1 fun k e => hk2 i k hne (by rw [hi, e]), hr.2⟩
  have old : ∀ r i, (Rws r0 r1 r2 r3 L H ++ X)[i]? = some (rowVal r).ownBlock → i ≠ 1 → RowIn w B r → RowIn w' B r := fun r i hi hne hr => ⟨own_keep hr.1 fun k e => hk i k hne (by rw [hi, e]), hr.2⟩
  refine ⟨⟨hF2, ?_, ?_, ?_, ?_, (hL.keep hg.size (hk 4 L (by omega) rfl)).keep hg2.size (hk2 4 L (by omega) rfl), ?_⟩, fun j k hj => ?_⟩
  · first | exact hin2 _ 0 rfl (by omega) hin | exact hin2 _ 0 rfl (by omega) (old _ 0 rfl (by omega) h0)
  · first | exact hin2 _ 1 rfl (by omega) hin | exact hin2 _ 1 rfl (by omega) (old _ 1 rfl (by omega) h1)
  · first | exact hin2 _ 2 rfl (by omega) hin | exact hin2 _ 2 rfl (by omega) (old _ 2 rfl (by omega) h2)
  · first | exact hin2 _ 3 rfl (by omega) hin | exact hin2 _ 3 rfl (by omega) (old _ 3 rfl (by omega) h3)
  · have h5 := hH.keep hg.size (hk 5 H (by omega) rfl)
    have h6 := h5.set (i := 1) rfl (rowVal r')
    rw [Nat.zero_add] at h6
    exact h6
  · have e1 : ∀ (a b c d e f : Option Nat), ([a, b, c, d, e, f] ++ X)[6 + j]? = some (some k) := fun a b c d e f => by rw [List.getElem?_append_right (by simp)]; simpa using hj
    exact (hk2 (6 + j) k (by omega) (e1 _ _ _ _ _ _)).trans (hk (6 + j) k (by omega) (e1 _ _ _ _ _ _))
/-- Row 2 has grown, and has been put back. -/
theorem Inv.put_2 (h : Inv B g1 g2 g3 L H w v1 v2 v3 m0 m1 m2 r0 r1 r2 r3 X) (hg : w.grownBy w' (rowVal r2).ownBlock) (hr : (rowVal r').ownBlock = (rowVal r2).ownBlock ∨ (rowVal r').ownBlock = some w.heap.size) (hin : RowIn w' B r') (hB : B ≤ w.heap.size) :
    Inv B g1 g2 g3 L H (w'.setCell ⟨H, 2, none⟩ (rowVal r')) v1 v2 v3 m0 m1 m2 r0 r1 r' r3 X ∧ ∀ (j k : Nat), X[j]? = some (some k) → (w'.setCell ⟨H, 2, none⟩ (rowVal r')).heap[k]? = w.heap[k]? := by
  have hlt : ∀ k, (rowVal r').ownBlock = some k → k < w'.heap.size := fun k hk => (hin.1.lt k hk).2
  obtain ⟨hF, hk⟩ := h.1.append (i := 2) (r := (rowVal r2).ownBlock) (r' := (rowVal r').ownBlock) rfl hg hr hlt hB
  have hg2 : w'.grownBy (w'.setCell ⟨H, 2, none⟩ (rowVal r')) (some H) := only_set (only_refl w' (some H)) (.inl rfl) _
  have hF' : Fam w' B [(g1, v1, m0), (g2, v2, m1), (g3, v3, m2)] (Rws r0 r1 r' r3 L H ++ X) := hF
  have hHlt : H < w'.heap.size := (hF'.2.1 5 H rfl).2.1
  obtain ⟨hF2, hk2⟩ := hF'.append (i := 5) (r := some H) (r' := some H) rfl hg2 (.inl rfl) (fun k e => by injection e with e; subst e; simpa using hHlt) (Nat.le_trans hB hg.size)
  obtain ⟨_, h0, h1, h2, h3, hL, hH⟩ := h
  have hin2 : ∀ r i, (Rws r0 r1 r' r3 L H ++ X)[i]? = some (rowVal r).ownBlock → i ≠ 5 → RowIn w' B r → RowIn (w'.setCell ⟨H, 2, none⟩ (rowVal r')) B r := fun r i hi hne hr => ⟨own_keep hr.1 fun k e => hk2 i k hne (by rw [hi, e]), hr.2⟩
  have old : ∀ r i, (Rws r0 r1 r2 r3 L H ++ X)[i]? = some (rowVal r).ownBlock → i ≠ 2 → RowIn w B r → RowIn w' B r := fun r i hi hne hr => ⟨own_keep hr.1 fun k e => hk i k hne (by rw [hi, e]), hr.2⟩
  refine ⟨⟨hF2, ?_, ?_, ?_, ?_, (hL.keep hg.size (hk 4 L (by omega) rfl)).keep hg2.size (hk2 4 L (by omega) rfl), ?_⟩, fun j k hj => ?_⟩
  · first | exact hin2 _ 0 rfl (by omega) hin | exact hin2 _ 0 rfl (by omega) (old _ 0 rfl (by omega) h0)
  · first | exact hin2 _ 1 rfl (by omega) hin | exact hin2 _ 1 rfl (by omega) (old _ 1 rfl (by omega) h1)
  · first | exact hin2 _ 2 rfl (by omega) hin | exact hin2 _ 2 rfl (by omega) (old _ 2 rfl (by omega) h2)
  · first | exact hin2 _ 3 rfl (by omega) hin | exact hin2 _ 3 rfl (by omega) (old _ 3 rfl (by omega) h3)
  · have h5 := hH.keep hg.size (hk 5 H (by omega) rfl)
    have h6 := h5.set (i := 2) rfl (rowVal r')
    rw [Nat.zero_add] at h6
    exact h6
  · have e1 : ∀ (a b c d e f : Option Nat), ([a, b, c, d, e, f] ++ X)[6 + j]? = some (some k) := fun a b c d e f => by rw [List.getElem?_append_right (by simp)]; simpa using hj
    exact (hk2 (6 + j) k (by omega) (e1 _ _ _ _ _ _)).trans (hk (6 + j) k (by omega) (e1 _ _ _ _ _ _))
/-- Row 3 has grown, and has been put back. -/
theorem Inv.put_3 (h : Inv B g1 g2 g3 L H w v1 v2 v3 m0 m1 m2 r0 r1 r2 r3 X) (hg : w.grownBy w' (rowVal r3).ownBlock) (hr : (rowVal r').ownBlock = (rowVal r3).ownBlock ∨ (rowVal r').ownBlock = some w.heap.size) (hin : RowIn w' B r') (hB : B ≤ w.heap.size) :
    Inv B g1 g2 g3 L H (w'.setCell ⟨H, 3, none⟩ (rowVal r')) v1 v2 v3 m0 m1 m2 r0 r1 r2 r' X ∧ ∀ (j k : Nat), X[j]? = some (some k) → (w'.setCell ⟨H, 3, none⟩ (rowVal r')).heap[k]? = w.heap[k]? := by
  have hlt : ∀ k, (rowVal r').ownBlock = some k → k < w'.heap.size := fun k hk => (hin.1.lt k hk).2
  obtain ⟨hF, hk⟩ := h.1.append (i := 3) (r := (rowVal r3).ownBlock) (r' := (rowVal r').ownBlock) rfl hg hr hlt hB
  have hg2 : w'.grownBy (w'.setCell ⟨H, 3, none⟩ (rowVal r')) (some H) := only_set (only_refl w' (some H)) (.inl rfl) _
  have hF' : Fam w' B [(g1, v1, m0), (g2, v2, m1), (g3, v3, m2)] (Rws r0 r1 r2 r' L H ++ X) := hF
  have hHlt : H < w'.heap.size := (hF'.2.1 5 H rfl).2.1
  obtain ⟨hF2, hk2⟩ := hF'.append (i := 5) (r := some H) (r' := some H) rfl hg2 (.inl rfl) (fun k e => by injection e with e; subst e; simpa using hHlt) (Nat.le_trans hB hg.size)
  obtain ⟨_, h0, h1, h2, h3, hL, hH⟩ := h
  have hin2 : ∀ r i, (Rws r0 r1 r2 r' L H ++ X)[i]? = some (rowVal r).ownBlock → i ≠ 5 → RowIn w' B r → RowIn (w'.setCell ⟨H, 3, none⟩ (rowVal r')) B r := fun r i hi hne hr => ⟨own_keep hr.1 fun k e => hk2 i k hne (by rw [hi, e]), hr.2⟩
  have old : ∀ r i, (Rws r0 r1 r2 r3 L H ++ X)[i]? = some (rowVal r).ownBlock → i ≠ 3 → RowIn w B r → RowIn w' B r := fun r i hi hne hr => ⟨own_keep hr.1 fun k e => hk i k hne (by rw [hi, e]), hr.2⟩
  refine ⟨⟨hF2, ?_, ?_, ?_, ?_, (hL.keep hg.size (hk 4 L (by omega) rfl)).keep hg2.size (hk2 4 L (by omega) rfl), ?_⟩, fun j k hj => ?_⟩
  · first | exact hin2 _ 0 rfl (by omega) hin | exact hin2 _ 0 rfl (by omega) (old _ 0 rfl (by omega) h0)
  · first | exact hin2 _ 1 rfl (by omega) hin | exact hin2 _ 1 rfl (by omega) (old _ 1 rfl (by omega) h1)
  · first | exact hin2 _ 2 rfl (by omega) hin | exact hin2 _ 2 rfl (by omega) (old _ 2 rfl (by omega) h2)
  · first | exact hin2 _ 3 rfl (by omega) hin | exact hin2 _ 3 rfl (by omega) (old _ 3 rfl (by omega) h3)
  · have h5 := hH.keep hg.size (hk 5 H (by omega) rfl)
    have h6 := h5.set (i := 3) rfl (rowVal r')
    rw [Nat.zero_add] at h6
    exact h6
  · have e1 : ∀ (a b c d e f : Option Nat), ([a, b, c, d, e, f] ++ X)[6 + j]? = some (some k) := fun a b c d e f => by rw [List.getElem?_append_right (by simp)]; simpa using hj
    exact (hk2 (6 + j) k (by omega) (e1 _ _ _ _ _ _)).trans (hk (6 + j) k (by omega) (e1 _ _ _ _ _ _))
end
/-! ### What it tells of one cell, of one row -/
section
variable {w w' : World} {B g1 g2 g3 L H : Nat} {v1 v2 v3 : Value} {m0 m1 m2 : List Nat} {r0 r1 r2 r3 : Option Addr × Nat × List Nat} {X : List (Option Nat)}
theorem Inv.l0 (h : Inv B g1 g2 g3 L H w v1 v2 v3 m0 m1 m2 r0 r1 r2 r3 X) : w.cell? ⟨L, 0, none⟩ = some (.pointer (some ⟨g1, 0, none⟩)) := by
  have := h.2.2.2.2.2.1.cell (i := 0) rfl
  rwa [Nat.zero_add] at this
theorem Inv.h0 (h : Inv B g1 g2 g3 L H w v1 v2 v3 m0 m1 m2 r0 r1 r2 r3 X) : w.cell? ⟨H, 0, none⟩ = some (rowVal r0) := by
  have := h.2.2.2.2.2.2.cell (i := 0) rfl
  rwa [Nat.zero_add] at this
theorem Inv.f0 (h : Inv B g1 g2 g3 L H w v1 v2 v3 m0 m1 m2 r0 r1 r2 r3 X) : w.frozen? ⟨H, 0, none⟩ = false := by
  have := h.2.2.2.2.2.2.frozen (i := 0) rfl
  rwa [Nat.zero_add] at this
theorem Inv.l1 (h : Inv B g1 g2 g3 L H w v1 v2 v3 m0 m1 m2 r0 r1 r2 r3 X) : w.cell? ⟨L, 1, none⟩ = some (.pointer (some ⟨g2, 0, none⟩)) := by
  have := h.2.2.2.2.2.1.cell (i := 1) rfl
  rwa [Nat.zero_add] at this
theorem Inv.h1 (h : Inv B g1 g2 g3 L H w v1 v2 v3 m0 m1 m2 r0 r1 r2 r3 X) : w.cell? ⟨H, 1, none⟩ = some (rowVal r1) := by
  have := h.2.2.2.2.2.2.cell (i := 1) rfl
  rwa [Nat.zero_add] at this
theorem Inv.f1 (h : Inv B g1 g2 g3 L H w v1 v2 v3 m0 m1 m2 r0 r1 r2 r3 X) : w.frozen? ⟨H, 1, none⟩ = false := by
  have := h.2.2.2.2.2.2.frozen (i := 1) rfl
  rwa [Nat.zero_add] at this
theorem Inv.l2 (h : Inv B g1 g2 g3 L H w v1 v2 v3 m0 m1 m2 r0 r1 r2 r3 X) : w.cell? ⟨L, 2, none⟩ = some (.pointer (some ⟨g3, 0, none⟩)) := by
  have := h.2.2.2.2.2.1.cell (i := 2) rfl
  rwa [Nat.zero_add] at this
theorem Inv.h2 (h : Inv B g1 g2 g3 L H w v1 v2 v3 m0 m1 m2 r0 r1 r2 r3 X) : w.cell? ⟨H, 2, none⟩ = some (rowVal r2) := by
  have := h.2.2.2.2.2.2.cell (i := 2) rfl
  rwa [Nat.zero_add] at this
theorem Inv.f2 (h : Inv B g1 g2 g3 L H w v1 v2 v3 m0 m1 m2 r0 r1 r2 r3 X) : w.frozen? ⟨H, 2, none⟩ = false := by
  have := h.2.2.2.2.2.2.frozen (i := 2) rfl
  rwa [Nat.zero_add] at this
theorem Inv.l3 (h : Inv B g1 g2 g3 L H w v1 v2 v3 m0 m1 m2 r0 r1 r2 r3 X) : w.cell? ⟨L, 3, none⟩ = some (.pointer none) := by
  have := h.2.2.2.2.2.1.cell (i := 3) rfl
  rwa [Nat.zero_add] at this
theorem Inv.h3 (h : Inv B g1 g2 g3 L H w v1 v2 v3 m0 m1 m2 r0 r1 r2 r3 X) : w.cell? ⟨H, 3, none⟩ = some (rowVal r3) := by
  have := h.2.2.2.2.2.2.cell (i := 3) rfl
  rwa [Nat.zero_add] at this
theorem Inv.f3 (h : Inv B g1 g2 g3 L H w v1 v2 v3 m0 m1 m2 r0 r1 r2 r3 X) : w.frozen? ⟨H, 3, none⟩ = false := by
  have := h.2.2.2.2.2.2.frozen (i := 3) rfl
  rwa [Nat.zero_add] at this
theorem Inv.row0 (h : Inv B g1 g2 g3 L H w v1 v2 v3 m0 m1 m2 r0 r1 r2 r3 X) : RowIn w B r0 := h.2.1
theorem Inv.row1 (h : Inv B g1 g2 g3 L H w v1 v2 v3 m0 m1 m2 r0 r1 r2 r3 X) : RowIn w B r1 := h.2.2.1
theorem Inv.row2 (h : Inv B g1 g2 g3 L H w v1 v2 v3 m0 m1 m2 r0 r1 r2 r3 X) : RowIn w B r2 := h.2.2.2.1
theorem Inv.row3 (h : Inv B g1 g2 g3 L H w v1 v2 v3 m0 m1 m2 r0 r1 r2 r3 X) : RowIn w B r3 := h.2.2.2.2.1
theorem Inv.hlt (h : Inv B g1 g2 g3 L H w v1 v2 v3 m0 m1 m2 r0 r1 r2 r3 X) : B ≤ H ∧ H < w.heap.size := ⟨(h.1.2.1 5 H rfl).1, (h.1.2.1 5 H rfl).2.1⟩
/-- A row has grown; the list of rows is as it was. -/
theorem Inv.still0 (h : Inv B g1 g2 g3 L H w v1 v2 v3 m0 m1 m2 r0 r1 r2 r3 X) (hg : w.grownBy w' (rowVal r0).ownBlock) : w'.cell? ⟨H, 0, none⟩ = some (rowVal r0) ∧ w'.frozen? ⟨H, 0, none⟩ = false := by
  have hc : Cut w' H 0 [rowVal r0, rowVal r1, rowVal r2, rowVal r3] := h.2.2.2.2.2.2.grown hg fun e => by
    have := h.1.2.2 0 5 H (by rw [← e]; rfl) rfl
    omega
  have h1 := hc.cell (i := 0) rfl
  have h2 := hc.frozen (i := 0) rfl
  rw [Nat.zero_add] at h1 h2
  exact ⟨h1, h2⟩
theorem Inv.still1 (h : Inv B g1 g2 g3 L H w v1 v2 v3 m0 m1 m2 r0 r1 r2 r3 X) (hg : w.grownBy w' (rowVal r1).ownBlock) : w'.cell? ⟨H, 1, none⟩ = some (rowVal r1) ∧ w'.frozen? ⟨H, 1, none⟩ = false := by
  have hc : Cut w' H 0 [rowVal r0, rowVal r1, rowVal r2, rowVal r3] := h.2.2.2.2.2.2.grown hg fun e => by
    have := h.1.2.2 1 5 H (by rw [← e]; rfl) rfl
    omega
  have h1 := hc.cell (i := 1) rfl
  have h2 := hc.frozen (i := 1) rfl
  rw [Nat.zero_add] at h1 h2
  exact ⟨h1, h2⟩
theorem Inv.still2 (h : Inv B g1 g2 g3 L H w v1 v2 v3 m0 m1 m2 r0 r1 r2 r3 X) (hg : w.grownBy w' (rowVal r2).ownBlock) : w'.cell? ⟨H, 2, none⟩ = some (rowVal r2) ∧ w'.frozen? ⟨H, 2, none⟩ = false := by
  have hc : Cut w' H 0 [rowVal r0, rowVal r1, rowVal r2, rowVal r3] := h.2.2.2.2.2.2.grown hg fun e => by
    have := h.1.2.2 2 5 H (by rw [← e]; rfl) rfl
    omega
  have h1 := hc.cell (i := 2) rfl
  have h2 := hc.frozen (i := 2) rfl
  rw [Nat.zero_add] at h1 h2
  exact ⟨h1, h2⟩
theorem Inv.still3 (h : Inv B g1 g2 g3 L H w v1 v2 v3 m0 m1 m2 r0 r1 r2 r3 X) (hg : w.grownBy w' (rowVal r3).ownBlock) : w'.cell? ⟨H, 3, none⟩ = some (rowVal r3) ∧ w'.frozen? ⟨H, 3, none⟩ = false := by
  have hc : Cut w' H 0 [rowVal r0, rowVal r1, rowVal r2, rowVal r3] := h.2.2.2.2.2.2.grown hg fun e => by
    have := h.1.2.2 3 5 H (by rw [← e]; rfl) rfl
    omega
  have h1 := hc.cell (i := 3) rfl
  have h2 := hc.frozen (i := 3) rfl
  rw [Nat.zero_add] at h1 h2
  exact ⟨h1, h2⟩
/-- What is guarded beside touches no state. -/
theorem Inv.off {r : Option Nat} (h : Inv B g1 g2 g3 L H w v1 v2 v3 m0 m1 m2 r0 r1 r2 r3 [r]) : ∀ k, r = some k → k ≠ g1 ∧ k ≠ g2 ∧ k ≠ g3 := fun k e => by
  have h6 := (h.1.2.1 6 k (by rw [← e]; rfl)).2.2
  exact ⟨(h6 0 _ rfl).1, (h6 1 _ rfl).1, (h6 2 _ rfl).1⟩
end
section
variable {P : Program} {w : World}
/-- append onto a row of the call's own, as one operation of a region that draws its order. -/
theorem step_append_block {ops : Array Oper} {o : Oper} {a : Act} {K : Act → World → Prop} {Q : Exit → Act → World → Prop} {E : Prop} (hgd : o.guard = none) (s x : Operand) (t : TypeId)
    (ho : o.op = .call { callee := .builtin .append, args := #[s, x], argTypes := #[t, t] })
    (B : Nat) (e : TypeId) (k : IntKind) (bytes : Nat) (ht : P.underlying t = some (.slice e)) (hinfo : (P.info? e).map (fun i => (i.zero, i.size, i.bytes)) = some (some (.int k 0), 1, bytes))
    (v : Value) (n : Nat) (xs : List Nat) (hs : a.eval s = v) (hown : w.ownsRow B e 1 v n (ints k xs)) (A : Option Addr) (m c : Nat) (ys : List Nat) (hx : a.eval x = .slice A m c) (hm : m = ys.length) (hr : Rd k w A ys)
    (h63 : n + m ≤ maxLen) (hbytes : (n + m) * bytes ≤ 140737488355328) (hbase : B ≤ w.heap.size)
    (h : ∀ A' c' w', w'.ownsRow B e 1 (.slice A' (n + m) c') (n + m) (ints k (xs ++ ys)) → w.grownBy w' v.ownBlock → ((Value.slice A' (n + m) c').ownBlock = v.ownBlock ∨ (Value.slice A' (n + m) c').ownBlock = some w.heap.size) → K (a.put o.dst (.slice A' (n + m) c')) w') :
    if Region.wanted o (yielded ops a.tmps) = true then Oper.wp P o a w K Q else E := by
  have hw : Region.wanted o (yielded ops a.tmps) = true := by simp [Region.wanted, hgd]
  rw [if_pos hw]
  obtain ⟨v', w', hrun, h2, h3, h4⟩ := run_append_ints (P := P) w B t o.type e k bytes ht hinfo v n xs hown A m c ys hm hr h63 hbytes hbase
  have h5 := run_append_block B t o.type e k bytes ht hinfo v n xs hown A m c ys hm hr h63 hbytes hbase hrun
  obtain ⟨A', c', rfl, -⟩ := Own.of_row h2
  unfold Oper.wp execOp
  simp only [ho, resolve, invoke, builtin, Sem.run_bind, Sem.run_pure, Result.andThen_ok, List.map_toArray, List.map_cons, List.map_nil, hs, hx, hrun]
  exact h _ _ _ h2 h3 h5
end
end Go.Proofs.Ytmbkehmgpcmicaa
