/-
 Large: more than a statement goes through. Holds for all signed data that come in.
-/
import Derived.Test.YtchaahnhpeoomaaGreatPSgC
import Derived.Test.YtchaahnhpeoomaaGreatPOpnS
namespace Go.Proofs.YtchaahnhpeoomaaGreat
set_option linter.unusedVariables false
set_option linter.unusedSimpArgs false
set_option maxRecDepth 20000
open Go.RowKit
abbrev SIn := Sl × Sl × Sls3 Crt × Sls3 Sgn
def SIn.G (t : SIn) : Sgd := ⟨t.1, t.2.1, t.2.2.1.A, t.2.2.1.l.length, t.2.2.1.c, t.2.2.2.A, t.2.2.2.l.length, t.2.2.2.c⟩
def SIn.cs (t : SIn) : List Crt := t.2.2.1.l
def SIn.ss (t : SIn) : List Sgn := t.2.2.2.l
def smallB (t : SIn) : Prop := t.cs.length ≤ 20 ∧ t.ss.length ≤ 20 ∧ t.2.1.xs.length ≤ 16384 ∧ (∀ c ∈ t.cs, c.key.xs.length ≤ 600) ∧ ∀ s ∈ t.ss, s.attrs.xs.length ≤ 8192
theorem RowsIn.below {α : Type} {n : Nat} {f : α → List Value} {Q Q' : α → Prop} {w w' : World} {s : Sls3 α} (h : RowsIn n f Q w s) (hb : Below w.heap.size w w') (hq : ∀ x, Q x → Q' x) : RowsIn n f Q' w' s :=
 ⟨h.cap, h.max, h.row.imp id fun ⟨g, o, e, r⟩ => ⟨g, o, e, r.below hb⟩, fun x hx => hq x (h.each x hx)⟩
theorem CrtIn.below {w w' : World} {c : Crt} (h : CrtIn w c) (hb : Below w.heap.size w w') : CrtIn w' c := ⟨h.ok.below hb, h.path, h.usage⟩
theorem QSigned.below {w w' : World} {t : SIn} (q : QSigned w t) (hb : Below w.heap.size w w') : QSigned w' t :=
 ⟨q.1.below hb, q.2.1.below hb, q.2.2.1.below hb fun _ h => h.below hb, q.2.2.2.below hb fun _ h => h.below hb⟩
theorem rows_at {α : Type} {n : Nat} {f : α → List Value} {Q : α → Prop} {w : World} {s : Sls3 α} (h : RowsIn n f Q w s) (hf : ∀ x, (f x).length = n) {i : Nat} {x : α} (hi : s.l[i]? = some x) : ∃ g o, s.A = some ⟨g, o, none⟩ ∧ Row w g (o + i * n) (f x) := by
 rcases h.row with h0 | ⟨g, o, e, r⟩
 ·rw [h0] at hi
  simp at hi
 ·exact ⟨g, o, e, Row.part (n := n) r (fun y hy => by obtain ⟨z, _, rfl⟩ := List.mem_map.1 hy; exact hf z) (by simp [hi])⟩
def LargePost (t : SIn) (w : World) (e : Ending) (w' : World) : Prop := ∃ b : Bool, e = .returned (.bool b) ∧ (b = false → smallB t) ∧ Below w.heap.size w w'
set_option maxRecDepth 100000 in
set_option maxHeartbeats 6400000 in
theorem large15_any (t : SIn) (w : World) (q : QSigned w t) : Calls Tryz.prog 28 #[.agg (CSigned t).toArray] w (LargePost t w) := by
 obtain ⟨x1, x2, C, S⟩ := t
 obtain ⟨q1, q2, q3, q4⟩ := q
 simp only at q1 q2 q3 q4
 obtain ⟨CA, cc, cs⟩ := C
 obtain ⟨SA, sc, ss⟩ := S
 have hcn : cs.length ≤ 9223372036854775807 := Nat.le_trans q3.cap q3.max
 have hsn : ss.length ≤ 9223372036854775807 := Nat.le_trans q4.cap q4.max
 obtain ⟨A2, c2, xs2⟩ := x2
 obtain ⟨L0, hL0⟩ : ∃ L, L = CSigned (x1, ⟨A2, c2, xs2⟩, ⟨CA, cc, cs⟩, ⟨SA, sc, ss⟩) := ⟨_, rfl⟩
 rw [← hL0]
 obtain ⟨g0, hg0⟩ : ∃ g, g = w.heap.size := ⟨_, rfl⟩
 obtain ⟨w0, hw0⟩ : ∃ u, u = w.alloc (.cells L0.toArray 48) := ⟨_, rfl⟩
 have hE : Below w.heap.size w w0 := by rw [hw0]; exact (Below.refl _ _).alloc (Nat.le_refl _) _
 have B0 : Row w0 g0 0 L0 := by rw [hw0, hg0]; exact row_new _
 rw [hL0] at B0
 have k1 : w0.cell? ⟨g0, 1, none⟩ = some (.slice A2 xs2.length c2) := B0.at_ (i := 1) rfl rfl
 have k2 : w0.cell? ⟨g0, 2, none⟩ = some (.slice CA cs.length cc) := B0.at_ (i := 2) rfl rfl
 have k3 : w0.cell? ⟨g0, 3, none⟩ = some (.slice SA ss.length sc) := B0.at_ (i := 3) rfl rfl
 replace q3 := q3.below hE (Q' := fun c => CrtIn w0 c) fun _ h => h.below hE
 replace q4 := q4.below hE (Q' := fun s => s.ok w0) fun _ h => h.below hE
 replace hL0 := Lib.hid hL0
 go_enter Tryz.func28, Tryz.ntmps28
 go_upto_region 1 with fail
 refine wp_world hw0 ?_
 rw [← hg0]
 clear hw0 hg0
 have hc : (20 : Int) < (cs.length : Int) ∨ (¬ (20 : Int) < (cs.length : Int) ∧ (20 : Int) < (ss.length : Int)) ∨ (¬ (20 : Int) < (cs.length : Int) ∧ ¬ (20 : Int) < (ss.length : Int) ∧ (16384 : Int) < (xs2.length : Int)) ∨ (¬ (20 : Int) < (cs.length : Int) ∧ ¬ (20 : Int) < (ss.length : Int) ∧ ¬ (16384 : Int) < (xs2.length : Int)) := by omega
 rcases hc with z | ⟨z, z2⟩ | ⟨z, z2, z3⟩ | ⟨z, z2, z3⟩
 iterate 3
  ·go_wp2_with fail
   go_ret
   exact ⟨true, rfl, (fun h => by cases h), hE⟩
 go_wp2_with fail
 go_loopw [3] (fun t wr => ∃ i : Nat, t = .int .i64 (i : Int) ∧ i ≤ cs.length ∧ (∀ j c, j < i → cs[j]? = some c → c.key.xs.length ≤ 600) ∧ wr = w0) (fun t _ => cs.length - (intOf t).toNat)
 case atStart => exact ⟨0, rfl, Nat.zero_le _, fun j c h => by omega, rfl⟩
 case round =>
  obtain ⟨i, rfl, hi, hkeys, hw⟩ := hrel
  rw [hw]
  by_cases hlt : i < cs.length
  ·have z4 : (i : Int) < (cs.length : Int) := by omega
   have z5 : (0 : Int) ≤ (i : Int) ∧ (i : Int) < (cs.length : Int) := by omega
   obtain ⟨c, hc⟩ : ∃ c, cs[i]? = some c := ⟨_, List.getElem?_eq_getElem hlt⟩
   obtain ⟨gc, oc, rfl, R⟩ := rows_at q3 Crt.cells_length hc
   have kk : w0.cell? ⟨gc, oc + i * 24 + 17, none⟩ = some (.slice c.key.A c.key.xs.length c.key.c) := R.at_ (i := 17) rfl rfl
   have z6 : (i : Int) ≤ 20 := by omega
   by_cases hk : 600 < c.key.xs.length
   ·have z7 : (600 : Int) < (c.key.xs.length : Int) := by omega
    go_wp2_with fail
    go_ret
    exact ⟨true, rfl, (fun h => by cases h), hE⟩
   ·have z7 : ¬ (600 : Int) < (c.key.xs.length : Int) := by omega
    go_wp2_with fail
    go_roundw
    case rel =>
     refine ⟨i + 1, by go_num, by omega, fun j d hj hd => ?_, by first | rfl | trivial⟩
     by_cases hji : j = i
     ·subst hji
      rw [hc] at hd
      cases hd
      omega
     ·exact hkeys j d (by omega) hd
    case measure =>
     simp [intOf]
     omega
  ·have z4 : ¬ (i : Int) < (cs.length : Int) := by omega
   have hkall : ∀ c ∈ cs, c.key.xs.length ≤ 600 := fun c hc => by
    obtain ⟨j, hj⟩ := List.mem_iff_getElem?.1 hc
    exact hkeys j c (by have := (List.getElem?_eq_some_iff.1 hj).1; omega) hj
   clear hkeys
   go_wp2_with fail
   go_loopw [4] (fun t wr => ∃ i : Nat, t = .int .i64 (i : Int) ∧ i ≤ ss.length ∧ (∀ j s, j < i → ss[j]? = some s → s.attrs.xs.length ≤ 8192) ∧ wr = w0) (fun t _ => ss.length - (intOf t).toNat)
   case atStart => exact ⟨0, rfl, Nat.zero_le _, fun j c h => by omega, rfl⟩
   case round =>
    obtain ⟨m, rfl, hm, hatt, hw2⟩ := hrel
    rw [hw2]
    by_cases hlt2 : m < ss.length
    ·have z8 : (m : Int) < (ss.length : Int) := by omega
     have z5 : (0 : Int) ≤ (m : Int) ∧ (m : Int) < (ss.length : Int) := by omega
     obtain ⟨s, hs⟩ : ∃ s, ss[m]? = some s := ⟨_, List.getElem?_eq_getElem hlt2⟩
     obtain ⟨gs, os, rfl, R⟩ := rows_at q4 (fun _ => rfl) hs
     have kk : w0.cell? ⟨gs, os + m * 6 + 2, none⟩ = some (.slice s.attrs.A s.attrs.xs.length s.attrs.c) := R.at_ (i := 2) rfl rfl
     have z6 : (m : Int) ≤ 20 := by omega
     by_cases hk : 8192 < s.attrs.xs.length
     ·have z7 : (8192 : Int) < (s.attrs.xs.length : Int) := by omega
      go_wp2_with fail
      go_ret
      exact ⟨true, rfl, (fun h => by cases h), hE⟩
     ·have z7 : ¬ (8192 : Int) < (s.attrs.xs.length : Int) := by omega
      go_wp2_with fail
      go_roundw
      case rel =>
       refine ⟨m + 1, by go_num, by omega, fun j d hj hd => ?_, by first | rfl | trivial⟩
       by_cases hji : j = m
       ·subst hji
        rw [hs] at hd
        cases hd
        omega
       ·exact hatt j d (by omega) hd
      case measure =>
       simp [intOf]
       omega
    ·have z8 : ¬ (m : Int) < (ss.length : Int) := by omega
     have hsall : ∀ s ∈ ss, s.attrs.xs.length ≤ 8192 := fun s hs => by
      obtain ⟨j, hj⟩ := List.mem_iff_getElem?.1 hs
      exact hatt j s (by have := (List.getElem?_eq_some_iff.1 hj).1; omega) hj
     clear hatt
     go_wp2_with fail
     go_ret
     exact ⟨false, rfl, fun _ => ⟨by show cs.length ≤ 20; omega, by show ss.length ≤ 20; omega, by show xs2.length ≤ 16384; omega, hkall, hsall⟩, hE⟩
theorem smem_of_in {t : SIn} {w : World} (q : QSigned w t) (hs : smallB t) (h0 : 0 < w.heap.size) : ∃ gc oc gs os, SMem t.G t.cs t.ss gc oc gs os w := by
 obtain ⟨x1, x2, ⟨CA, cc, cs⟩, ⟨SA, sc, ss⟩⟩ := t
 obtain ⟨q1, q2, q3, q4⟩ := q
 obtain ⟨s1, s2, s3, s4, s5⟩ := hs
 have s1 : cs.length ≤ 20 := s1
 have s2 : ss.length ≤ 20 := s2
 obtain ⟨gc, oc, hc, hcR⟩ : ∃ gc oc, (cs = [] ∨ CA = some ⟨gc, oc, none⟩) ∧ Row w gc oc (crtCells cs) := by
  rcases q3.row with h | ⟨g, o, e, r⟩
  ·have h : cs = [] := h
   exact ⟨0, 0, .inl h, h0, fun i v hv => by rw [h] at hv; simp [crtCells] at hv⟩
  ·exact ⟨g, o, .inr e, r⟩
 obtain ⟨gs, os, hsA, hsR⟩ : ∃ gs os, (ss = [] ∨ SA = some ⟨gs, os, none⟩) ∧ ∀ i s, ss[i]? = some s → Row w gs (os + i * 6) s.cells := by
  rcases q4.row with h | ⟨g, o, e, r⟩
  ·have h : ss = [] := h
   exact ⟨0, 0, .inl h, fun i v hv => by rw [h] at hv; simp at hv⟩
  ·exact ⟨g, o, .inr e, fun i s hi => sgn_row (l := ss) r hi⟩
 exact ⟨gc, oc, gs, os, q1, q2, rfl, by show cs.length ≤ 1000000; omega, hc, hcR, fun c hc => (q3.each c hc).ok, fun c hc => by have := s4 c hc; omega, rfl, by show ss.length ≤ 1000000; omega, hsA, hsR, q4.each, fun s hs => by have := s5 s hs; omega⟩
section
variable {P : Program} {ops : Array Oper} {Q : Exit → Act → World → Prop} {Base : Act → Prop} {dst : Nat → Nat} {tags : Nat → Tg} {i : Nat} {o : Oper} {G : World → Prop}
theorem st_skip {j : Nat} {b c : Bool} {e : Edge} (hg : o.guard = some (j, b)) (he : e ∈ o.after) (heb : Region.binds .any e = true) (hej : e.on = j) (hT : tags j = tv (.bool c)) (hbc : c ≠ b) (hd : (ops[j]?).bind (·.dst) = some (dst j)) (ht : tags i = fun _ _ => True) :
  StepOk P ops Q Base dst (fun i v w => Sp (tags i) v w) G i o := by
 intro a w hb hdp hG K hK
 have h2 := hdp e he heb
 rw [hej, hT] at h2
 have h3 : a.tmps.getD (dst j) undef = .bool c := h2.now
 have hl : a.tmps[dst j]? = some (.bool c) := by
  rw [Array.getD_eq_getD_getElem?] at h3
  cases h4 : a.tmps[dst j]? with
  | none =>
   rw [h4] at h3
   cases h3
  | some v =>
   rw [h4] at h3
   exact congrArg some h3
 have hy : yielded ops a.tmps j = some c := by
  unfold yielded
  rw [hd]
  simp [hl]
 have hw : Region.wanted o (yielded ops a.tmps) = false := by simp [Region.wanted, hg, hy, hbc]
 rw [if_neg (by rw [hw]; simp)]
 exact hK undef w (by show Sp (tags i) undef w; rw [ht]; exact fun _ _ => trivial) (Sub.refl w) hG
end
end Go.Proofs.YtchaahnhpeoomaaGreat
