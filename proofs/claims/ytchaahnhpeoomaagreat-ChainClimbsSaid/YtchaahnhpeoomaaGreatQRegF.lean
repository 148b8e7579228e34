/-
  A region that draws its order, some of whose operations write: what the world is may hang on which of those are done.
-/
import Derived.Test.YtchaahnhpeoomaaGreatQGReg
namespace Go.Proofs.YtchaahnhpeoomaaGreat
set_option linter.unusedVariables false
set_option linter.unusedSimpArgs false
set_option maxRecDepth 20000
open Go.RowKit
section
variable {P : Program} {ops : Array Oper} {Q : Exit → Act → World → Prop}
def done1 (d : Nat → Bool) (i : Nat) : Nat → Bool := fun j => if j = i then true else d j
def Closed (ops : Array Oper) (d : Nat → Bool) : Prop := ∀ j o, ops[j]? = some o → d j = true → ∀ e ∈ o.after, Region.binds .any e = true → d e.on = true
def EffOk (P : Program) (ops : Array Oper) (Q : Exit → Act → World → Prop) (E : Nat → Bool) (Base : Act → Prop) (dst : Nat → Nat) (tags : Nat → Tg) (G : (Nat → Bool) → (Nat → Value) → World → Prop) (i : Nat) (o : Oper) : Prop :=
 ∀ (d : Nat → Bool) (a : Act) (w : World), d i = false → Base a → Deps o dst tags a w → (∀ e ∈ o.after, Region.binds .any e = true → d e.on = true) → G d (fun j => a.tmps.getD (dst j) undef) w →
  ∀ K : Act → World → Prop, (∀ u w', Sp (tags i) u w' → (∀ j x, j ≠ i → Sp (tags j) x w → Sp (tags j) x w') →
   (∀ v' : Nat → Value, (∀ j, j ≠ i → E j = true → v' j = a.tmps.getD (dst j) undef) → (o.dst ≠ none → v' i = u) → G (done1 d i) v' w') → K (a.put o.dst u) w') →
  if Region.wanted o (yielded ops a.tmps) = true then Oper.wp P o a w K Q else K (a.put o.dst undef) w
def StepsOkE (P : Program) (ops : Array Oper) (Q : Exit → Act → World → Prop) (E : Nat → Bool) (Base : Act → Prop) (dst : Nat → Nat) (tags : Nat → Tg) (G : (Nat → Bool) → (Nat → Value) → World → Prop) : Nat → List Oper → Prop
 | _, [] => True
 | i, o :: r => (match E i with
  | true => EffOk P ops Q E Base dst tags G i o
  | false => ∀ d v, d i = false → Closed ops d → StepOk P ops Q Base dst (fun i v w => Sp (tags i) v w) (G d v) i o) ∧ StepsOkE P ops Q E Base dst tags G (i + 1) r
theorem StepsOkE.get {E : Nat → Bool} {Base : Act → Prop} {dst : Nat → Nat} {tags : Nat → Tg} {G : (Nat → Bool) → (Nat → Value) → World → Prop} : ∀ {l : List Oper} {n i : Nat} {o : Oper}, StepsOkE P ops Q E Base dst tags G n l → l[i]? = some o →
  (E (n + i) = true → EffOk P ops Q E Base dst tags G (n + i) o) ∧ (E (n + i) = false → ∀ d v, d (n + i) = false → Closed ops d → StepOk P ops Q Base dst (fun i v w => Sp (tags i) v w) (G d v) (n + i) o)
 | [], _, _, _, _, h => by simp at h
 | x :: r, n, 0, o, hs, h => by
  simp at h
  subst h
  have h1 := hs.1
  rw [Nat.add_zero]
  cases hE : E n with
  | true =>
   rw [hE] at h1
   exact ⟨fun _ => h1, fun h => Bool.noConfusion h⟩
  | false =>
   rw [hE] at h1
   exact ⟨fun h => Bool.noConfusion h, fun _ => h1⟩
 | x :: r, n, i + 1, o, hs, h => by
  have := StepsOkE.get (i := i) hs.2 (by simpa using h)
  rwa [Nat.add_assoc, Nat.add_comm 1 i] at this
structure RegE (ops : Array Oper) (n : Nat) (dst : Nat → Nat) (a0 : Act) (tags : Nat → Tg) (G : (Nat → Bool) → (Nat → Value) → World → Prop) (listed : Array Bool) (U : List Nat) (a : Act) (w : World) : Prop where
 size : listed.size = n
 closed : Closed ops fun j => listed.getD j false
 left : ∀ i, i ∈ U ↔ listed.getD i true = false
 nodup : U.Nodup
 defers : a.defers = a0.defers
 tmps : a.tmps.size = a0.tmps.size
 base : ∀ s, (∀ i, i < n → dst i ≠ s) → a.tmps.getD s undef = a0.tmps.getD s undef
 spec : ∀ i, listed.getD i false = true → Sp (tags i) (a.tmps.getD (dst i) undef) w
 ground : G (fun j => listed.getD j false) (fun j => a.tmps.getD (dst j) undef) w
theorem wpAny_eff {E : Nat → Bool} {dst : Nat → Nat} {a0 : Act} {tags : Nat → Tg} {G : (Nat → Bool) → (Nat → Value) → World → Prop}
  (hwait : waitsBelow ops = true) (hdst : ∀ (i : Nat) (o : Oper), ops[i]? = some o → o.dst = some (dst i) ∧ dst i < a0.tmps.size ∨ o.dst = none ∧ E i = true ∧ ∀ v w, Sp (tags i) v w)
  (hinj : ∀ i j, i < ops.size → j < ops.size → dst i = dst j → i = j) (hEs : ∀ j, E j = true → j < ops.size)
  (hGe : ∀ (d d' : Nat → Bool) (v v' : Nat → Value) (w : World), (∀ e, E e = true → d e = d' e) → (∀ e, E e = true → v e = v' e) → G d v w → G d' v' w)
  (hstep : ∀ (i : Nat) (o : Oper), ops[i]? = some o → (E i = true → EffOk P ops Q E (fun a => ∀ s, (∀ i, i < ops.size → dst i ≠ s) → a.tmps.getD s undef = a0.tmps.getD s undef) dst tags G i o) ∧
   (E i = false → ∀ d v, d i = false → Closed ops d → StepOk P ops Q (fun a => ∀ s, (∀ i, i < ops.size → dst i ≠ s) → a.tmps.getD s undef = a0.tmps.getD s undef) dst (fun i v w => Sp (tags i) v w) (G d v) i o))
  (hend : ∀ a w, a.defers = a0.defers → a.tmps.size = a0.tmps.size → (∀ s, (∀ i, i < ops.size → dst i ≠ s) → a.tmps.getD s undef = a0.tmps.getD s undef) → (∀ i, i < ops.size → Sp (tags i) (a.tmps.getD (dst i) undef) w) → G (fun _ => true) (fun j => a.tmps.getD (dst j) undef) w → Q .normal a w) :
  ∀ (fuel : Nat) (U : List Nat) (listed : Array Bool) (a : Act) (w : World), U.length = fuel → RegE ops ops.size dst a0 tags G listed U a w → wpAny P .any ops Q fuel listed a w := by
 have hdone : ∀ (U : List Nat) (listed : Array Bool) (a : Act) (w : World), RegE ops ops.size dst a0 tags G listed U a w → Region.ready .any ops listed = [] → Q .normal a w := by
  intro U listed a w inv hr
  have hall : ∀ i, i < ops.size → listed.getD i false = true := by
   intro i
   induction i using Nat.strongRecOn with
   | _ i ih =>
    intro hi
    cases hl : listed.getD i false with
    | true => rfl
    | false =>
     exfalso
     obtain ⟨o, ho⟩ : ∃ o, ops[i]? = some o := ⟨ops[i], Array.getElem?_eq_getElem hi⟩
     have hm : i ∈ Region.ready .any ops listed := mem_ready.2 ⟨by rw [getD_flip (by rw [inv.size]; exact hi)]; exact hl, o, ho, fun e he hb => by
      have h1 := waitsBelow_spec hwait ho he hb
      exact ih e.on h1 (by omega)⟩
     rw [hr] at hm
     cases hm
  exact hend a w inv.defers inv.tmps inv.base (fun i hi => inv.spec i (hall i hi)) (hGe _ _ _ _ w (fun e he => hall e (hEs e he)) (fun _ _ => rfl) inv.ground)
 intro fuel
 induction fuel with
 | zero =>
  intro U listed a w hU inv
  have hU0 : U = [] := List.eq_nil_of_length_eq_zero hU
  have hr : Region.ready .any ops listed = [] := by
   rw [List.eq_nil_iff_forall_not_mem]
   intro j hj
   have := (inv.left j).2 (mem_ready.1 hj).1
   rw [hU0] at this
   cases this
  exact ⟨hr, hdone U listed a w inv hr⟩
 | succ fuel ih =>
  intro U listed a w hU inv
  refine ⟨hdone U listed a w inv, fun i hi => ?_⟩
  obtain ⟨h0, o, ho, hall⟩ := mem_ready.1 hi
  have hin : i < ops.size := (Array.getElem?_eq_some_iff.1 ho).1
  have hU' : (U.erase i).length = fuel := by
   rw [List.length_erase_of_mem ((inv.left i).2 h0), hU]
   rfl
  have hleft : ∀ j, j ∈ U.erase i ↔ (listed.setIfInBounds i true).getD j true = false := by
   intro j
   rw [inv.nodup.mem_erase_iff, inv.left j]
   by_cases hj : i = j
   ·subst hj
    have : i < listed.size := by rw [inv.size]; exact hin
    simp [this]
   ·rw [getD_set_ne true hj]
    exact ⟨fun h => h.2, fun h => ⟨Ne.symm hj, h⟩⟩
  have hnew : ∀ j, (listed.setIfInBounds i true).getD j false = done1 (fun j => listed.getD j false) i j := by
   intro j
   unfold done1
   by_cases hj : j = i
   ·subst hj
    have : j < listed.size := by rw [inv.size]; exact hin
    simp [this]
   ·rw [if_neg hj, getD_set_ne false (Ne.symm hj)]
  have hdi : (fun j => listed.getD j false) i = false := by
   show listed.getD i false = false
   rw [← getD_flip (by rw [inv.size]; exact hin)]
   exact h0
  have hclosed : Closed ops fun j => (listed.setIfInBounds i true).getD j false := by
   intro j o' hj hd e he hb
   dsimp only at hd ⊢
   by_cases hij : i = j
   ·subst hij
    rw [ho] at hj
    cases hj
    have h1 := hall e he hb
    have h2 : i ≠ e.on := fun h => by
     rw [← h, ← getD_flip (by rw [inv.size]; exact hin), h0] at h1
     cases h1
    rw [getD_set_ne false h2]
    exact h1
   ·rw [getD_set_ne false hij] at hd
    have h1 := inv.closed j o' hj hd e he hb
    dsimp only at h1
    by_cases h2 : i = e.on
    ·rw [← h2]
     have : i < listed.size := by rw [inv.size]; exact hin
     simp [this]
    ·rw [getD_set_ne false h2]
     exact h1
  have hlt : ∀ j, listed.getD j false = true → j < ops.size := fun j hj => by
   rcases Nat.lt_or_ge j listed.size with h' | h'
   ·rw [← inv.size]; exact h'
   ·simp [Array.getElem?_eq_none h'] at hj
  -- what a step's end comes to
  have hnext : ∀ u w', Sp (tags i) u w' → (∀ j x, j ≠ i → Sp (tags j) x w → Sp (tags j) x w') →
    (∀ v' : Nat → Value, (∀ j, j ≠ i → E j = true → v' j = a.tmps.getD (dst j) undef) → (o.dst ≠ none → v' i = u) → G (done1 (fun j => listed.getD j false) i) v' w') → wpAny P .any ops Q fuel (listed.setIfInBounds i true) (a.put o.dst u) w' := by
   intro u w' hu hpers hG
   rcases hdst i o ho with ⟨hd, hdl⟩ | ⟨hd, hEi, htriv⟩
   ·have hput : (a.put o.dst u).tmps = a.tmps.setIfInBounds (dst i) u := by rw [hd]; rfl
    have hget : ∀ s, s ≠ dst i → (a.put o.dst u).tmps.getD s undef = a.tmps.getD s undef := fun s hne => by
     rw [hput]
     simp [Array.getElem?_setIfInBounds_ne (Ne.symm hne)]
    have hgot : (a.put o.dst u).tmps.getD (dst i) undef = u := by
     rw [hput]
     have : dst i < a.tmps.size := by rw [inv.tmps]; exact hdl
     simp [this]
    refine ih (U.erase i) _ _ w' hU' ⟨by rw [Array.size_setIfInBounds, inv.size], hclosed, hleft, inv.nodup.erase i, by rw [hd]; exact inv.defers, by rw [hput, Array.size_setIfInBounds]; exact inv.tmps, fun s hs => ?_, fun j hj => ?_, ?_⟩
    ·rw [hget s (Ne.symm (hs i hin))]
     exact inv.base s hs
    ·by_cases hij : i = j
     ·subst hij
      rw [hgot]
      exact hu
     ·rw [getD_set_ne false hij] at hj
      rw [hget _ (fun e => hij (hinj j i (hlt j hj) hin e).symm)]
      exact hpers j _ (Ne.symm hij) (inv.spec j hj)
    ·refine hGe _ _ _ _ w' (fun e _ => (hnew e).symm) (fun _ _ => rfl) (hG (fun j => (a.put o.dst u).tmps.getD (dst j) undef) (fun j hj hEj => hget _ (fun e => hj (hinj j i (hEs j hEj) hin e))) fun _ => hgot)
   ·have hput : a.put o.dst u = a := by rw [hd]; rfl
    rw [hput]
    refine ih (U.erase i) _ _ w' hU' ⟨by rw [Array.size_setIfInBounds, inv.size], hclosed, hleft, inv.nodup.erase i, inv.defers, inv.tmps, inv.base, fun j hj => ?_, ?_⟩
    ·by_cases hij : i = j
     ·subst hij
      exact htriv _ _
     ·rw [getD_set_ne false hij] at hj
      exact hpers j _ (Ne.symm hij) (inv.spec j hj)
    ·exact hGe _ _ _ _ w' (fun e _ => (hnew e).symm) (fun _ _ => rfl) (hG (fun j => a.tmps.getD (dst j) undef) (fun _ _ _ => rfl) (fun h => absurd hd h))
  have hs : if Region.wanted o (yielded ops a.tmps) = true then Oper.wp P o a w (wpAny P .any ops Q fuel (listed.setIfInBounds i true)) Q else wpAny P .any ops Q fuel (listed.setIfInBounds i true) (a.put o.dst undef) w := by
   cases hE : E i with
   | true => exact (hstep i o ho).1 hE _ a w hdi inv.base (fun e he hb => inv.spec e.on (hall e he hb)) (fun e he hb => hall e he hb) inv.ground _ hnext
   | false =>
    refine (hstep i o ho).2 hE _ _ hdi inv.closed a w inv.base (fun e he hb => inv.spec e.on (hall e he hb)) inv.ground _ (fun u w' hu hsub hg => ?_)
    refine hnext u w' hu (fun j x _ h => h.mono hsub) fun v' h1 h2 => ?_
    refine hGe _ _ _ _ w' (fun e he => ?_) (fun e he => ?_) hg
    ·have hne : e ≠ i := fun h => by rw [h, hE] at he; cases he
     unfold done1
     rw [if_neg hne]
    ·have hne : e ≠ i := fun h => by rw [h, hE] at he; cases he
     exact (h1 e hne he).symm
  unfold wpOp
  rw [ho]
  by_cases hw : Region.wanted o (yielded ops a.tmps) = true
  ·rw [if_pos hw] at hs
   simp only [hw, if_true]
   exact .inl hs
  ·rw [if_neg hw] at hs
   have hwf : Region.wanted o (yielded ops a.tmps) = false := by simpa using hw
   simp only [hwf, Bool.false_eq_true, if_false]
   exact hs
def dstOkE (ops : Array Oper) (E N : Nat → Bool) (dst : Nat → Nat) (n : Nat) : Bool :=
 (List.range ops.size).all fun i => match ops[i]? with
  | none => true
  | some o => match o.dst with
   | some s => s == dst i && decide (dst i < n)
   | none => E i && N i
theorem dstOkE_spec {E N : Nat → Bool} {dst : Nat → Nat} {n : Nat} (h : dstOkE ops E N dst n = true) {i : Nat} {o : Oper} (ho : ops[i]? = some o) : o.dst = some (dst i) ∧ dst i < n ∨ o.dst = none ∧ E i = true ∧ N i = true := by
 have hin : i < ops.size := (Array.getElem?_eq_some_iff.1 ho).1
 unfold dstOkE at h
 have h1 := List.all_eq_true.1 h i (by simpa using hin)
 rw [ho] at h1
 dsimp only at h1
 cases hd : o.dst with
 | none => rw [hd] at h1; exact .inr ⟨rfl, by simpa using h1⟩
 | some s =>
  rw [hd] at h1
  simp at h1
  exact .inl ⟨by rw [h1.1], h1.2⟩
theorem wp_region_eff {id : Nat} {a0 : Act} {w0 : World} (hm : P.follows .mixedOrders = true) (E N : Nat → Bool) (dst : Nat → Nat) (tags : Nat → Tg) (G : (Nat → Bool) → (Nat → Value) → World → Prop)
  (hwait : waitsBelow ops = true) (hdst : dstOkE ops E N dst a0.tmps.size = true) (hno : ∀ i, N i = true → ∀ v w, tags i v w)
  (hinj : ∀ i j, i < ops.size → j < ops.size → dst i = dst j → i = j) (hEs : ∀ j, E j = true → j < ops.size)
  (hGe : ∀ (d d' : Nat → Bool) (v v' : Nat → Value) (w : World), (∀ e, E e = true → d e = d' e) → (∀ e, E e = true → v e = v' e) → G d v w → G d' v' w)
  (hG : ∀ v, G (fun _ => false) v w0.drew)
  (hsteps : StepsOkE P ops Q E (fun a => ∀ s, (∀ i, i < ops.size → dst i ≠ s) → a.tmps.getD s undef = a0.tmps.getD s undef) dst tags G 0 ops.toList)
  (hend : ∀ a w, a.defers = a0.defers → a.tmps.size = a0.tmps.size → (∀ s, (∀ i, i < ops.size → dst i ≠ s) → a.tmps.getD s undef = a0.tmps.getD s undef) → (∀ i, i < ops.size → Sp (tags i) (a.tmps.getD (dst i) undef) w) → G (fun _ => true) (fun j => a.tmps.getD (dst j) undef) w → Q .normal a w) :
  (Code.region id ops true).wp P Q a0 w0 := by
 refine wp_region_any hm ?_
 refine wpAny_eff (E := E) (tags := tags) (G := G) hwait (fun i o ho => ?_) hinj hEs hGe (fun i o ho => ?_) hend ops.size (List.range ops.size) _ a0 _ (by simp) ⟨by simp, fun j o _ hd => ?_, fun i => ?_, List.nodup_range, rfl, rfl, fun _ _ => rfl, fun i hi => ?_, ?_⟩
 ·rcases dstOkE_spec hdst ho with h | ⟨h1, h2⟩
  ·exact .inl h
  ·exact .inr ⟨h1, h2.1, fun v w w' _ => hno i h2.2 v w'⟩
 ·have := StepsOkE.get (i := i) (o := o) hsteps (by simpa using ho)
  rwa [Nat.zero_add] at this
 ·exfalso
  by_cases h : j < ops.size <;> simp [h] at hd
 ·by_cases h : i < ops.size <;> simp [h]
 ·by_cases h : i < ops.size <;> simp [h] at hi
 ·refine hGe (fun _ => false) _ _ _ _ (fun e he => ?_) (fun _ _ => rfl) (hG _)
  have h := hEs e he
  simp [h]
theorem eff_run {E : Nat → Bool} {Base : Act → Prop} {dst : Nat → Nat} {tags : Nat → Tg} {G : (Nat → Bool) → (Nat → Value) → World → Prop} {i : Nat} {o : Oper} (hgd : o.guard = none)
  (h : ∀ (d : Nat → Bool) (a : Act) (w : World), d i = false → Base a → Deps o dst tags a w → (∀ e ∈ o.after, Region.binds .any e = true → d e.on = true) → G d (fun j => a.tmps.getD (dst j) undef) w →
   ∃ u w', (execOp a.eval o).run P w = .ok (.value u) w' ∧ Sp (tags i) u w' ∧ (∀ j x, j ≠ i → Sp (tags j) x w → Sp (tags j) x w') ∧
    ∀ v' : Nat → Value, (∀ j, j ≠ i → E j = true → v' j = a.tmps.getD (dst j) undef) → (o.dst ≠ none → v' i = u) → G (done1 d i) v' w') : EffOk P ops Q E Base dst tags G i o := by
 intro d a w hd hb hdp hal hG K hK
 rw [if_pos (wanted_free hgd a)]
 obtain ⟨u, w', h1, h2, h3, h4⟩ := h d a w hd hb hdp hal hG
 unfold Oper.wp
 rw [h1]
 exact hK u w' h2 h3 h4
def Static (tags : Nat → Tg) : Prop := ∀ j v W W', tags j v W → tags j v W'
theorem Static.keep {tags : Nat → Tg} (h : Static tags) {w w' : World} (i : Nat) : ∀ j x, j ≠ i → Sp (tags j) x w → Sp (tags j) x w' := fun j x _ hs u _ => h j x _ _ hs.now
theorem Static.sp {tags : Nat → Tg} (h : Static tags) {w : World} {i : Nat} {v : Value} (ht : tags i v w) : Sp (tags i) v w := fun u _ => h i v _ _ ht
theorem run_alloc_op {T : TypeId} {z : Value} {o : Oper} (ho : o.op = .alloc T) (hz : (P.info? T).map (fun i => i.zero) = some (some z)) (a : Act) (w : World) : (execOp a.eval o).run P w = .ok (.value (.pointer (some ⟨w.heap.size, 0, none⟩))) (w.alloc (.cells z.cells T)) := by
 obtain ⟨ie, hi, hzz⟩ := Option.map_eq_some_iff.1 hz
 have hzero : (zeroValue T).run P w = .ok z w := by simp [zeroValue, typeInfo, hi, hzz]
 unfold execOp
 simp only [ho, Instr.alloc, Sem.run_bind, Sem.run_pure, hzero, Result.andThen, newVar, run_newObj_alloc]
 rfl
end
end Go.Proofs.YtchaahnhpeoomaaGreat
