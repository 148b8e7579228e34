/-
  RegB: What an operation of a region that makes memory yields, by kinds (a value, a literal, bytes, a list of bytes), and what each kind of operation owes.
-/
import Derived.Laws.BitsAllLaws
import Derived.Lib.BitFns
import Derived.Test.YtchaahnhpeoomaaGreatQGDer
import Derived.Test.YtchaahnhpeoomaaGreatQGBas
import Derived.Laws.ResultCell
import Derived.WalkKit
import Derived.Great.BuildSlice
import Derived.Maps.AppendAt
import Derived.Test.YtchaahnhpeoomaaGreatQGShC
import Derived.Test.YtchaahnhpeoomaaGreatQGRsa
import Derived.Deep.DeepCutAuto
import Derived.Deep.CutRange
namespace Go.Proofs.YtchaahnhpeoomaaGreat
set_option linter.unusedVariables false
set_option linter.unusedSimpArgs false
set_option maxRecDepth 20000
open Go.RowKit
inductive Tag where
 | val (v : Value)
 | lit (xs : List Nat)
 | sl (xs : List Nat)
 | sls (L : List (List Nat))
theorem Sls.sub {w w' : World} {A : Option Addr} {l : List Sl} (h : Sls w A l) (hs : Sub w w') : Sls w' A l := by
 refine ⟨?_, fun s hm => (h.rd s hm).sub hs⟩
 rcases h.at_ with h0 | ⟨g, o, rfl, hg, hc⟩
 ·exact .inl h0
 ·exact .inr ⟨g, o, rfl, Nat.lt_of_lt_of_le hg hs.size, fun i s hi => hs.cell _ _ (hc i s hi)⟩
section
variable {P : Program} {ops : Array Oper} {Q : Exit → Act → World → Prop} {Base : Act → Prop} {dst : Nat → Nat} {tags : Nat → Tag} {B : Nat} {w0 : World} {i : Nat} {o : Oper}
theorem wanted_free (hgd : o.guard = none) (a : Act) : Region.wanted o (yielded ops a.tmps) = true := by simp [Region.wanted, hgd]
end
end Go.Proofs.YtchaahnhpeoomaaGreat
namespace Go.Proofs.YtchaahnhpeoomaaGreat
set_option linter.unusedVariables false
set_option linter.unusedSimpArgs false
set_option maxRecDepth 20000
open Go.RowKit
section
variable {P : Program} {ops : Array Oper} {Q : Exit → Act → World → Prop}
def leansOn (ops : Array Oper) : Bool :=
 (List.range (ops.size - 1)).all fun j => (List.range ops.size).any fun i => decide (j < i) && (match ops[i]? with
  | none => false
  | some o => o.after.toList.any fun e => Region.binds .any e && decide (e.on = j))
theorem leansOn_spec (h : leansOn ops = true) {j : Nat} (hj : j < ops.size - 1) : ∃ i o e, j < i ∧ ops[i]? = some o ∧ e ∈ o.after ∧ Region.binds .any e = true ∧ e.on = j := by
 unfold leansOn at h
 have h1 := List.all_eq_true.1 h j (by simpa using hj)
 obtain ⟨i, hi, h2⟩ := List.any_eq_true.1 h1
 rw [Bool.and_eq_true] at h2
 obtain ⟨h3, h4⟩ := h2
 cases ho : ops[i]? with
 | none => rw [ho] at h4; cases h4
 | some o =>
  rw [ho] at h4
  obtain ⟨e, he, h5⟩ := List.any_eq_true.1 h4
  rw [Bool.and_eq_true] at h5
  exact ⟨i, o, e, by simpa using h3, ho, by simpa using he, h5.1, by simpa using h5.2⟩
structure RegInvL (ops : Array Oper) (dst : Nat → Nat) (a0 : Act) (Spec : Nat → Value → World → Prop) (G : World → Prop) (listed : Array Bool) (U : List Nat) (a : Act) (w : World) : Prop where
 size : listed.size = ops.size
 left : ∀ i, i ∈ U ↔ listed.getD i true = false
 nodup : U.Nodup
 closed : ∀ i o, listed.getD i false = true → ops[i]? = some o → ∀ e ∈ o.after, Region.binds .any e = true → listed.getD e.on false = true
 open_ : listed.getD (ops.size - 1) true = false
 defers : a.defers = a0.defers
 tmps : a.tmps.size = a0.tmps.size
 base : ∀ s, (∀ i, i < ops.size - 1 → dst i ≠ s) → a.tmps.getD s undef = a0.tmps.getD s undef
 spec : ∀ i, listed.getD i false = true → Spec i (a.tmps.getD (dst i) undef) w
 ground : G w
theorem wpAny_last {dst : Nat → Nat} {a0 : Act} {Spec : Nat → Value → World → Prop} {G : World → Prop} (hn : 0 < ops.size)
  (hwait : waitsBelow ops = true) (hlean : leansOn ops = true) (hdst : ∀ (i : Nat) (o : Oper), i < ops.size - 1 → ops[i]? = some o → o.dst = some (dst i))
  (hinj : ∀ i j, i < ops.size - 1 → j < ops.size - 1 → dst i = dst j → i = j) (hlt : ∀ i, i < ops.size - 1 → dst i < a0.tmps.size)
  (hmono : ∀ i v w w', Spec i v w → Sub w w' → Spec i v w')
  (hstep : ∀ (i : Nat) (o : Oper), i < ops.size - 1 → ops[i]? = some o → ∀ a w, (∀ s, (∀ i, i < ops.size - 1 → dst i ≠ s) → a.tmps.getD s undef = a0.tmps.getD s undef) →
   (∀ e ∈ o.after, Region.binds .any e = true → Spec e.on (a.tmps.getD (dst e.on) undef) w) → G w →
   ∀ K : Act → World → Prop, (∀ v w', Spec i v w' → Sub w w' → G w' → K (a.put o.dst v) w') → if Region.wanted o (yielded ops a.tmps) = true then Oper.wp P o a w K Q else K (a.put o.dst undef) w)
  (hend : ∀ (o : Oper), ops[ops.size - 1]? = some o → ∀ a w, a.defers = a0.defers → a.tmps.size = a0.tmps.size → (∀ s, (∀ i, i < ops.size - 1 → dst i ≠ s) → a.tmps.getD s undef = a0.tmps.getD s undef) →
   (∀ i, i < ops.size - 1 → Spec i (a.tmps.getD (dst i) undef) w) → G w → ∀ K : Act → World → Prop, (∀ a' w', Q .normal a' w' → K a' w') → if Region.wanted o (yielded ops a.tmps) = true then Oper.wp P o a w K Q else K (a.put o.dst undef) w) :
  ∀ (fuel : Nat) (U : List Nat) (listed : Array Bool) (a : Act) (w : World), U.length = fuel → RegInvL ops dst a0 Spec G listed U a w → wpAny P .any ops Q fuel listed a w := by
 have hnone : ∀ (U : List Nat) (listed : Array Bool) (a : Act) (w : World), RegInvL ops dst a0 Spec G listed U a w → Region.ready .any ops listed ≠ [] := by
  intro U listed a w inv hr
  have hall : ∀ i, i < ops.size → listed.getD i false = true := by
   intro i
   induction i using Nat.strongRecOn with
   | _ i ih =>
    intro hi
    cases hl : listed.getD i false with
    | true => rfl
    | false =>
     exfalso
     obtain ⟨o, ho⟩ : ∃ o, ops[i]? = some o := ⟨ops[i], Array.getElem?_eq_getElem hi⟩
     have hm : i ∈ Region.ready .any ops listed := mem_ready.2 ⟨by rw [getD_flip (by rw [inv.size]; exact hi)]; exact hl, o, ho, fun e he hb => by
      have h1 := waitsBelow_spec hwait ho he hb
      exact ih e.on h1 (by omega)⟩
     rw [hr] at hm
     cases hm
  have h1 := hall (ops.size - 1) (by omega)
  rw [← getD_flip (by rw [inv.size]; omega), inv.open_] at h1
  cases h1
 intro fuel
 induction fuel with
 | zero =>
  intro U listed a w hU inv
  exfalso
  have hU0 : U = [] := List.eq_nil_of_length_eq_zero hU
  have := (inv.left (ops.size - 1)).2 inv.open_
  rw [hU0] at this
  cases this
 | succ fuel ih =>
  intro U listed a w hU inv
  refine ⟨fun hr => absurd hr (hnone U listed a w inv), fun i hi => ?_⟩
  obtain ⟨h0, o, ho, hall⟩ := mem_ready.1 hi
  have hin : i < ops.size := (Array.getElem?_eq_some_iff.1 ho).1
  have key : (if Region.wanted o (yielded ops a.tmps) = true then Oper.wp P o a w (wpAny P .any ops Q fuel (listed.setIfInBounds i true)) Q else wpAny P .any ops Q fuel (listed.setIfInBounds i true) (a.put o.dst undef) w) := by
   by_cases hL : i = ops.size - 1
   ·have hdone : ∀ k j, ops.size - 1 - j ≤ k → j < ops.size - 1 → listed.getD j false = true := by
     intro k
     induction k with
     | zero => intro j h1 h2; omega
     | succ k ihk =>
      intro j h1 h2
      obtain ⟨i', o', e, h3, h4, h5, h6, h7⟩ := leansOn_spec hlean h2
      have hi' : i' < ops.size := (Array.getElem?_eq_some_iff.1 h4).1
      by_cases h8 : i' = ops.size - 1
      ·have : i' = i := by omega
       subst this
       rw [ho] at h4
       cases h4
       rw [← h7]
       exact hall e h5 h6
      ·have h9 := ihk i' (by omega) (by omega)
       rw [← h7]
       exact inv.closed i' o' h9 h4 e h5 h6
    have hd : ∀ j, j < ops.size - 1 → listed.getD j false = true := fun j hj => hdone _ j (Nat.le_refl _) hj
    have hr : Region.ready .any ops (listed.setIfInBounds i true) = [] := by
     rw [List.eq_nil_iff_forall_not_mem]
     intro j hj
     obtain ⟨h1, o', ho', _⟩ := mem_ready.1 hj
     have hjn : j < ops.size := (Array.getElem?_eq_some_iff.1 ho').1
     by_cases hji : i = j
     ·subst hji
      have : i < listed.size := by rw [inv.size]; exact hin
      simp [this] at h1
     ·rw [getD_set_ne true hji] at h1
      rw [getD_flip (by rw [inv.size]; exact hjn), hd j (by omega)] at h1
      cases h1
    subst hL
    refine hend o ho a w inv.defers inv.tmps inv.base (fun j hj => inv.spec j (hd j hj)) inv.ground _ (fun a' w' hq => ?_)
    cases fuel with
    | zero => exact ⟨hr, hq⟩
    | succ f => exact ⟨fun _ => hq, fun j hj => by rw [hr] at hj; cases hj⟩
   ·refine hstep i o (by omega) ho a w inv.base (fun e he hb => inv.spec e.on (hall e he hb)) inv.ground _ (fun v w' hv hsub hg => ?_)
    have hi1 : i < ops.size - 1 := by omega
    have hd := hdst i o hi1 ho
    have hput : (a.put o.dst v).tmps = a.tmps.setIfInBounds (dst i) v := by rw [hd]; rfl
    have hget : ∀ s, s ≠ dst i → (a.put o.dst v).tmps.getD s undef = a.tmps.getD s undef := fun s hne => by
     rw [hput]
     simp [Array.getElem?_setIfInBounds_ne (Ne.symm hne)]
    have hgot : (a.put o.dst v).tmps.getD (dst i) undef = v := by
     rw [hput]
     have : dst i < a.tmps.size := by rw [inv.tmps]; exact hlt i hi1
     simp [this]
    have hset : ∀ (d : Bool) (j : Nat), j ≠ i → (listed.setIfInBounds i true).getD j d = listed.getD j d := fun d j hj => getD_set_ne d (Ne.symm hj)
    have hself : ∀ d : Bool, (listed.setIfInBounds i true).getD i d = true := fun d => by
     have : i < listed.size := by rw [inv.size]; exact hin
     simp [this]
    refine ih (U.erase i) _ _ w' ?_ ⟨?_, ?_, ?_, ?_, ?_, ?_, ?_, ?_, ?_, hg⟩
    ·rw [List.length_erase_of_mem ((inv.left i).2 h0), hU]
     rfl
    ·rw [Array.size_setIfInBounds, inv.size]
    ·intro j
     rw [inv.nodup.mem_erase_iff, inv.left j]
     by_cases hj : j = i
     ·subst hj
      rw [hself]
      simp
     ·rw [hset true j hj]
      exact ⟨fun h => h.2, fun h => ⟨hj, h⟩⟩
    ·exact inv.nodup.erase i
    ·intro j o' hj ho' e he hb
     have hlisted : listed.getD e.on false = true := by
      by_cases hji : j = i
      ·subst hji
       rw [ho] at ho'
       cases ho'
       exact hall e he hb
      ·rw [hset false j hji] at hj
       exact inv.closed j o' hj ho' e he hb
     by_cases hei : e.on = i
     ·rw [hei]; exact hself false
     ·rw [hset false _ hei]; exact hlisted
    ·rw [hset true _ (by omega)]
     exact inv.open_
    ·rw [hd]; exact inv.defers
    ·rw [hput, Array.size_setIfInBounds]; exact inv.tmps
    ·intro s hs
     rw [hget s (Ne.symm (hs i hi1))]
     exact inv.base s hs
    ·intro j hj
     by_cases hij : i = j
     ·subst hij
      rw [hgot]
      exact hv
     ·rw [getD_set_ne false hij] at hj
      have hjn : j < ops.size := by
       rcases Nat.lt_or_ge j listed.size with h' | h'
       ·rw [← inv.size]; exact h'
       ·simp [Array.getElem?_eq_none h'] at hj
      have hjl : j ≠ ops.size - 1 := by
       intro e
       rw [e, ← getD_flip (by rw [inv.size]; omega), inv.open_] at hj
       cases hj
      rw [hget _ (fun e => hij (hinj j i (by omega) hi1 e).symm)]
      exact hmono j _ w w' (inv.spec j hj) hsub
  unfold wpOp
  rw [ho]
  by_cases hw : Region.wanted o (yielded ops a.tmps) = true
  ·rw [if_pos hw] at key
   simp only [hw, if_true]
   exact .inl key
  ·rw [if_neg hw] at key
   have hwf : Region.wanted o (yielded ops a.tmps) = false := by simpa using hw
   simp only [hwf, Bool.false_eq_true, if_false]
   exact key
def dstOkL (ops : Array Oper) (dst : Nat → Nat) : Bool :=
 (List.range (ops.size - 1)).all fun i => match ops[i]? with
  | none => true
  | some o => o.dst == some (dst i)
theorem dstOkL_spec {dst : Nat → Nat} (h : dstOkL ops dst = true) (i : Nat) (o : Oper) (hi : i < ops.size - 1) (ho : ops[i]? = some o) : o.dst = some (dst i) := by
 unfold dstOkL at h
 have h1 := List.all_eq_true.1 h i (by simpa using hi)
 rw [ho] at h1
 simpa using h1
theorem wp_region_last {id : Nat} {a0 : Act} {w0 : World} (hm : P.follows .mixedOrders = true) (dst : Nat → Nat) (Spec : Nat → Value → World → Prop) (G : World → Prop) (hn : 0 < ops.size)
  (hwait : waitsBelow ops = true) (hlean : leansOn ops = true) (hdst : dstOkL ops dst = true)
  (hinj : ∀ i j, i < ops.size - 1 → j < ops.size - 1 → dst i = dst j → i = j) (hlt : ∀ i, i < ops.size - 1 → dst i < a0.tmps.size)
  (hmono : ∀ i v w w', Spec i v w → Sub w w' → Spec i v w') (hG : G w0.drew)
  (hsteps : StepsOk P ops Q (fun a => ∀ s, (∀ i, i < ops.size - 1 → dst i ≠ s) → a.tmps.getD s undef = a0.tmps.getD s undef) dst Spec G 0 ops.pop.toList)
  (hend : ∀ (o : Oper), ops[ops.size - 1]? = some o → ∀ a w, a.defers = a0.defers → a.tmps.size = a0.tmps.size → (∀ s, (∀ i, i < ops.size - 1 → dst i ≠ s) → a.tmps.getD s undef = a0.tmps.getD s undef) →
   (∀ i, i < ops.size - 1 → Spec i (a.tmps.getD (dst i) undef) w) → G w → ∀ K : Act → World → Prop, (∀ a' w', Q .normal a' w' → K a' w') → if Region.wanted o (yielded ops a.tmps) = true then Oper.wp P o a w K Q else K (a.put o.dst undef) w) :
  (Code.region id ops true).wp P Q a0 w0 := by
 refine wp_region_any hm ?_
 refine wpAny_last hn hwait hlean (dstOkL_spec hdst) hinj hlt hmono (fun i o hi ho => ?_) hend ops.size (List.range ops.size) _ a0 _ (by simp) ⟨by simp, fun i => ?_, List.nodup_range, fun i o hi => ?_, ?_, rfl, rfl, fun _ _ => rfl, fun i hi => ?_, hG⟩
 ·have := StepsOk.get (i := i) (o := o) hsteps (by
   rw [← ho]
   simp [Array.getElem?_pop, hi])
  rw [Nat.zero_add] at this
  exact this
 ·by_cases h : i < ops.size <;> simp [h]
 ·by_cases h : i < ops.size <;> simp [h] at hi
 ·have : ops.size - 1 < ops.size := by omega
  simp [this]
 ·by_cases h : i < ops.size <;> simp [h] at hi
end
section
variable {P : Program} {ops : Array Oper} {Q : Exit → Act → World → Prop}
end
end Go.Proofs.YtchaahnhpeoomaaGreat
namespace Go.Proofs.YtchaahnhpeoomaaGreat
set_option linter.unusedVariables false
set_option linter.unusedSimpArgs false
set_option maxRecDepth 20000
open Go.RowKit
section
variable {P : Program} {fn : Func} {p u v : Tmp} {T : TypeId}
theorem results_row (h : fn.results = #[.cell p T]) (tmps : Array Value) (w : World) (g o : Nat) (cs : List Value) (d : TypeDesc)
  (hp : tmps.getD p undef = .pointer (some ⟨g, o, none⟩)) (hc : w.rangeAt g o cs) (hu : P.underlying T = some d) (hd : d.isRow = true) (hi : (P.info? T).map (·.size) = some cs.length) :
  (results fn tmps).run P w = .ok (.agg cs.toArray) w := by
 have hp' : tmps[p]?.getD undef = .pointer (some ⟨g, o, none⟩) := by simpa using hp
 have hl := run_loadVar_mid (P := P) w g o T _ _ hc hu hd hi
 simp [results, h, hp', asAddr, hl]
end
end Go.Proofs.YtchaahnhpeoomaaGreat
namespace Go.Proofs.YtchaahnhpeoomaaGreat
set_option linter.unusedVariables false
set_option linter.unusedSimpArgs false
set_option maxRecDepth 20000
open Go.RowKit
theorem fa_cert0 (g off : Nat) (W : World) : (Instr.fieldAt 30 (.pointer (some ⟨g, off, none⟩)) 0).run Tryz.prog W = .ok (.pointer (some ⟨g, off, none⟩)) W := by go_simp
theorem fa_cert1 (g off : Nat) (W : World) : (Instr.fieldAt 30 (.pointer (some ⟨g, off, none⟩)) 1).run Tryz.prog W = .ok (.pointer (some ⟨g, off + 1, none⟩)) W := by go_simp
theorem fa_cert2 (g off : Nat) (W : World) : (Instr.fieldAt 30 (.pointer (some ⟨g, off, none⟩)) 2).run Tryz.prog W = .ok (.pointer (some ⟨g, off + 2, none⟩)) W := by go_simp
theorem fa_cert3 (g off : Nat) (W : World) : (Instr.fieldAt 30 (.pointer (some ⟨g, off, none⟩)) 3).run Tryz.prog W = .ok (.pointer (some ⟨g, off + 3, none⟩)) W := by go_simp
theorem fa_cert4 (g off : Nat) (W : World) : (Instr.fieldAt 30 (.pointer (some ⟨g, off, none⟩)) 4).run Tryz.prog W = .ok (.pointer (some ⟨g, off + 4, none⟩)) W := by go_simp
theorem fa_cert5 (g off : Nat) (W : World) : (Instr.fieldAt 30 (.pointer (some ⟨g, off, none⟩)) 5).run Tryz.prog W = .ok (.pointer (some ⟨g, off + 5, none⟩)) W := by go_simp
theorem fa_cert6 (g off : Nat) (W : World) : (Instr.fieldAt 30 (.pointer (some ⟨g, off, none⟩)) 6).run Tryz.prog W = .ok (.pointer (some ⟨g, off + 11, none⟩)) W := by go_simp
theorem fa_cert7 (g off : Nat) (W : World) : (Instr.fieldAt 30 (.pointer (some ⟨g, off, none⟩)) 7).run Tryz.prog W = .ok (.pointer (some ⟨g, off + 17, none⟩)) W := by go_simp
theorem fa_cert8 (g off : Nat) (W : World) : (Instr.fieldAt 30 (.pointer (some ⟨g, off, none⟩)) 8).run Tryz.prog W = .ok (.pointer (some ⟨g, off + 19, none⟩)) W := by go_simp
theorem fa_rung0 (g off : Nat) (W : World) : (Instr.fieldAt 125 (.pointer (some ⟨g, off, none⟩)) 0).run Tryz.prog W = .ok (.pointer (some ⟨g, off, none⟩)) W := by go_simp
theorem fa_rung1 (g off : Nat) (W : World) : (Instr.fieldAt 125 (.pointer (some ⟨g, off, none⟩)) 1).run Tryz.prog W = .ok (.pointer (some ⟨g, off + 1, none⟩)) W := by go_simp
theorem fa_rung2 (g off : Nat) (W : World) : (Instr.fieldAt 125 (.pointer (some ⟨g, off, none⟩)) 2).run Tryz.prog W = .ok (.pointer (some ⟨g, off + 2, none⟩)) W := by go_simp
theorem fa_rung3 (g off : Nat) (W : World) : (Instr.fieldAt 125 (.pointer (some ⟨g, off, none⟩)) 3).run Tryz.prog W = .ok (.pointer (some ⟨g, off + 3, none⟩)) W := by go_simp
theorem fa_rung4 (g off : Nat) (W : World) : (Instr.fieldAt 125 (.pointer (some ⟨g, off, none⟩)) 4).run Tryz.prog W = .ok (.pointer (some ⟨g, off + 4, none⟩)) W := by go_simp
theorem fa_rung5 (g off : Nat) (W : World) : (Instr.fieldAt 125 (.pointer (some ⟨g, off, none⟩)) 5).run Tryz.prog W = .ok (.pointer (some ⟨g, off + 5, none⟩)) W := by go_simp
theorem ld_u8s (p : Addr) (v : Value) (W : World) (h : W.cell? p = some v) : (Instr.loadAt 22 (.pointer (some p))).run Tryz.prog W = .ok v W := by go_simp
theorem ld_str (p : Addr) (v : Value) (W : World) (h : W.cell? p = some v) : (Instr.loadAt 9 (.pointer (some p))).run Tryz.prog W = .ok v W := by go_simp
theorem ld_bool (p : Addr) (v : Value) (W : World) (h : W.cell? p = some v) : (Instr.loadAt 4 (.pointer (some p))).run Tryz.prog W = .ok v W := by go_simp
theorem ld_int (p : Addr) (v : Value) (W : World) (h : W.cell? p = some v) : (Instr.loadAt 3 (.pointer (some p))).run Tryz.prog W = .ok v W := by go_simp
theorem ld_u8 (p : Addr) (v : Value) (W : World) (h : W.cell? p = some v) : (Instr.loadAt 5 (.pointer (some p))).run Tryz.prog W = .ok v W := by go_simp
theorem sz_cert : (Tryz.prog.info? 30).map (·.size) = some 24 := by kernel_rfl
theorem sz_rung : (Tryz.prog.info? 125).map (·.size) = some 6 := by kernel_rfl
theorem sz_time : (Tryz.prog.info? 25).map (·.size) = some 6 := by kernel_rfl
theorem cf_write (vs : Array Value) (W : World) : (callFunc 40 vs).run Tryz.prog W = .ok (.enter 40 vs) W := by go_simp
theorem cf_seq (vs : Array Value) (W : World) : (callFunc 95 vs).run Tryz.prog W = .ok (.enter 95 vs) W := by go_simp
theorem cf_name (vs : Array Value) (W : World) : (callFunc 97 vs).run Tryz.prog W = .ok (.enter 97 vs) W := by go_simp
theorem cf_general (vs : Array Value) (W : World) : (callFunc 130 vs).run Tryz.prog W = .ok (.enter 130 vs) W := by go_simp
theorem siz_u8 : (Tryz.prog.info? 5).map (·.size) = some 1 := by kernel_rfl
theorem zer_u8 : ((Tryz.prog.info? 5).bind (·.zero)).isSome = true := by kernel_rfl
theorem siz_u8s : (Tryz.prog.info? 22).map (·.size) = some 1 := by kernel_rfl
theorem zer_u8s : ((Tryz.prog.info? 22).bind (·.zero)).isSome = true := by kernel_rfl
theorem ia_rung (g off n c i : Nat) (h : i < n) (W : World) : (Instr.indexAt 123 (.slice (some ⟨g, off, none⟩) n c) (.int .i64 (i : Int))).run Tryz.prog W = .ok (.pointer (some ⟨g, off + i * 6, none⟩)) W := by
 have h1 : (0 : Int) ≤ (i : Int) ∧ (i : Int) < (n : Int) := by omega
 go_simp
theorem ia_cert (g off n c i : Nat) (h : i < n) (W : World) : (Instr.indexAt 31 (.slice (some ⟨g, off, none⟩) n c) (.int .i64 (i : Int))).run Tryz.prog W = .ok (.pointer (some ⟨g, off + i * 24, none⟩)) W := by
 have h1 : (0 : Int) ≤ (i : Int) ∧ (i : Int) < (n : Int) := by omega
 go_simp
end Go.Proofs.YtchaahnhpeoomaaGreat
namespace Go.Proofs.YtchaahnhpeoomaaGreat
set_option linter.unusedVariables false
set_option linter.unusedSimpArgs false
set_option maxRecDepth 20000
open Go.RowKit
abbrev Tg := Value → World → Prop
def Sp (T : Tg) (v : Value) (w : World) : Prop := ∀ w', Sub w w' → T v w'
theorem Sp.mono {T : Tg} {v : Value} {w w' : World} (h : Sp T v w) (hs : Sub w w') : Sp T v w' := fun u hu => h u (hs.trans hu)
theorem Sp.now {T : Tg} {v : Value} {w : World} (h : Sp T v w) : T v w := h w (Sub.refl w)
def tv (V : Value) : Tg := fun v _ => v = V
def tsl (xs : List Nat) : Tg := fun v W => ∃ A c, v = .slice A xs.length c ∧ xs.length ≤ c ∧ c ≤ maxLen ∧ Rd .u8 W A xs
def tnew (B : Nat) (xs : List Nat) : Tg := fun v W => ∃ A c, v = .slice A xs.length c ∧ xs.length ≤ c ∧ c ≤ maxLen ∧ Rd .u8 W A xs ∧ ∀ g, g < B → Off A xs g
theorem tnew_tsl {B : Nat} {xs : List Nat} {v : Value} {w : World} (h : tnew B xs v w) : tsl xs v w := by
 obtain ⟨A, c, h1, h2, h3, h4, _⟩ := h
 exact ⟨A, c, h1, h2, h3, h4⟩
theorem off_of_own {k : IntKind} {w : World} {B g : Nat} {A : Option Addr} {xs : List Nat} (h : Own k w B A xs) (hg : g < B) : Off A xs g := by
 rcases h with rfl | ⟨g', off, ds, rfl, hB, _, _⟩
 ·exact Or.inl rfl
 ·exact Off.of_ne (by omega)
def tlit (B : Nat) (xs : List Nat) : Tg := fun v W => ∃ g, v = .slice (some ⟨g, 0, none⟩) xs.length xs.length ∧ Rd .u8 W (some ⟨g, 0, none⟩) xs ∧ W.shape? g = some (5, xs.length) ∧ B ≤ g ∧ xs.length ≤ maxLen
def tsls (L : List (List Nat)) : Tg := fun v W => ∃ g l, v = .slice (some ⟨g, 0, none⟩) L.length L.length ∧ Sls W (some ⟨g, 0, none⟩) l ∧ l.map Sl.xs = L
def tptr (B : Nat) (cs : Array Value) (t : TypeId) : Tg := fun v W => ∃ g, v = .pointer (some ⟨g, 0, none⟩) ∧ B ≤ g ∧ W.heap[g]? = some (.cells cs t (0, 0))
theorem Sp.tv {V v : Value} {w : World} (h : v = V) : Sp (tv V) v w := fun _ _ => h
theorem Sp.tsl {xs : List Nat} {A : Option Addr} {c : Nat} {w : World} (h1 : xs.length ≤ c) (h2 : c ≤ maxLen) (h3 : Rd .u8 w A xs) : Sp (tsl xs) (.slice A xs.length c) w := fun w' hs => ⟨A, c, rfl, h1, h2, h3.sub hs⟩
theorem tlit_tsl {B : Nat} {xs : List Nat} {v : Value} {w : World} (h : tlit B xs v w) : tsl xs v w := by
 obtain ⟨g, h1, h2, h3, h4, h5⟩ := h
 exact ⟨_, _, h1, Nat.le_refl _, h5, h2⟩
section
variable {P : Program} {ops : Array Oper} {Q : Exit → Act → World → Prop} {Base : Act → Prop} {dst : Nat → Nat} {tags : Nat → Tg} {w0 : World} {i : Nat} {o : Oper}
def Deps (o : Oper) (dst : Nat → Nat) (tags : Nat → Tg) (a : Act) (w : World) : Prop := ∀ e ∈ o.after, Region.binds .any e = true → Sp (tags e.on) (a.tmps.getD (dst e.on) undef) w
def Src (o : Oper) (Base : Act → Prop) (dst : Nat → Nat) (tags : Nat → Tg) (G : World → Prop) (x : Operand) (T : Tg) : Prop := ∀ a w, Base a → Deps o dst tags a w → G w → Sp T (a.eval x) w
theorem src_dep {G : World → Prop} {j : Nat} {T : Tg} {e : Edge} (he : e ∈ o.after) (hb : Region.binds .any e = true) (hj : e.on = j) (hT : tags j = T) : Src o Base dst tags G (.tmp (dst j)) T := fun a w _ h _ => by
 subst hj
 subst hT
 exact h e he hb
theorem src_base {G : World → Prop} {a0 : Act} {n s : Nat} {V : Value} (hs : ∀ i, i < n → dst i ≠ s) (h0 : a0.tmps.getD s undef = V) : Src o (fun a => ∀ s, (∀ i, i < n → dst i ≠ s) → a.tmps.getD s undef = a0.tmps.getD s undef) dst tags G (.tmp s) (tv V) := fun a w hb _ _ _ _ => (hb s hs).trans h0
theorem src_base_sl {G : World → Prop} {a0 : Act} {n s c : Nat} {A : Option Addr} {xs : List Nat} (hs : ∀ i, i < n → dst i ≠ s) (h0 : a0.tmps.getD s undef = .slice A xs.length c) (hcap : xs.length ≤ c) (hmax : c ≤ maxLen) (hr : ∀ w, G w → Rd .u8 w A xs) : Src o (fun a => ∀ s, (∀ i, i < n → dst i ≠ s) → a.tmps.getD s undef = a0.tmps.getD s undef) dst tags G (.tmp s) (tsl xs) := fun a w hb _ hg w' hs' => ⟨A, c, (hb s hs).trans h0, hcap, hmax, (hr w hg).sub hs'⟩
theorem src_const {G : World → Prop} {V : Value} : Src o Base dst tags G (.const V) (tv V) := fun _ _ _ _ _ _ _ => rfl
theorem Src.imp {G : World → Prop} {x : Operand} {T T' : Tg} (h : Src o Base dst tags G x T) (hi : ∀ v w, T v w → T' v w) : Src o Base dst tags G x T' := fun a w hb hd hg w' hs => hi _ _ (h a w hb hd hg w' hs)
theorem Src.new {G : World → Prop} {x : Operand} {B : Nat} {xs : List Nat} (h : Src o Base dst tags G x (tnew B xs)) : Src o Base dst tags G x (tsl xs) := h.imp fun _ _ q => tnew_tsl q
theorem Src.lit {G : World → Prop} {x : Operand} {B : Nat} {xs : List Nat} (h : Src o Base dst tags G x (tlit B xs)) : Src o Base dst tags G x (tsl xs) := h.imp fun _ _ q => tlit_tsl q
theorem st_run {G : World → Prop} (hgd : o.guard = none) (h : ∀ a w, Base a → Deps o dst tags a w → G w → ∃ v w', (execOp a.eval o).run P w = .ok (.value v) w' ∧ Sub w w' ∧ G w' ∧ Sp (tags i) v w') :
  StepOk P ops Q Base dst (fun i v w => Sp (tags i) v w) G i o := by
 intro a w hb hd hg K hK
 rw [if_pos (wanted_free hgd a)]
 obtain ⟨v, w', h1, h2, h3, h4⟩ := h a w hb hd hg
 unfold Oper.wp
 rw [h1]
 exact hK v w' h4 h2 h3
theorem st_move {G : World → Prop} {x : Operand} (hgd : o.guard = none) (ho : o.op = .move x ∨ o.op = .assign x) (hx : Src o Base dst tags G x (tags i)) :
  StepOk P ops Q Base dst (fun i v w => Sp (tags i) v w) G i o :=
 st_run hgd fun a w hb hd hg => ⟨a.eval x, w, by rcases ho with h | h <;> (unfold execOp; simp only [h, Sem.run_pure]), Sub.refl w, hg, hx a w hb hd hg⟩
theorem st_field {G : World → Prop} {x : Operand} {T : TypeId} {k g off off' : Nat} (hgd : o.guard = none) (ho : o.op = .fieldAddr T x k) (ht : tags i = tv (.pointer (some ⟨g, off', none⟩))) (hx : Src o Base dst tags G x (tv (.pointer (some ⟨g, off, none⟩))))
  (hrun : ∀ W, (Instr.fieldAt T (.pointer (some ⟨g, off, none⟩)) k).run P W = .ok (.pointer (some ⟨g, off', none⟩)) W) : StepOk P ops Q Base dst (fun i v w => Sp (tags i) v w) G i o :=
 st_run hgd fun a w hb hd hg => ⟨.pointer (some ⟨g, off', none⟩), w, by
  have h1 : a.eval x = _ := (hx a w hb hd hg).now
  unfold execOp
  simp only [ho, h1, Sem.run_bind, Sem.run_pure, hrun, Result.andThen_ok], Sub.refl w, hg, by rw [ht]; exact Sp.tv rfl⟩
theorem st_load {G : World → Prop} {x : Operand} {T : TypeId} {p : Addr} {v : Value} (hgd : o.guard = none) (ho : o.op = .load T x) (ht : tags i = tv v) (hx : Src o Base dst tags G x (tv (.pointer (some p))))
  (hrun : ∀ W, W.cell? p = some v → (Instr.loadAt T (.pointer (some p))).run P W = .ok v W) (hc : ∀ w, G w → w.cell? p = some v) : StepOk P ops Q Base dst (fun i v w => Sp (tags i) v w) G i o :=
 st_run hgd fun a w hb hd hg => ⟨v, w, by
  have h1 : a.eval x = _ := (hx a w hb hd hg).now
  unfold execOp
  simp only [ho, h1, Sem.run_bind, Sem.run_pure, hrun w (hc w hg), Result.andThen_ok], Sub.refl w, hg, by rw [ht]; exact Sp.tv rfl⟩
theorem st_loadR {G : World → Prop} {x : Operand} {T : TypeId} {b off : Nat} {cs : List Value} {d : TypeDesc} (hgd : o.guard = none) (ho : o.op = .load T x) (ht : tags i = tv (.agg cs.toArray)) (hx : Src o Base dst tags G x (tv (.pointer (some ⟨b, off, none⟩))))
  (hu : P.underlying T = some d) (hdr : d.isRow = true) (hi : (P.info? T).map (·.size) = some cs.length) (hc : ∀ w, G w → w.rangeAt b off cs) : StepOk P ops Q Base dst (fun i v w => Sp (tags i) v w) G i o :=
 st_run hgd fun a w hb hd hg => ⟨.agg cs.toArray, w, by
  have h1 : a.eval x = _ := (hx a w hb hd hg).now
  unfold execOp
  simp only [ho, h1, Instr.loadAt, Instr.sureAddr, Sem.run_bind, Sem.run_pure, Result.andThen_ok, run_loadVar_mid w b off T cs d (hc w hg) hu hdr hi], Sub.refl w, hg, by rw [ht]; exact Sp.tv rfl⟩
theorem st_index {G : World → Prop} {x y : Operand} {T : TypeId} {g off n c off' : Nat} {i0 : Int} (hgd : o.guard = none) (ho : o.op = .indexAddr T x y) (ht : tags i = tv (.pointer (some ⟨g, off', none⟩))) (hx : Src o Base dst tags G x (tv (.slice (some ⟨g, off, none⟩) n c))) (hy : Src o Base dst tags G y (tv (.int .i64 i0)))
  (hrun : ∀ W, (Instr.indexAt T (.slice (some ⟨g, off, none⟩) n c) (.int .i64 i0)).run P W = .ok (.pointer (some ⟨g, off', none⟩)) W) : StepOk P ops Q Base dst (fun i v w => Sp (tags i) v w) G i o :=
 st_run hgd fun a w hb hd hg => ⟨.pointer (some ⟨g, off', none⟩), w, by
  have h1 : a.eval x = _ := (hx a w hb hd hg).now
  have h2 : a.eval y = _ := (hy a w hb hd hg).now
  unfold execOp
  simp only [ho, h1, h2, Sem.run_bind, Sem.run_pure, hrun, Result.andThen_ok], Sub.refl w, hg, by rw [ht]; exact Sp.tv rfl⟩
theorem st_pure {G : World → Prop} {x : Operand} {V U : Value} (hgd : o.guard = none) (hx : Src o Base dst tags G x (tv V)) (hrun : ∀ a : Act, a.eval x = V → ∀ W, (execOp a.eval o).run P W = .ok (.value U) W) (ht : ∀ W, G W → Sp (tags i) U W) : StepOk P ops Q Base dst (fun i v w => Sp (tags i) v w) G i o :=
 st_run hgd fun a w hb hd hg => ⟨U, w, hrun a (hx a w hb hd hg).now w, Sub.refl w, hg, ht w hg⟩
theorem st_build {G : World → Prop} {T : TypeId} {parts : Array (Nat × Operand)} (hgd : o.guard = none) (ho : o.op = .build T parts)
  (h : ∀ a w, Base a → Deps o dst tags a w → G w → ∃ cells, P.built T (parts.map fun (k, x) => (k, a.eval x)).toList = some cells ∧ Sp (tags i) (.agg cells) w) : StepOk P ops Q Base dst (fun i v w => Sp (tags i) v w) G i o :=
 st_run hgd fun a w hb hd hg => by
  obtain ⟨cells, h1, h2⟩ := h a w hb hd hg
  refine ⟨.agg cells, w, ?_, Sub.refl w, hg, h2⟩
  unfold execOp
  simp only [ho, Sem.run_bind, Sem.run_pure, run_build w T _ cells h1, Result.andThen_ok]
theorem sub_alloc (w : World) (ob : Obj) : Sub w (w.alloc ob) := Sub.below ((Below.refl _ _).alloc (Nat.le_refl _) _)
theorem st_slice {T e : TypeId} {len : Nat} {parts : Array (Nat × Operand)} {ie : TypeInfo} {z : Value} (hgd : o.guard = none) (ho : o.op = .buildSlice T len parts)
  (hu : P.underlying T = some (.slice e)) (hie : P.info? e = some ie) (hz : ie.zero = some z) (hsmall : ¬ len * ie.size > 2 ^ 24) (hpos : ¬ len * ie.size = 0)
  (h : ∀ a w, Base a → Deps o dst tags a w → Below w0.heap.size w0 w → ∃ cells, Instr.fill (fun i => some (i * ie.size, ie.size)) ((Array.range (len * ie.size)).map (z.cells[· % z.cells.size]!)) (parts.map fun (i, x) => (i, a.eval x)).toList = some cells ∧ Sp (tags i) (.slice (some ⟨w.heap.size, 0, none⟩) len len) (w.alloc (.cells cells e))) :
  StepOk P ops Q Base dst (fun i v w => Sp (tags i) v w) (fun w => Below w0.heap.size w0 w) i o :=
 st_run hgd fun a w hb hd hg => by
  obtain ⟨cells, h1, h2⟩ := h a w hb hd hg
  refine ⟨_, _, ?_, sub_alloc w (.cells cells e), hg.alloc hg.size _, h2⟩
  unfold execOp
  simp only [ho, Sem.run_bind, Sem.run_pure, run_buildSlice w T e len _ cells ie z hu hie hz hsmall hpos h1, Result.andThen_ok]
theorem st_lit {xs : List Nat} {T : TypeId} {len : Nat} {parts : Array (Nat × Operand)} (hgd : o.guard = none) (ho : o.op = .buildSlice T len parts) (ht : tags i = tlit w0.heap.size xs)
  (hu : P.underlying T = some (.slice 5)) (hsz : (P.info? 5).map (·.size) = some 1) (hz : ((P.info? 5).bind (·.zero)).isSome = true) (hlen : len = xs.length) (hpos : 0 < len) (hsm : len ≤ 1000)
  (h : ∀ a w, Base a → Deps o dst tags a w → Below w0.heap.size w0 w → (parts.map fun (i, x) => (i, a.eval x)).toList = ((ints .u8 xs).zipIdx 0).map fun x => (x.2, x.1)) :
  StepOk P ops Q Base dst (fun i v w => Sp (tags i) v w) (fun w => Below w0.heap.size w0 w) i o := by
 obtain ⟨ie, hie, hs1⟩ := Option.map_eq_some_iff.1 hsz
 obtain ⟨z, hzz⟩ := Option.isSome_iff_exists.1 hz
 rw [hie, Option.bind_some] at hzz
 refine st_slice hgd ho hu hie hzz (by rw [hs1]; omega) (by rw [hs1]; omega) fun a w hb hd hg => ⟨(ints .u8 xs).toArray, ?_, ?_⟩
 ·rw [h a w hb hd hg, hs1]
  exact Great.fill_flat _ _ (fun v hv => by
   simp only [ints, List.mem_map] at hv
   obtain ⟨x, _, rfl⟩ := hv
   rfl) (by simp [hlen, ints])
 ·rw [ht]
  subst hlen
  have hr : Rd .u8 (w.alloc (.cells (ints .u8 xs).toArray 5)) (some ⟨w.heap.size, 0, none⟩) xs := Rd.of_all (blk_lit w xs _ rfl)
  have hsh : (w.alloc (.cells (ints .u8 xs).toArray 5)).shape? w.heap.size = some (5, xs.length) := by
   unfold World.shape?
   rw [heap_alloc_new w _]
   simp [ints]
  exact fun w' hs => ⟨w.heap.size, rfl, hr.sub hs, hs.shape _ _ hsh, hg.size, by simp only [maxLen]; omega⟩
theorem st_mark {xs : List Nat} {x : Operand} (hgd : o.guard = none) (ht : tags i = tlit w0.heap.size xs) (ho : o.op = .convert 22 22 x) (hx : Src o Base dst tags (fun w => Below w0.heap.size w0 w) x (tlit w0.heap.size xs)) (htt : P.underlying 22 = some (.slice 5)) (htu : P.underlying 5 = some (.int .u8)) :
  StepOk P ops Q Base dst (fun i v w => Sp (tags i) v w) (fun w => Below w0.heap.size w0 w) i o :=
 st_run hgd fun a w hb hd hg => by
  have hxx := hx a w hb hd hg
  obtain ⟨g, h1, h2, h3, h4, h5⟩ := hxx.now
  have hsub := Sub.freeze w ⟨g, xs.length, none⟩ 1 h3
  refine ⟨a.eval x, w.freeze ⟨g, xs.length, none⟩ 1, ?_, hsub, Lib.below_freeze hg h4 1, by rw [ht]; exact hxx.mono hsub⟩
  unfold execOp
  simp only [ho, h1, run_conv_mark (P := P) w 22 5 g xs.length xs.length xs.length htt htu h3, Sem.run_bind, Sem.run_pure, Result.andThen_ok]
theorem st_call {f : Nat} {args : Array Operand} (hgd : o.guard = none) (hrun : ∀ (a : Act) (w : World), (execOp a.eval o).run P w = .ok (.enter f (args.map a.eval)) w)
  (h : ∀ a w, Base a → Deps o dst tags a w → Below w0.heap.size w0 w → Calls P f (args.map a.eval) w fun e w' => ∃ v, e = .returned v ∧ Below w.heap.size w w' ∧ Sp (tags i) v w') :
  StepOk P ops Q Base dst (fun i v w => Sp (tags i) v w) (fun w => Below w0.heap.size w0 w) i o := by
 intro a w hb hd hg K hK
 rw [if_pos (wanted_free hgd a)]
 have hc := h a w hb hd hg
 unfold Oper.wp
 rw [hrun a w]
 refine hc.mono ?_
 rintro e w' ⟨v, rfl, h1, h2⟩
 exact hK _ _ h2 (Sub.below h1) (hg.trans (h1.mono hg.size))
theorem Gives.sp {xs : List Nat} {w w' : World} {e : Ending} {B : Nat} (hB : B ≤ w.heap.size) (h : Gives .u8 xs w e w') : ∃ v, e = .returned v ∧ Below w.heap.size w w' ∧ Sp (tnew B xs) v w' := by
 obtain ⟨A, c, h1, h2, h3, h4, h5⟩ := h
 exact ⟨_, h1, h5, fun w' hs => ⟨A, c, rfl, h2, h3, h4.rd.sub hs, fun g hg => off_of_own h4 (by omega)⟩⟩
theorem st_call_sl {f : Nat} {pre : List Operand} {x : Operand} {xs ys : List Nat} (hgd : o.guard = none) (ht : tags i = tnew w0.heap.size ys) (hrun : ∀ (a : Act) (w : World), (execOp a.eval o).run P w = .ok (.enter f ((pre ++ [x]).toArray.map a.eval)) w)
  {pv : List Value} (hpre : ∀ a : Act, pre.map a.eval = pv) (hx : Src o Base dst tags (fun w => Below w0.heap.size w0 w) x (tsl xs))
  (h : ∀ A c w, xs.length ≤ c → c ≤ maxLen → Rd .u8 w A xs → Calls P f (pv ++ [Value.slice A xs.length c]).toArray w (Gives .u8 ys w)) :
  StepOk P ops Q Base dst (fun i v w => Sp (tags i) v w) (fun w => Below w0.heap.size w0 w) i o :=
 st_call hgd hrun fun a w hb hd hg => by
  obtain ⟨A, c, h1, h2, h3, h4⟩ := (hx a w hb hd hg).now
  have h5 := h A c w h2 h3 h4
  have h6 : (pre ++ [x]).toArray.map a.eval = (pv ++ [Value.slice A xs.length c]).toArray := by simp [hpre, h1]
  rw [h6, ht]
  exact h5.mono fun _ _ h => h.sp hg.size
theorem st_call_sls {f : Nat} {x : Operand} {L : List (List Nat)} {ys : List Nat} (hgd : o.guard = none) (ht : tags i = tnew w0.heap.size ys) (hrun : ∀ (a : Act) (w : World), (execOp a.eval o).run P w = .ok (.enter f (#[x].map a.eval)) w) (hx : Src o Base dst tags (fun w => Below w0.heap.size w0 w) x (tsls L))
  (h : ∀ A l w, Sls w A l → l.map Sl.xs = L → Calls P f #[.slice A L.length L.length] w (Gives .u8 ys w)) :
  StepOk P ops Q Base dst (fun i v w => Sp (tags i) v w) (fun w => Below w0.heap.size w0 w) i o :=
 st_call hgd hrun fun a w hb hd hg => by
  obtain ⟨g, l, h1, h2, h3⟩ := (hx a w hb hd hg).now
  have h6 : #[x].map a.eval = #[.slice (some ⟨g, 0, none⟩) L.length L.length] := by simp [h1]
  rw [h6, ht]
  exact (h _ l w h2 h3).mono fun _ _ h => h.sp hg.size
def SrcL (o : Oper) (Base : Act → Prop) (dst : Nat → Nat) (tags : Nat → Tg) (G : World → Prop) : List Operand → List (List Nat) → Prop
 | [], [] => True
 | x :: r, xs :: R => Src o Base dst tags G x (tsl xs) ∧ SrcL o Base dst tags G r R
 | _, _ => False
theorem srcs_eval {G : World → Prop} {a : Act} {w : World} : ∀ {opds : List Operand} {L : List (List Nat)}, SrcL o Base dst tags G opds L → Base a → Deps o dst tags a w → G w → ∃ l : List Sl, opds.map a.eval = l.map Sl.val ∧ l.map Sl.xs = L ∧ ∀ s ∈ l, Rd .u8 w s.A s.xs
 | [], [], _, _, _, _ => ⟨[], rfl, rfl, fun s h => by cases h⟩
 | [], _ :: _, h, _, _, _ => h.elim
 | _ :: _, [], h, _, _, _ => h.elim
 | x :: r, xs :: R, ⟨hx, hr⟩, hb, hd, hg => by
  obtain ⟨l, h1, h2, h3⟩ := srcs_eval hr hb hd hg
  obtain ⟨A, c, q1, q2, q3, q4⟩ := (hx a w hb hd hg).now
  exact ⟨⟨A, c, xs⟩ :: l, by simp [h1, q1, Sl.val], by simp [h2], fun s hs => by
   rcases List.mem_cons.1 hs with rfl | hs
   ·exact q4
   ·exact h3 s hs⟩
theorem st_sls {L : List (List Nat)} {T : TypeId} {len : Nat} {parts : Array (Nat × Operand)} (opds : List Operand) (hgd : o.guard = none) (ho : o.op = .buildSlice T len parts) (ht : tags i = tsls L) (hlen : len = L.length) (hpos : 0 < len) (hsm : len ≤ 1000)
  (hparts : parts = ((opds.zipIdx 0).map fun x => (x.2, x.1)).toArray)
  (hu : P.underlying T = some (.slice 22)) (hsz : (P.info? 22).map (·.size) = some 1) (hz : ((P.info? 22).bind (·.zero)).isSome = true)
  (hx : SrcL o Base dst tags (fun w => Below w0.heap.size w0 w) opds L) :
  StepOk P ops Q Base dst (fun i v w => Sp (tags i) v w) (fun w => Below w0.heap.size w0 w) i o := by
 obtain ⟨ie, hie, hs1⟩ := Option.map_eq_some_iff.1 hsz
 obtain ⟨z, hzz⟩ := Option.isSome_iff_exists.1 hz
 rw [hie, Option.bind_some] at hzz
 subst hparts
 refine st_slice hgd ho hu hie hzz (by rw [hs1]; omega) (by rw [hs1]; omega) fun a w hb hd hg => ?_
 obtain ⟨l, h1, h2, h3⟩ := srcs_eval hx hb hd hg
 have hl : l.length = len := by rw [hlen, ← h2]; simp
 refine ⟨(l.map Sl.val).toArray, ?_, ?_⟩
 ·rw [hs1, ← Great.fill_flat (l.map Sl.val) ((Array.range (len * 1)).map (z.cells[· % z.cells.size]!)) (fun v hv => by
   obtain ⟨s, _, rfl⟩ := List.mem_map.1 hv
   rfl) (by simp [hl]), ← h1]
  simp [List.zipIdx_map, List.map_map, Function.comp_def]
 ·rw [ht]
  subst hlen
  have hq := sls_lit (w := w) (t := 22) (l := l) _ rfl h3
  exact fun w' hs => ⟨w.heap.size, l, rfl, hq.sub hs, h2⟩
theorem st_alloc {T : TypeId} {z : Value} (hgd : o.guard = none) (ho : o.op = .alloc T) (ht : tags i = tptr w0.heap.size z.cells T) (hz : (P.info? T).map (fun i => i.zero) = some (some z)) (hT : T ≠ 5) :
  StepOk P ops Q Base dst (fun i v w => Sp (tags i) v w) (fun w => Below w0.heap.size w0 w) i o :=
 st_run hgd fun a w hb hd hg => by
  obtain ⟨ie, hi, hzz⟩ := Option.map_eq_some_iff.1 hz
  have hzero : (zeroValue T).run P w = .ok z w := by simp [zeroValue, typeInfo, hi, hzz]
  refine ⟨.pointer (some ⟨w.heap.size, 0, none⟩), w.alloc (.cells z.cells T), ?_, sub_alloc w _, hg.alloc hg.size _, ?_⟩
  ·unfold execOp
   simp only [ho, Instr.alloc, Sem.run_bind, Sem.run_pure, hzero, Result.andThen, newVar, run_newObj_alloc]
   rfl
  ·rw [ht]
   have hh := heap_alloc_new w (.cells z.cells T)
   exact fun w' hs => ⟨w.heap.size, rfl, hg.size, hs.keep _ _ _ _ hh hT⟩
theorem st_loads {G : World → Prop} {x : Operand} {T : TypeId} {p : Addr} {A : Option Addr} {c : Nat} {xs : List Nat} (hgd : o.guard = none) (ho : o.op = .load T x) (ht : tags i = tsl xs) (hx : Src o Base dst tags G x (tv (.pointer (some p))))
  (hrun : ∀ W, W.cell? p = some (.slice A xs.length c) → (Instr.loadAt T (.pointer (some p))).run P W = .ok (.slice A xs.length c) W) (hcap : xs.length ≤ c) (hmax : c ≤ maxLen) (hc : ∀ w, G w → w.cell? p = some (.slice A xs.length c) ∧ Rd .u8 w A xs) : StepOk P ops Q Base dst (fun i v w => Sp (tags i) v w) G i o :=
 st_run hgd fun a w hb hd hg => ⟨.slice A xs.length c, w, by
  have h1 : a.eval x = _ := (hx a w hb hd hg).now
  unfold execOp
  simp only [ho, h1, Sem.run_bind, Sem.run_pure, hrun w (hc w hg).1, Result.andThen_ok], Sub.refl w, hg, by rw [ht]; exact Sp.tsl hcap hmax (hc w hg).2⟩
theorem run_call {f : Nat} {args : Array Operand} {tys : Array TypeId} (ho : o.op = .call { callee := .value (.func f), args := args, argTypes := tys }) (hcf : ∀ vs w, (callFunc f vs).run P w = .ok (.enter f vs) w) (a : Act) (w : World) : (execOp a.eval o).run P w = .ok (.enter f (args.map a.eval)) w := by
 have hf : a.eval (.func f) = .func (.func f) #[] #[] := rfl
 unfold execOp
 simp only [ho]
 go_simp
end
theorem act_eq {a : Act} {n : Nat} {ds : List Deferred} (hs : a.tmps.size = n) (hd : a.defers = ds) : a = { tmps := ((List.range n).map fun i => a.tmps.getD i undef).toArray, defers := ds } := by
 cases a with
 | mk tmps defers =>
  dsimp only at hs hd
  subst hs
  subst hd
  congr 1
  apply Array.ext
  ·simp
  ·intro i h1 h2
   simp [h1]
end Go.Proofs.YtchaahnhpeoomaaGreat
namespace Go.Proofs.YtchaahnhpeoomaaGreat
set_option linter.unusedVariables false
set_option linter.unusedSimpArgs false
set_option maxRecDepth 20000
open Go.RowKit
section
variable {P : Program} {ops : Array Oper} {Q : Exit → Act → World → Prop} {Base : Act → Prop} {dst : Nat → Nat} {tags : Nat → Tg} {i : Nat} {o : Oper} {G : World → Prop}
theorem wanted_of {j d : Nat} {b : Bool} {a : Act} (hg : o.guard = some (j, b)) (hd : (ops[j]?).bind (·.dst) = some d) (h : a.tmps.getD d undef = .bool b) : Region.wanted o (yielded ops a.tmps) = true := by
 have hl : a.tmps[d]? = some (.bool b) := by
  rw [Array.getD_eq_getD_getElem?] at h
  cases h2 : a.tmps[d]? with
  | none =>
   rw [h2] at h
   cases h
  | some v =>
   rw [h2] at h
   exact congrArg some h
 have hy : yielded ops a.tmps j = some b := by
  unfold yielded
  rw [hd]
  simp [hl]
 simp [Region.wanted, hg, hy]
theorem st_guard {j : Nat} {b : Bool} {e : Edge} (hg : o.guard = some (j, b)) (he : e ∈ o.after) (heb : Region.binds .any e = true) (hej : e.on = j) (hT : tags j = tv (.bool b)) (hd : (ops[j]?).bind (·.dst) = some (dst j))
  (h : StepOk P ops Q Base dst (fun i v w => Sp (tags i) v w) G i { o with guard := none }) : StepOk P ops Q Base dst (fun i v w => Sp (tags i) v w) G i o := by
 intro a w hb hdp hG K hK
 have h1 := h a w hb hdp hG K hK
 rw [if_pos (by rfl)] at h1
 have h2 := hdp e he heb
 rw [hej, hT] at h2
 rw [if_pos (wanted_of hg hd h2.now)]
 exact h1
theorem st_pick {c x y : Operand} (hgd : o.guard = none) (ho : o.op = .pick c x y) (hc : Src o Base dst tags G c (tv (.bool true))) (hx : Src o Base dst tags G x (tags i)) :
  StepOk P ops Q Base dst (fun i v w => Sp (tags i) v w) G i o :=
 st_run hgd fun a w hb hd hg => ⟨a.eval x, w, by
  have h1 : a.eval c = .bool true := (hc a w hb hd hg).now
  unfold execOp
  simp only [ho, h1]
  rfl, Sub.refl w, hg, hx a w hb hd hg⟩
theorem st_pick_no {c x y : Operand} (hgd : o.guard = none) (ho : o.op = .pick c x y) (hc : Src o Base dst tags G c (tv (.bool false))) (hx : Src o Base dst tags G y (tags i)) :
  StepOk P ops Q Base dst (fun i v w => Sp (tags i) v w) G i o :=
 st_run hgd fun a w hb hd hg => ⟨a.eval y, w, by
  have h1 : a.eval c = .bool false := (hc a w hb hd hg).now
  unfold execOp
  simp only [ho, h1]
  rfl, Sub.refl w, hg, hx a w hb hd hg⟩
end
end Go.Proofs.YtchaahnhpeoomaaGreat
namespace Go.Proofs.YtchaahnhpeoomaaGreat
set_option linter.unusedVariables false
set_option linter.unusedSimpArgs false
set_option maxRecDepth 20000
open Go.RowKit
theorem row_new {w : World} {t : TypeId} (vs : List Value) : Row (w.alloc (.cells vs.toArray t)) w.heap.size 0 vs := by
 refine ⟨by simp, fun i v hv => ?_⟩
 rw [cell_of_row _ _ _ _ _ _ (heap_alloc_new w _), Nat.zero_add]
 simpa using hv
theorem exts_plain {c : Say} (h1 : c.code = true) (h2 : c.path < 0) (h3 : c.usage < 0) : extsB c = if c.ca then [extB basicB (seqB [yesB])] else [] := by
 unfold extsB
 rw [h1, if_neg (show ¬ 0 ≤ c.path by omega), if_neg (show ¬ 0 ≤ c.usage by omega)]
 cases c.ca <;> rfl
theorem sls_one {w : World} {t : TypeId} {s : Sl} {Z : Array Value} (hr : Rd .u8 w s.A s.xs) : Sls ((w.alloc (.cells (#[s.val] ++ Z) t)).drew) (some ⟨w.heap.size, 0, none⟩) [s] := by
 refine ⟨.inr ⟨w.heap.size, 0, rfl, by simp, fun i x hi => ?_⟩, fun x hx => ?_⟩
 ·rcases i with _ | i
  ·simp at hi
   subst hi
   simp
   rw [Array.getElem?_append_left (by simp)]
   rfl
  ·simp at hi
 ·simp at hx
  subst hx
  exact (hr.alloc _)
def tbsT (c : Crt) (g B : Nat) (sB sE : Sl) : Nat → Tg
 | 0 => tlit B verB12
 | 1 => tlit B verB12
 | 2 => tv (.pointer (some ⟨g, 4, none⟩))
 | 3 => tsl c.serial.xs
 | 4 => tnew B (wr 2 c.serial.xs)
 | 5 => tlit B signAlgB
 | 6 => tlit B signAlgB
 | 7 => tv (.pointer (some ⟨g, 2, none⟩))
 | 8 => tsl c.issuer.xs
 | 9 => tv (.pointer (some ⟨g, 5, none⟩))
 | 10 => tv (.agg c.frm.cells.toArray)
 | 11 => tnew B (genB c.frm)
 | 12 => tv (.pointer (some ⟨g, 11, none⟩))
 | 13 => tv (.agg c.til.cells.toArray)
 | 14 => tnew B (genB c.til)
 | 15 => tsls [genB c.frm, genB c.til]
 | 16 => tnew B (seqB [genB c.frm, genB c.til])
 | 17 => tv (.pointer (some ⟨g, 3, none⟩))
 | 18 => tsl c.subject.xs
 | 19 => tlit B keyAlgB
 | 20 => tlit B keyAlgB
 | 21 => tsl sB.xs
 | 22 => tnew B (wr 3 sB.xs)
 | 23 => tsls [keyAlgB, wr 3 sB.xs]
 | 24 => tnew B (seqB [keyAlgB, wr 3 sB.xs])
 | 25 => tsl sE.xs
 | 26 => tsls [verB12, wr 2 c.serial.xs, signAlgB, c.issuer.xs, seqB [genB c.frm, genB c.til], c.subject.xs, seqB [keyAlgB, wr 3 sB.xs], sE.xs]
 | _ => tnew B (seqB [verB12, wr 2 c.serial.xs, signAlgB, c.issuer.xs, seqB [genB c.frm, genB c.til], c.subject.xs, seqB [keyAlgB, wr 3 sB.xs], sE.xs])
def GivesN (xs : List Nat) (w : World) (e : Ending) (w' : World) : Prop := ∃ A c, e = .returned (.slice A xs.length c) ∧ xs.length ≤ c ∧ c ≤ maxLen ∧ Rd .u8 w' A xs ∧ Below w.heap.size w w' ∧ ∀ g, g < w.heap.size → Off A xs g
theorem genB_len {t : Tm} (h : t.ok) : (genB t).length ≤ 30 := by
 have e : genB t = wr 24 ((tmL t).flatMap two2 ++ [90]) := rfl
 rw [e]
 have hl : ((tmL t).flatMap two2 ++ [90]).length = 15 := by rw [List.length_append, two_len]; rfl
 exact Nat.le_trans (wr_len (by omega)) (by omega)
theorem frm_cells {c : Crt} {j : Nat} {v : Value} (h : c.frm.cells[j]? = some v) : c.cells[5 + j]? = some v := by
 have hj : j < 6 := (List.getElem?_eq_some_iff.1 h).1
 rcases j with _ | _ | _ | _ | _ | _ | j
 all_goals first | exact h | omega
theorem til_cells {c : Crt} {j : Nat} {v : Value} (h : c.til.cells[j]? = some v) : c.cells[11 + j]? = some v := by
 have hj : j < 6 := (List.getElem?_eq_some_iff.1 h).1
 rcases j with _ | _ | _ | _ | _ | _ | j
 all_goals first | exact h | omega
theorem bstr_basic : bstr basicB = { data := #[85, 29, 19] } := by rfl
end Go.Proofs.YtchaahnhpeoomaaGreat
namespace Go.Proofs.YtchaahnhpeoomaaGreat
set_option linter.unusedVariables false
set_option linter.unusedSimpArgs false
set_option maxRecDepth 20000
open Go.RowKit
theorem flat_lim {l : List (List Nat)} (h : ∀ x ∈ l, Lim 256 x) : Lim 256 l.flatten := fun x hx => by
 obtain ⟨y, hy, hxy⟩ := List.mem_flatten.1 hx
 exact h y hy x hxy
theorem seqB_lim {l : List (List Nat)} (h : ∀ x ∈ l, Lim 256 x) (hl : l.flatten.length < 4294967296) : Lim 256 (seqB l) := wr_lim (by decide) (flat_lim h) hl
theorem lim_c {xs : List Nat} (h : (xs.all fun x => decide (x < 256)) = true) : Lim 256 xs := fun x hx => by simpa using List.all_eq_true.1 h x hx
theorem nameB_len {s : List Nat} (hs : s.length ≤ 1000) : (nameB s).length ≤ 1050 := by
 have h1 : (wr 12 s).length ≤ 1006 := Nat.le_trans (wr_len (by omega)) (by omega)
 have h2 : (seqB [wr 6 [85, 4, 3], wr 12 s]).length ≤ 1021 := Nat.le_trans (seqB_len (n := 1015) (by
  have : (wr 6 [85, 4, 3]).length ≤ 9 := wr_len (by decide)
  simp
  omega) (by omega)) (by omega)
 have h3 : (wr 49 (seqB [wr 6 [85, 4, 3], wr 12 s])).length ≤ 1027 := Nat.le_trans (wr_len (by omega)) (by omega)
 exact Nat.le_trans (seqB_len (n := 1027) (by simp; omega) (by omega)) (by omega)
theorem nameB_lim {s : List Nat} (h : Lim 256 s) (hs : s.length ≤ 1000) : Lim 256 (nameB s) := by
 have h1 : (wr 12 s).length ≤ 1006 := Nat.le_trans (wr_len (by omega)) (by omega)
 have h0 : (wr 6 [85, 4, 3]).length ≤ 9 := wr_len (by decide)
 have h2 : (seqB [wr 6 [85, 4, 3], wr 12 s]).length ≤ 1021 := Nat.le_trans (seqB_len (n := 1015) (by simp; omega) (by omega)) (by omega)
 have h3 : (wr 49 (seqB [wr 6 [85, 4, 3], wr 12 s])).length ≤ 1027 := Nat.le_trans (wr_len (by omega)) (by omega)
 have q1 : Lim 256 (seqB [wr 6 [85, 4, 3], wr 12 s]) := seqB_lim (fun x hx => by
  simp at hx
  rcases hx with rfl | rfl
  ·exact wr_lim (by decide) (lim_c (by decide)) (by decide)
  ·exact wr_lim (by decide) h (by omega)) (by simp; omega)
 exact seqB_lim (fun x hx => by
  simp at hx
  subst hx
  exact wr_lim (by decide) q1 (by omega)) (by simp; omega)
theorem two2_lim (x : Nat) : Lim 256 (two2 x) := fun y hy => by
 simp [two2] at hy
 omega
theorem genB_lim (t : Tm) : Lim 256 (genB t) := by
 refine wr_lim (by decide) (Lim.append (fun x hx => ?_) (lim_c (by decide))) ?_
 ·obtain ⟨y, _, hy⟩ := List.mem_flatMap.1 hx
  exact two2_lim y x hy
 ·simp [two2]
theorem expB_lim (e : Nat) : Lim 256 (expB e) := putInt_lim fun x hx => by
 simp at hx
 omega
theorem expB_len (e : Nat) : (expB e).length ≤ 6 := putInt_len _
theorem keyB_len {ks : List Nat} {e : Nat} (hk : ks.length ≤ 1000) : (keyB ks e).length ≤ 1030 := by
 have h1 := putInt_len ks
 have h2 := expB_len e
 have h3 : (wr 2 (putInt ks)).length ≤ 1007 := Nat.le_trans (wr_len (by omega)) (by omega)
 have h4 : (wr 2 (expB e)).length ≤ 12 := Nat.le_trans (wr_len (by omega)) (by omega)
 exact Nat.le_trans (seqB_len (n := 1019) (by simp; omega) (by omega)) (by omega)
theorem keyB_lim {ks : List Nat} {e : Nat} (lk : Lim 256 ks) (hk : ks.length ≤ 1000) : Lim 256 (keyB ks e) := by
 have h1 := putInt_len ks
 have h2 := expB_len e
 have h3 : (wr 2 (putInt ks)).length ≤ 1007 := Nat.le_trans (wr_len (by omega)) (by omega)
 have h4 : (wr 2 (expB e)).length ≤ 12 := Nat.le_trans (wr_len (by omega)) (by omega)
 exact seqB_lim (fun x hx => by
  simp at hx
  rcases hx with rfl | rfl
  ·exact wr_lim (by decide) (putInt_lim lk) (by omega)
  ·exact wr_lim (by decide) (expB_lim e) (by omega)) (by simp; omega)
structure SayOk (c : Say) : Prop where
 code : c.code = true
 path : c.path < 0
 usage : c.usage < 0
 serial : c.serial.length ≤ 1000 ∧ Lim 256 c.serial
 issuer : c.issuer.length ≤ 2000 ∧ Lim 256 c.issuer
 subject : c.subject.length ≤ 2000 ∧ Lim 256 c.subject
 key : c.key.length ≤ 1000 ∧ Lim 256 c.key
 frm : c.frm.ok
 til : c.til.ok
theorem tbsB_plain {c : Say} (h : SayOk c) : (tbsB c).length ≤ 8000 ∧ Lim 256 (tbsB c) := by
 have hE := exts_plain h.code h.path h.usage
 obtain ⟨s1, s2⟩ := h.serial
 obtain ⟨i1, i2⟩ := h.issuer
 obtain ⟨u1, u2⟩ := h.subject
 obtain ⟨k1, k2⟩ := h.key
 have a1 : (wr 2 c.serial).length ≤ 1006 := Nat.le_trans (wr_len (by omega)) (by omega)
 have a2 := genB_len h.frm
 have a3 := genB_len h.til
 have a4 : (seqB [genB c.frm, genB c.til]).length ≤ 66 := Nat.le_trans (seqB_len (n := 60) (by simp; omega) (by omega)) (by omega)
 have a5 := keyB_len (e := c.e) k1
 have a6 : (wr 3 (0 :: keyB c.key c.e)).length ≤ 1037 := Nat.le_trans (wr_len (by simp; omega)) (by simp; omega)
 have a7 : (seqB [keyAlgB, wr 3 (0 :: keyB c.key c.e)]).length ≤ 1060 := Nat.le_trans (seqB_len (n := 1054) (by simp [keyAlgB]; omega) (by omega)) (by omega)
 obtain ⟨E, hEE, e1, e2⟩ : ∃ E, (if extsB c = [] then [] else wr 163 (seqB (extsB c))) = E ∧ E.length ≤ 100 ∧ Lim 256 E := by
  refine ⟨_, rfl, ?_⟩
  rw [hE]
  cases c.ca with
  | false => exact ⟨by simp, by intro x hx; simp at hx⟩
  | true =>
   simp only [if_true, List.cons_ne_nil, if_false]
   have : (wr 163 (seqB [extB basicB (seqB [yesB])])).length ≤ 100 ∧ ((wr 163 (seqB [extB basicB (seqB [yesB])])).all fun x => decide (x < 256)) = true := by
    simp [extB, basicB, yesB, seqB, wr, derLen]
   exact ⟨this.1, lim_c this.2⟩
 have ht : tbsB c = seqB [verB12, wr 2 c.serial, signAlgB, c.issuer, seqB [genB c.frm, genB c.til], c.subject, seqB [keyAlgB, wr 3 (0 :: keyB c.key c.e)], E] := by
  unfold tbsB
  rw [hEE]
 rw [ht]
 have hfl : [verB12, wr 2 c.serial, signAlgB, c.issuer, seqB [genB c.frm, genB c.til], c.subject, seqB [keyAlgB, wr 3 (0 :: keyB c.key c.e)], E].flatten.length ≤ 7900 := by
  simp [verB12, signAlgB]
  omega
 refine ⟨Nat.le_trans (seqB_len hfl (by omega)) (by omega), seqB_lim (fun x hx => ?_) (by omega)⟩
 simp only [List.mem_cons, List.not_mem_nil, or_false] at hx
 rcases hx with rfl | rfl | rfl | rfl | rfl | rfl | rfl | rfl
 ·exact lim_c (by decide)
 ·exact wr_lim (by decide) s2 (by omega)
 ·exact lim_c (by decide)
 ·exact i2
 ·exact seqB_lim (fun x hx => by
   simp at hx
   rcases hx with rfl | rfl <;> exact genB_lim _) (by simp; omega)
 ·exact u2
 ·exact seqB_lim (fun x hx => by
   simp at hx
   rcases hx with rfl | rfl
   ·exact lim_c (by decide)
   ·refine wr_lim (by decide) (fun x hx => ?_) (by simp; omega)
    rcases List.mem_cons.1 hx with rfl | hx
    ·decide
    ·exact keyB_lim k2 k1 x hx) (by simp [keyAlgB]; omega)
 ·exact e2
theorem certB_ok {t s : List Nat} (lt : Lim 256 t) (ls : Lim 256 s) (ht : t.length ≤ 8000) (hs : s.length ≤ 1000) : (certB t s).length ≤ 10000 ∧ Lim 256 (certB t s) := by
 have h1 : (wr 3 (0 :: s)).length ≤ 1007 := Nat.le_trans (wr_len (by simp; omega)) (by simp; omega)
 have hfl : [t, signAlgB, wr 3 (0 :: s)].flatten.length ≤ 9022 := by
  simp [signAlgB]
  omega
 refine ⟨Nat.le_trans (seqB_len hfl (by omega)) (by omega), seqB_lim (fun x hx => ?_) (by omega)⟩
 simp only [List.mem_cons, List.not_mem_nil, or_false] at hx
 rcases hx with rfl | rfl | rfl
 ·exact lt
 ·exact lim_c (by decide)
 ·refine wr_lim (by decide) (fun x hx => ?_) (by simp; omega)
  rcases List.mem_cons.1 hx with rfl | hx
  ·decide
  ·exact ls x hx
end Go.Proofs.YtchaahnhpeoomaaGreat
namespace Go.Proofs.YtchaahnhpeoomaaGreat
set_option linter.unusedVariables false
set_option linter.unusedSimpArgs false
set_option maxRecDepth 20000
open Go.RowKit
theorem Sl.ok.grown {w w' : World} {s : Sl} {row : Option Nat} (h : s.ok w) (hg : w.grownBy w' row) (ho : ∀ g, row = some g → Off s.A s.xs g) : s.ok w' := ⟨h.rd.grown hg ho, h.lim, h.cap, h.max⟩
def Crt.slices (c : Crt) : List Sl := [c.raw, c.tbs, c.issuer, c.subject, c.serial, c.key, c.sig]
def CrtOff (c : Crt) (g : Nat) : Prop := ∀ s ∈ c.slices, Off s.A s.xs g
theorem Crt.ok.grown {w w' : World} {c : Crt} {row : Option Nat} (h : c.ok w) (hg : w.grownBy w' row) (ho : ∀ g, row = some g → CrtOff c g) : c.ok w' :=
 ⟨h.raw.grown hg fun g e => ho g e _ (by simp [Crt.slices]), h.tbs.grown hg fun g e => ho g e _ (by simp [Crt.slices]), h.issuer.grown hg fun g e => ho g e _ (by simp [Crt.slices]), h.subject.grown hg fun g e => ho g e _ (by simp [Crt.slices]), h.serial.grown hg fun g e => ho g e _ (by simp [Crt.slices]), h.key.grown hg fun g e => ho g e _ (by simp [Crt.slices]), h.sig.grown hg fun g e => ho g e _ (by simp [Crt.slices]), h.frm, h.til, h.e⟩
theorem Crt.ok.off {w : World} {c : Crt} {g : Nat} (h : c.ok w) (hg : w.heap.size ≤ g) : CrtOff c g := fun s hs => by
 simp only [Crt.slices, List.mem_cons, List.not_mem_nil, or_false] at hs
 rcases hs with rfl | rfl | rfl | rfl | rfl | rfl | rfl
 ·exact Off.new h.raw.rd hg
 ·exact Off.new h.tbs.rd hg
 ·exact Off.new h.issuer.rd hg
 ·exact Off.new h.subject.rd hg
 ·exact Off.new h.serial.rd hg
 ·exact Off.new h.key.rd hg
 ·exact Off.new h.sig.rd hg
structure SlN (B : Nat) (w : World) (s : Sl) : Prop where
 ok : s.ok w
 off : ∀ g, g < B → Off s.A s.xs g
def Rung.cells (r : Rung) : List Value := [.string (bstr r.name), .int .u8 (r.serial : Int), .bool r.ca, .bool r.code, .int .i64 r.path, .int .i64 r.usage]
structure RungOk (r : Rung) : Prop where
 name : r.name.length ≤ 100 ∧ Lim 256 r.name
 serial : r.serial < 256
 code : r.code = true
 path : r.path = -1
 usage : r.usage = -1
def rungCells (l : List Rung) : List Value := (l.map Rung.cells).flatten
theorem rung_row {w : World} {g o i : Nat} {l : List Rung} {r : Rung} (h : Row w g o (rungCells l)) (hi : l[i]? = some r) : Row w g (o + i * 6) r.cells :=
 Row.part (n := 6) h (fun x hx => by obtain ⟨r, _, rfl⟩ := List.mem_map.1 hx; rfl) (by simp [hi])
def crtCells (l : List Crt) : List Value := (l.map Crt.cells).flatten
theorem crt_row {w : World} {g o i : Nat} {l : List Crt} {c : Crt} (h : Row w g o (crtCells l)) (hi : l[i]? = some c) : Row w g (o + i * 24) c.cells :=
 Row.part (n := 24) h (fun x hx => by obtain ⟨r, _, rfl⟩ := List.mem_map.1 hx; exact Crt.cells_length r) (by simp [hi])
theorem crtCells_snoc (l : List Crt) (c : Crt) : crtCells (l ++ [c]) = crtCells l ++ c.cells := by simp [crtCells]
theorem crtCells_length (l : List Crt) : (crtCells l).length = l.length * 24 := by
 induction l with
 | nil => rfl
 | cons c l ih => simp [crtCells] at ih ⊢; rw [ih, Crt.cells_length]; omega
theorem crt_one (c : Crt) : ∀ u ∈ c.cells, u.oneCell' = true := by
 intro u hu
 simp only [Crt.cells, Tm.cells, List.mem_append, List.mem_cons, List.not_mem_nil, or_false] at hu
 rcases hu with ((h | h) | h) | h <;> (rcases h with rfl | rfl | rfl | rfl | rfl | rfl | rfl | rfl <;> rfl) <;> done
def CrtNew (N : Nat) (c : Crt) : Prop := ∀ s ∈ [c.raw, c.tbs, c.issuer, c.subject, c.serial, c.sig], ∀ g, g < N → Off s.A s.xs g
theorem off_zero {w : World} {g x : Nat} {A : Option Addr} {xs : List Nat} {t : TypeId} (h : Rd .u8 w A xs) (h0 : xs[0]? = some x) (hx : x ≠ 0) (hg : w.heap[g]? = some (.cells (Value.agg Crt.none.cells.toArray).cells t (0, 0))) : Off A xs g := by
 obtain ⟨b, o, rfl, hb, hc⟩ := h.pos h0
 refine Off.of_ne ?_
 rintro rfl
 have h1 := hc 0 x h0
 rw [Nat.add_zero, cell_of_row w b o _ t (0, 0) hg] at h1
 have h2 : Crt.none.cells[o]? = some (.int .u8 (x : Int)) := by simpa [Value.cells] using h1
 have h3 := List.mem_of_getElem? h2
 simp only [Crt.none, Crt.cells, Tm.cells, Tm.none, Sl.val, Sl.nil, List.mem_append, List.mem_cons, List.not_mem_nil, or_false, reduceCtorEq, Value.int.injEq, false_or, List.cons_append, List.nil_append] at h3
 omega
theorem nameB_head (s : List Nat) : (nameB s)[0]? = some 48 := rfl
theorem t2020_ok : t2020.ok := ⟨by decide, by decide, by decide, by decide, by decide, by decide⟩
theorem t2060_ok : t2060.ok := ⟨by decide, by decide, by decide, by decide, by decide, by decide⟩
theorem drop_at {α : Type} {l : List α} {i : Nat} {r : α} (h : l[i]? = some r) : l.drop i = r :: l.drop (i + 1) := by
 obtain ⟨h1, h2⟩ := List.getElem?_eq_some_iff.1 h
 rw [← h2]
 exact List.drop_eq_getElem_cons h1
theorem lad_more {l : List Rung} {i : Nat} {r u : Rung} {ks : List Nat} {ke : Nat} (h : l[i]? = some r) (h' : l[i + 1]? = some u) :
  ladderB (l.drop i) ks ke = rungDone (rungSay r u ks ke) true :: ladderB (l.drop (i + 1)) (forKey (digest (tbsB (rungSay r u ks ke)))) 3 := by
 rw [drop_at h, drop_at h', ladderB]
theorem lad_last {l : List Rung} {i : Nat} {r : Rung} {ks ks' : List Nat} {ke ke' : Nat} (h : l[i]? = some r) (h' : l.length ≤ i + 1) :
  ladderB (l.drop i) ks ke = rungDone (rungSay r r ks ke) false :: ladderB (l.drop (i + 1)) ks' ke' := by
 rw [drop_at h, List.drop_eq_nil_of_le h', ladderB, ladderB]
theorem crt_off_of {c : Crt} {N g : Nat} (h : CrtNew N c) (hg : g < N) (hk : Off c.key.A c.key.xs g) : CrtOff c g := fun s hs => by
 simp only [Crt.slices, List.mem_cons, List.not_mem_nil, or_false] at hs
 rcases hs with rfl | rfl | rfl | rfl | rfl | rfl | rfl
 all_goals first | exact hk | exact h _ (by simp) g hg
end Go.Proofs.YtchaahnhpeoomaaGreat
namespace Go.Proofs.YtchaahnhpeoomaaGreat
set_option linter.unusedVariables false
set_option linter.unusedSimpArgs false
set_option maxRecDepth 20000
open Go.RowKit
section
variable {P : Program} {w : World} {ops : Array Oper} {rest : List Oper} {o : Oper} {a : Act} {Q : Exit → Act → World → Prop}
theorem wpList_append_V (hgd : o.guard = none) (s x : Operand) (t : TypeId) (ho : o.op = .call { callee := .builtin .append, args := #[s, x], argTypes := #[t, t] })
  (B : Nat) (e : TypeId) (z : Value) (size bytes : Nat) (ht : P.underlying t = some (.slice e)) (hinfo : (P.info? e).map (fun i => (i.zero, i.size, i.bytes)) = some (some z, size, bytes)) (hzs : z.cells.size = size) (hsz : 0 < size)
  (v : Value) (n : Nat) (xs : List Value) (hs : a.eval s = v) (hown : w.ownsRow B e size v n xs) (ad : Addr) (m c : Nat) (news : List Value) (hx : a.eval x = .slice (some ad) m c) (hl : news.length = m * size)
  (hnews : ∀ j u, news[j]? = some u → w.cell? (ad.add j) = some u) (h1 : ∀ u ∈ news, u.oneCell' = true) (h63 : n + m ≤ maxLen) (hbytes : (n + m) * bytes ≤ 140737488355328) (hbase : B ≤ w.heap.size)
  (h : ∀ v' w', w'.ownsRow B e size v' (n + m) (xs ++ news) → w.grownBy w' v.ownBlock → (v'.ownBlock = v.ownBlock ∨ v'.ownBlock = some w.heap.size) → wpList P ops Q rest (a.put o.dst v') w') : wpList P ops Q (o :: rest) a w := by
 obtain ⟨i, hi, hzz⟩ := Option.map_eq_some_iff.1 hinfo
 simp only [Prod.mk.injEq] at hzz
 obtain ⟨hz, hs1, hb⟩ := hzz
 refine wpList_plain hgd fun K hK => ?_
 obtain ⟨v', w', hrun, h2, h3, _, h5⟩ := run_append_own_at (P := P) w B t o.type e i z size bytes ht hi hz hs1 hb hzs hsz v n xs hown ad m c news hl hnews h1 h63 hbytes hbase
 unfold Oper.wp execOp
 simp only [ho, resolve, invoke, builtin, Sem.run_bind, Sem.run_pure, Result.andThen_ok, List.map_toArray, List.map_cons, List.map_nil, hs, hx, hrun]
 exact hK _ _ (h _ _ h2 h3 h5)
end
theorem info_cert : (Tryz.prog.info? 30).map (fun i => (i.zero, i.size, i.bytes)) = some (some (.agg Crt.none.cells.toArray), 24, 224) := by kernel_rfl
theorem fill_cert (c : Crt) (z : Array Value) (hz : z = Crt.none.cells.toArray) : Instr.fill (fun i => some (i * 24, 24)) ((Array.range (1 * 24)).map (z[· % z.size]!)) [(0, .agg c.cells.toArray)] = some c.cells.toArray := by
 subst hz
 kernel_rfl
section
variable {w : World} {ops : Array Oper} {rest : List Oper} {o : Oper} {a : Act} {Q : Exit → Act → World → Prop}
theorem wpList_build_cert (hgd : o.guard = none) (x : Operand) (ho : o.op = .buildSlice 31 1 #[(0, x)]) (c : Crt) (hx : a.eval x = .agg c.cells.toArray)
  (h : wpList Tryz.prog ops Q rest (a.put o.dst (.slice (some ⟨w.heap.size, 0, none⟩) 1 1)) (w.alloc (.cells c.cells.toArray 30))) : wpList Tryz.prog ops Q (o :: rest) a w := by
 obtain ⟨i, hi, hzz⟩ := Option.map_eq_some_iff.1 info_cert
 simp only [Prod.mk.injEq] at hzz
 obtain ⟨hz, hs1, hb⟩ := hzz
 refine wpList_buildSlice hgd 31 30 1 #[(0, x)] ho c.cells.toArray i (.agg Crt.none.cells.toArray) Tryz.underlying31 hi hz (by rw [hs1]; decide) (by rw [hs1]; decide) ?_ h
 rw [hs1]
 simp only [List.map_toArray, List.map_cons, List.map_nil, hx]
 exact fill_cert c _ rfl
end
theorem addr_add (g j : Nat) : (⟨g, 0, none⟩ : Addr).add j = ⟨g, j, none⟩ := by
 unfold Addr.add
 split <;> simp_all
theorem new_at {w : World} {vs : List Value} {t : TypeId} (j : Nat) (u : Value) (hj : vs[j]? = some u) : (w.alloc (.cells vs.toArray t)).cell? ((⟨w.heap.size, 0, none⟩ : Addr).add j) = some u := by
 rw [addr_add, cell_of_row _ _ _ _ _ _ (heap_alloc_new w _)]
 simpa using hj
theorem row_mono {w : World} {B B' : Nat} {e : TypeId} {s : Nat} {v : Value} {n : Nat} {xs : List Value} (h : w.ownsRow B e s v n xs) (hB : B' ≤ B) : w.ownsRow B' e s v n xs := by
 refine ⟨h.1, ?_⟩
 rcases h.2 with hn | ⟨g, cap, cur, rfl, hb, rest⟩
 ·exact .inl hn
 ·exact .inr ⟨g, cap, cur, rfl, Nat.le_trans hB hb, rest⟩
end Go.Proofs.YtchaahnhpeoomaaGreat
namespace Go.Proofs.YtchaahnhpeoomaaGreat
set_option linter.unusedVariables false
set_option linter.unusedSimpArgs false
set_option maxRecDepth 20000
open Go.RowKit
theorem zero_cert : (Tryz.prog.info? 30).map (fun i => i.zero) = some (some (.agg Crt.none.cells.toArray)) := by kernel_rfl
def ladC (r : Rung) (k : Sl) (ke : Nat) (iss sub ser : Sl) : Crt := ⟨Sl.nil, Sl.nil, iss, sub, ser, t2020, t2060, k, ke, Sl.nil, r.ca, r.path, r.usage, r.code⟩
def ladT (gl ol n lc i g7 B : Nat) (r u : Rung) (k : Sl) (ke : Nat) : Nat → Tg
 | 0 => tv (.slice (some ⟨gl, ol, none⟩) n lc)
 | 1 => tv (.int .i64 (i : Int))
 | 2 => tv (.pointer (some ⟨gl, ol + i * 6, none⟩))
 | 3 => tv (.pointer (some ⟨gl, ol + i * 6 + 1, none⟩))
 | 4 => tv (.int .u8 (r.serial : Int))
 | 5 => tlit B [1, r.serial]
 | 6 => tv (.pointer (some ⟨g7, 0, none⟩))
 | 7 => tv (.string (bstr u.name))
 | 8 => tnew B (nameB u.name)
 | 9 => tv (.slice (some ⟨gl, ol, none⟩) n lc)
 | 10 => tv (.int .i64 (i : Int))
 | 11 => tv (.pointer (some ⟨gl, ol + i * 6, none⟩))
 | 12 => tv (.pointer (some ⟨gl, ol + i * 6, none⟩))
 | 13 => tv (.string (bstr r.name))
 | 14 => tnew B (nameB r.name)
 | 15 => tv (.agg t2020.cells.toArray)
 | 16 => tv (.agg t2060.cells.toArray)
 | 17 => tv (.agg [.slice k.A k.xs.length k.c, .int .u64 (ke : Int)].toArray)
 | 18 => tv (.slice (some ⟨gl, ol, none⟩) n lc)
 | 19 => tv (.int .i64 (i : Int))
 | 20 => tv (.pointer (some ⟨gl, ol + i * 6, none⟩))
 | 21 => tv (.pointer (some ⟨gl, ol + i * 6 + 2, none⟩))
 | 22 => tv (.bool r.ca)
 | 23 => tv (.slice (some ⟨gl, ol, none⟩) n lc)
 | 24 => tv (.int .i64 (i : Int))
 | 25 => tv (.pointer (some ⟨gl, ol + i * 6, none⟩))
 | 26 => tv (.pointer (some ⟨gl, ol + i * 6 + 4, none⟩))
 | 27 => tv (.int .i64 r.path)
 | 28 => tv (.slice (some ⟨gl, ol, none⟩) n lc)
 | 29 => tv (.int .i64 (i : Int))
 | 30 => tv (.pointer (some ⟨gl, ol + i * 6, none⟩))
 | 31 => tv (.pointer (some ⟨gl, ol + i * 6 + 5, none⟩))
 | 32 => tv (.int .i64 r.usage)
 | 33 => tv (.slice (some ⟨gl, ol, none⟩) n lc)
 | 34 => tv (.int .i64 (i : Int))
 | 35 => tv (.pointer (some ⟨gl, ol + i * 6, none⟩))
 | 36 => tv (.pointer (some ⟨gl, ol + i * 6 + 3, none⟩))
 | 37 => tv (.bool r.code)
 | 38 => fun v W => ∃ iss sub ser : Sl, v = .agg (ladC r k ke iss sub ser).cells.toArray ∧ iss.xs = nameB u.name ∧ sub.xs = nameB r.name ∧ ser.xs = [1, r.serial] ∧ SlN B W iss ∧ SlN B W sub ∧ SlN B W ser
 | _ => tptr B (Value.agg Crt.none.cells.toArray).cells 30
set_option maxRecDepth 100000 in
set_option maxHeartbeats 1600000 in
theorem plain_any (xs : List Nat) (w : World) : Calls Tryz.prog 67 #[.string (bstr xs)] w (fun e w' => e = .returned (.agg (Rung.cells ⟨xs, 0, true, true, -1, -1⟩).toArray) ∧ Below w.heap.size w w') := by
 go_enter Tryz.func67, Tryz.ntmps67
 go_wp2
 refine bodyPost_ret (results_row rfl _ _ w.heap.size 0 (Rung.cells ⟨xs, 0, true, true, -1, -1⟩) _ rfl (Cut.of_heap (heap_alloc_new _ _) fun i v hv => by unfold Rung.cells at hv; simpa using hv).range Tryz.underlying125 rfl sz_rung) rfl ?_
 exact ⟨rfl, (Below.refl _ _).alloc (Nat.le_refl _) _⟩
def LadPost (l : List Rung) (kA : Option Addr) (ks : List Nat) (ke : Nat) (w : World) (e : Ending) (w' : World) : Prop :=
 ∃ (cs : List Crt) (v : Value), e = .returned v ∧ w'.ownsRow w.heap.size 30 24 v l.length (crtCells cs) ∧ cs.length = l.length ∧ cs.map Crt.say = ladderB l ks ke ∧ (∀ c ∈ cs, c.ok w') ∧
  (∀ c ∈ cs, ∀ g, (g < w.heap.size ∧ Off kA ks g) ∨ v.ownBlock = some g → CrtOff c g) ∧ Below w.heap.size w w'
theorem useN_range (u : Nat) : ∀ n, 0 < n → 1 ≤ useN u n ∧ useN u n ≤ n
 | 0, h => absurd h (by omega)
 | n + 1, _ => by
  rw [useN]
  split
  ·have := useN_range u n (by omega)
   omega
  ·omega
theorem useB_len (u n : Nat) : ∀ i, (useB u n i).length = 1 + (n + 7) / 8
 | 0 => by simp [useB]; omega
 | i + 1 => by rw [useB, List.length_set, useB_len u n i]
theorem getD_set {l : List Nat} {i j x : Nat} (h : i < l.length) : (l.set i x).getD j 0 = if i = j then x else l.getD j 0 := by
 rw [List.getD_eq_getElem?_getD, List.getElem?_set, List.getD_eq_getElem?_getD]
 split
 ·simp [h]
 ·rfl
theorem useB_room (u n : Nat) : ∀ i, i ≤ n → ∀ j, i ≤ 8 * j + 8 → ∃ q, (useB u n i).getD (1 + j) 0 = q * 2 ^ (8 - (i - 8 * j)) ∧ q < 2 ^ (i - 8 * j)
 | 0, _, j, _ => ⟨0, by
  simp only [Nat.zero_mul]
  rw [useB, List.getD_eq_getElem?_getD]
  rw [show 1 + j = j + 1 by omega, List.getElem?_cons_succ, List.getElem?_replicate]
  split <;> rfl, Nat.two_pow_pos _⟩
 | i + 1, hi, j, h => by
  have hl := useB_len u n i
  rw [useB, getD_set (by rw [hl]; omega)]
  by_cases hj : i / 8 = j
  ·rw [if_pos (by omega)]
   obtain ⟨q, h1, h2⟩ := useB_room u n i (by omega) j (by omega)
   rw [hj, h1]
   obtain ⟨k, hk⟩ : ∃ k, k = i - 8 * j := ⟨_, rfl⟩
   have e1 : i + 1 - 8 * j = k + 1 := by omega
   have e2 : 7 - i % 8 = 8 - (k + 1) := by omega
   have e3 : 8 - k = (8 - (k + 1)) + 1 := by omega
   rw [← hk] at h2 ⊢
   refine ⟨2 * q + u / 2 ^ i % 2, ?_, ?_⟩
   ·rw [e1, e2, e3, Nat.pow_succ]
    generalize 2 ^ (8 - (k + 1)) = y
    generalize u / 2 ^ i % 2 = b
    rw [Nat.add_mul, Nat.mul_comm 2 q, Nat.mul_assoc, Nat.mul_comm 2 y]
   ·rw [e1, Nat.pow_succ]
    omega
  ·rw [if_neg (by omega)]
   obtain ⟨q, h1, h2⟩ := useB_room u n i (by omega) j (by omega)
   have e : i + 1 - 8 * j = 0 := by omega
   have e' : i - 8 * j = 0 := by omega
   rw [e'] at h1 h2
   rw [e]
   exact ⟨q, h1, h2⟩
theorem useB_or {u n i x b : Nat} (hi : i < n) (hx : x = (useB u n i).getD (1 + i / 8) 0) (hb : b = u / 2 ^ i % 2 * 2 ^ (7 - i % 8)) : x < 256 ∧ b < 256 ∧ x + b < 256 ∧ x ||| b = x + b := by
 obtain ⟨q, h1, h2⟩ := useB_room u n i (by omega) (i / 8) (by omega)
 obtain ⟨k, hk, hk8⟩ : ∃ k, k = i - 8 * (i / 8) ∧ k < 8 := ⟨_, rfl, by omega⟩
 rw [← hk] at h1 h2
 rw [h1] at hx
 have e2 : 7 - i % 8 = 7 - k := by omega
 rw [e2] at hb
 have hbit : u / 2 ^ i % 2 < 2 := Nat.mod_lt _ (by omega)
 generalize u / 2 ^ i % 2 = t at hb hbit
 subst hx hb
 have ho : t * 2 ^ (7 - k) < 2 ^ (8 - k) := by
  rw [show 8 - k = 7 - k + 1 by omega, Nat.pow_succ]
  have := Nat.two_pow_pos (7 - k)
  rcases (show t = 0 ∨ t = 1 by omega) with rfl | rfl <;> omega
 have hor := Nat.shiftLeft_add_eq_or_of_lt ho q
 rw [Nat.shiftLeft_eq] at hor
 have hmax : (q + 1) * 2 ^ (8 - k) ≤ 256 := by
  have : 2 ^ k * 2 ^ (8 - k) = 256 := by rw [← Nat.pow_add, show k + (8 - k) = 8 by omega]
  rw [← this]
  exact Nat.mul_le_mul_right _ h2
 rw [Nat.add_mul] at hmax
 refine ⟨by omega, by omega, by omega, hor.symm⟩
theorem useB_lim {u n : Nat} : ∀ i, i ≤ n → n ≤ 9 → Lim 256 (useB u n i)
 | 0, _, h => fun x hx => by
  rw [useB] at hx
  rcases List.mem_cons.1 hx with rfl | hx
  ·omega
  ·rw [(List.mem_replicate.1 hx).2]; decide
 | i + 1, hi, h => fun x hx => by
  rw [useB] at hx
  rcases List.mem_or_eq_of_mem_set hx with hx | rfl
  ·exact useB_lim i (by omega) h x hx
  ·exact (useB_or (i := i) (by omega) rfl rfl).2.2.1
theorem i64_and1 (n : Int) : bits .and .i64 n 1 = n % 2 := by
 have h1 : (BitVec.ofInt 64 1).toNat = 2 ^ 1 - 1 := by decide
 have key : (BitVec.ofInt 64 n &&& BitVec.ofInt 64 1).toNat = (n % ((2 ^ 64 : Nat) : Int)).toNat % 2 ^ 1 := by
  rw [BitVec.toNat_and, BitVec.toNat_ofInt, h1, Nat.and_two_pow_sub_one_eq_mod]
 show IntKind.i64.wrap ((BitVec.ofInt 64 n &&& BitVec.ofInt 64 1).toNat : Nat) = n % 2
 rw [key, IntKind.wrap_i64]
 omega
set_option maxRecDepth 100000 in
set_option maxHeartbeats 6400000 in
theorem usageBits_any (u : Nat) (hu : u < 512) (w : World) : Calls Tryz.prog 129 #[.int .i64 (u : Int)] w (Gives .u8 (usageB u) w) := by
 have hu2 : (u : Int) < 512 := by omega
 obtain ⟨m0, hm0⟩ : ∃ m, m = useN u 9 := ⟨_, rfl⟩
 have hm0r := useN_range u 9 (by decide)
 rw [← hm0] at hm0r
 replace hm0 := Lib.hid hm0
 go_enter Tryz.func129, Tryz.ntmps129
 go_wp2_with fail
 go_loopw [3] (fun t wr => ∃ m : Nat, t = .int .i64 (m : Int) ∧ 1 ≤ m ∧ m ≤ 9 ∧ Hid (useN u m = m0) ∧ wr = w) (fun t _ => (intOf t).toNat)
 case atStart => exact ⟨9, rfl, by decide, by decide, hm0.out.symm, rfl⟩
 case round =>
  obtain ⟨m, rfl, h1, h9, hm, hw⟩ := hrel
  rw [hw]
  obtain ⟨k, rfl⟩ : ∃ k, m = k + 1 := ⟨m - 1, by omega⟩
  have hs := hm.out
  rw [useN] at hs
  replace hs := Lib.hid hs
  have zc : ((k + 1 : Nat) : Int) = (k : Int) + 1 := by omega
  have zk : (k : Int) ≤ 8 := by omega
  obtain ⟨bt, hbt⟩ : ∃ b, b = u / 2 ^ k % 2 := ⟨_, rfl⟩
  have hand : bits .and .i64 ((u : Int) / 2 ^ k) 1 = (bt : Int) := by
   rw [i64_and1, hbt]
   norm_cast
  by_cases hk : 1 < k + 1 ∧ u / 2 ^ k % 2 = 0
  ·have z1 : (1 : Int) < (k : Int) + 1 := by omega
   have z0 : (bt : Int) = 0 := by omega
   have hs2 := hs.out
   rw [if_pos hk] at hs2
   replace hs2 := Lib.hid hs2
   replace hbt := Lib.hid hbt
   clear hk
   go_wp2_with fail
   go_roundw
   case rel => exact ⟨k, by go_num, by omega, by omega, hs2, trivial⟩
   case measure => simp [intOf]
  ·have hm2 : k + 1 = m0 := by
    have hs2 := hs.out
    rwa [if_neg hk] at hs2
   clear hs hm
   have hd : decide ((1 : Int) < (k : Int) + 1) = true ∧ ((bt : Int) == 0) = false ∨ ¬ (1 : Int) < (k : Int) + 1 := by
    by_cases h : 1 < k + 1
    ·exact .inl ⟨decide_eq_true (by omega), by simp only [beq_eq_false_iff_ne, ne_eq]; exact fun e => hk ⟨h, by omega⟩⟩
    ·exact .inr (by omega)
   clear hk
   replace hbt := Lib.hid hbt
   obtain ⟨N, hN⟩ : ∃ N, N = useB u (k + 1) 0 := ⟨_, rfl⟩
   obtain ⟨f0, hf0⟩ : ∃ e, e = (8 - (k + 1) % 8) % 8 := ⟨_, rfl⟩
   have hset : (List.replicate (1 + (k + 1 + 7) / 8) 0).set 0 f0 = N := by rw [hN, useB, Nat.add_comm 1, hf0]; rfl
   have zz : -(((k : Int) + 1) % 8) % 8 = (f0 : Int) := by omega
   have zf : (f0 : Int) < 256 := by omega
   replace hf0 := Lib.hid hf0
   replace hN := Lib.hid hN
   replace hm2 := Lib.hid hm2
   rcases hd with ⟨hd1, hd2⟩ | hd1
   all_goals
    go_upto_region 5 with (at_make; refine wpList_make_ints _ rfl _ _ _ rfl .u8 5 1 Tryz.underlying22 info_u8 _ _ (1 + (k + 1 + 7) / 8) _ _ rfl rfl (by omega) (by omega) (by omega) (by omega) ?_; intro gt w1 hg V1 hs1 hb1)
    have hc1 := V1.blk.cell (i := 0) (x := 0) (by rw [List.getElem?_replicate, if_pos (by omega)])
    have hc2 := V1.blk.frozen (i := 0) (x := 0) (by rw [List.getElem?_replicate, if_pos (by omega)])
    go_upto_region 6 with fail
    have W2 := V1.set 0 f0
    rw [hset] at W2
    have b2 : Below w.heap.size w (w1.setCell ⟨gt, 0, none⟩ (.int .u8 (f0 : Int))) := hb1.setCell (p := ⟨gt, 0, none⟩) (by show _ ≤ gt; rw [hg.out]; exact Nat.le_refl _) _
    generalize w1.setCell ⟨gt, 0, none⟩ (.int .u8 (f0 : Int)) = w2 at W2 b2 ⊢
    clear hc1 hc2 zz zf V1 hb1 hs1 hset hand
    have HW : Whl .u8 5 w2 gt (useB u (k + 1) 0) := by rw [← hN.out]; exact W2
    clear W2
    go_wp2_with fail
    go_loopw [5] (fun t wr => ∃ i : Nat, t = .int .i64 (i : Int) ∧ i ≤ k + 1 ∧ Whl .u8 5 wr gt (useB u (k + 1) i) ∧ Below w.heap.size w wr) (fun t _ => k + 1 - (intOf t).toNat)
    case atStart => exact ⟨0, rfl, by omega, HW, b2⟩
    case round =>
     obtain ⟨i, rfl, hi, Vr, br⟩ := hrel
     have zi : (i : Int) ≤ 9 := by omega
     have hlen := useB_len u (k + 1) i
     by_cases hik : i < k + 1
     ·have z1 : (i : Int) < (k : Int) + 1 := by omega
      obtain ⟨j, hj⟩ : ∃ j, j = 1 + i / 8 := ⟨_, rfl⟩
      have zj : 1 + (i : Int) / 8 = (j : Int) := by omega
      have hjl : (j : Int) < 1 + ((k : Int) + 1 + 7) / 8 := by omega
      obtain ⟨x, hx⟩ : ∃ x, (useB u (k + 1) i)[j]? = some x := ⟨_, List.getElem?_eq_getElem (by rw [hlen]; omega)⟩
      have kc := Vr.blk.cell hx
      have kf := Vr.blk.frozen hx
      obtain ⟨bt2, hbt2⟩ : ∃ b, b = u / 2 ^ i % 2 := ⟨_, rfl⟩
      have hand : bits .and .i64 ((u : Int) / 2 ^ i) 1 = (bt2 : Int) := by
       rw [i64_and1, hbt2]
       norm_cast
      have z2 : (bt2 : Int) < 2 := by omega
      have hor := useB_or (u := u) (n := k + 1) (i := i) (x := x) hik (by rw [← hj, List.getD_eq_getElem?_getD, hx]; rfl) rfl
      obtain ⟨y, hy⟩ : ∃ y, y = u / 2 ^ i % 2 * 2 ^ (7 - i % 8) := ⟨_, rfl⟩
      rw [← hy] at hor
      obtain ⟨s, hs⟩ : ∃ s, s = x + y := ⟨_, rfl⟩
      have hB : bits .or .u8 (x : Int) ((bt2 : Int) * 2 ^ (7 - i % 8) % 256) = (s : Int) := by
       have e : (bt2 : Int) * 2 ^ (7 - i % 8) % 256 = (y : Int) := by
        have e2 : (bt2 : Int) * 2 ^ (7 - i % 8) = (y : Int) := by
         rw [hy, hbt2]
         norm_cast
        rw [e2]
        omega
       rw [e, u8_or_nat _ _ hor.1 hor.2.1, hor.2.2.2, hs]
      have hnx : (useB u (k + 1) i).set j s = useB u (k + 1) (i + 1) := by
       rw [useB, ← hj, hs, hy, List.getD_eq_getElem?_getD, hx]
       rfl
      have zs : (s : Int) < 256 := by omega
      replace hj := Lib.hid hj
      replace hbt2 := Lib.hid hbt2
      replace hy := Lib.hid hy
      replace hs := Lib.hid hs
      replace hnx := Lib.hid hnx
      go_upto_region 8 with fail
      have V2 := Vr.set j s
      rw [hnx.out] at V2
      have b3 := br.setCell (p := ⟨gt, j, none⟩) (by show _ ≤ gt; rw [hg.out]; exact Nat.le_refl _) (.int .u8 (s : Int))
      go_wp2_with fail
      go_roundw
      case rel => exact ⟨i + 1, by go_num, by omega, V2, b3⟩
      case measure =>
       simp [intOf]
       omega
     ·have z1 : ¬ (i : Int) < (k : Int) + 1 := by omega
      obtain rfl : i = k + 1 := by omega
      go_wp2_with fail
      have hq := refWrite_any 3 (some ⟨gt, 0, none⟩) (1 + (k + 1 + 7) / 8) (1 + (k + 1 + 7) / 8) (useB u (k + 1) (k + 1)) wr (by decide) hlen.symm (by omega) (Rd.of_all Vr.blk)
      rw [show ((3 : Nat) : Int) = (3 : Int) from rfl] at hq
      refine hq.mono ?_
      clear hq
      rintro r w4 ⟨A4, c4, rfl, h4a, h4b, o4, b4⟩
      go_wp2_with fail
      go_ret
      have hG : _root_.Go.Proofs.YtchaahnhpeoomaaGreat.wr 3 (useB u (k + 1) (k + 1)) = usageB u := by unfold usageB; rw [← hm0.out, ← hm2.out]
      rw [← hG]
      exact ⟨A4, c4, rfl, h4a, h4b, o4.mono br.size, br.trans (b4.mono br.size)⟩
structure OwnS (W : World) (B : Nat) (v : Value) (l : List Sl) : Prop where
 own : W.ownsRow B 22 1 v l.length (l.map Sl.val)
 rd : ∀ s ∈ l, Rd .u8 W s.A s.xs
 off : ∀ b, v.ownBlock = some b → ∀ s ∈ l, Off s.A s.xs b
theorem OwnS.nil (W : World) (B : Nat) : OwnS W B (.slice none 0 0) [] := ⟨World.ownsRow_nil W B _ _, fun s h => by simp at h, fun b h => by cases h⟩
theorem OwnS.below {W W' : World} {B : Nat} {v : Value} {l : List Sl} (h : OwnS W B v l) (hb : Below W.heap.size W W') : OwnS W' B v l :=
 ⟨row_keep h.own fun k hk => hb.block k (h.own.lt k hk).2, fun s hs => (h.rd s hs).below hb, h.off⟩
theorem OwnS.sls {W : World} {B : Nat} {v : Value} {l : List Sl} (h : OwnS W B v l) : ∃ A c, v = .slice A l.length c ∧ l.length ≤ c ∧ c ≤ maxLen ∧ Sls W A l := by
 rcases h.own.2 with ⟨h1, h2⟩ | ⟨g, cap, cur, h1, hB, h3, h4, h5, h6, h7⟩
 ·obtain rfl : l = [] := List.eq_nil_of_length_eq_zero h2
  exact ⟨none, 0, h1, Nat.le_refl _, Nat.zero_le _, .inl rfl, h.rd⟩
 ·refine ⟨_, cap, h1, h4, h5, .inr ⟨g, 0, rfl, (Array.getElem?_eq_some_iff.1 h3).1, fun i s hi => ?_⟩, h.rd⟩
  have hu : (l.map Sl.val)[i]? = some s.val := by rw [List.getElem?_map, hi]; rfl
  have hil : i < l.length * 1 := by have := (List.getElem?_eq_some_iff.1 hi).1; omega
  rw [← h7, List.getElem?_take_of_lt hil] at hu
  rw [Nat.zero_add]
  simp [World.cell?, h3, by simpa using hu]
theorem info_sls : (Tryz.prog.info? 22).map (fun i => (i.zero, i.size, i.bytes)) = some (some (.slice none 0 0), 1, 24) := by kernel_rfl
theorem wpList_append_S {w : World} {ops : Array Oper} {rest : List Oper} {o : Oper} {a : Act} {Q : Exit → Act → World → Prop} (hgd : o.guard = none) (s x : Operand) (ho : o.op = .call { callee := .builtin .append, args := #[s, x], argTypes := #[32, 32] })
  (B : Nat) (v : Value) (l : List Sl) (hs : a.eval s = v) (H : OwnS w B v l) (gL : Nat) (t : Sl) (hx : a.eval x = .slice (some ⟨gL, 0, none⟩) 1 1) (hc : w.cell? ⟨gL, 0, none⟩ = some t.val) (ht : Rd .u8 w t.A t.xs) (hoff : ∀ b, v.ownBlock = some b → Off t.A t.xs b) (hl : l.length ≤ 100) (hB : B ≤ w.heap.size)
  (h : ∀ v' w', OwnS w' B v' (l ++ [t]) → (∀ A, Below B A w → Below B A w') → wpList Tryz.prog ops Q rest (a.put o.dst v') w') : wpList Tryz.prog ops Q (o :: rest) a w := by
 refine wpList_append_V hgd s x _ ho B 22 (.slice none 0 0) 1 24 Tryz.underlying32 info_sls rfl (by decide) v l.length (l.map Sl.val) hs H.own ⟨gL, 0, none⟩ 1 1 [t.val] hx rfl (fun j u hj => ?_) (fun u hu => by rw [List.mem_singleton.1 hu]; rfl) (by simp only [maxLen]; omega) (by omega) hB (fun v' w' o1 g1 b1 => h v' w' ⟨?_, fun q hq => ?_, fun b hb q hq => ?_⟩ fun A hA => hA.grown g1 hB fun k hk => (H.own.lt k hk).1)
 ·rcases j with _ | j
  ·cases hj
   rw [addr_add]
   exact hc
  ·simp at hj
 ·simpa using o1
 ·rcases List.mem_append.1 hq with hq | hq
  ·exact (H.rd q hq).grown g1 fun b hb => H.off b hb q hq
  ·rw [List.mem_singleton.1 hq]
   exact ht.grown g1 fun b hb => hoff b hb
 ·rcases b1 with e | e
  ·rw [e] at hb
   rcases List.mem_append.1 hq with hq | hq
   ·exact H.off b hb q hq
   ·rw [List.mem_singleton.1 hq]
    exact hoff b hb
  ·rw [e] at hb
   cases hb
   rcases List.mem_append.1 hq with hq | hq
   ·exact Off.new (H.rd q hq) (Nat.le_refl _)
   ·rw [List.mem_singleton.1 hq]
    exact Off.new ht (Nat.le_refl _)
theorem joinS_map (l : List Sl) : joinS l = (l.map Sl.xs).flatten := by unfold joinS; rw [List.flatMap_def]
theorem extB_len {n b : List Nat} {k : Nat} (hn : n.length ≤ 3) (hb : b.length ≤ k) (hk : k ≤ 1000) : (extB n b).length ≤ k + 21 := by
 have h1 : (wr 6 n).length ≤ 9 := Nat.le_trans (wr_len (by omega)) (by omega)
 have h2 : (wr 4 b).length ≤ k + 6 := Nat.le_trans (wr_len (by omega)) (by omega)
 exact Nat.le_trans (seqB_len (n := k + 15) (by simp; omega) (by omega)) (by omega)
theorem usageB_len (u : Nat) : (usageB u).length ≤ 9 := by
 have h1 := useN_range u 9 (by decide)
 have h2 := useB_len u (useN u 9) (useN u 9)
 exact Nat.le_trans (wr_len (by omega)) (by omega)
theorem exts_len (c : Say) (hcode : c.code = true) : (extsB c).flatten.length ≤ 80 := by
 have h1 : ∀ p : Nat, (seqB (yesB :: (if 0 ≤ c.path then [wr 2 (putInt [p])] else []))).length ≤ 18 := fun p => by
  have h1 := putInt_len [p]
  have h2 : (wr 2 (putInt [p])).length ≤ 8 := Nat.le_trans (wr_len (by simp at h1; omega)) (by simp at h1; omega)
  refine seqB_len (n := 12) ?_ (by omega)
  split <;> simp [yesB] <;> omega
 have h2 := extB_len (n := basicB) (by decide) (h1 (c.path.toNat % 256)) (by omega)
 have h3 := extB_len (n := usageNB) (by decide) (usageB_len c.usage.toNat) (by omega)
 unfold extsB
 rw [hcode]
 cases c.ca <;> by_cases hu : 0 ≤ c.usage <;> simp [hu] <;> omega
theorem bstr_useN : bstr usageNB = { data := #[85, 29, 15] } := by rfl
set_option maxRecDepth 100000 in
set_option maxHeartbeats 40000000 in
theorem refTbs_told (c : Crt) (w : World) (ok : c.ok w) (hse : c.serial.xs.length ≤ 1000) (his : c.issuer.xs.length ≤ 10000) (hsu : c.subject.xs.length ≤ 10000) (hke : c.key.xs.length ≤ 1000) (hcode : c.code = true) (hpath : c.path ≤ 255) (huse : c.usage ≤ 511) :
  Calls Tryz.prog 98 #[c.val] w (GivesN (tbsB c.say) w) := by
 have R1 : Row (w.alloc (.cells c.cells.toArray 30)) w.heap.size 0 c.cells := row_new _
 have e1 : Below w.heap.size w (w.alloc (.cells c.cells.toArray 30)) := (Below.refl _ _).alloc (Nat.le_refl _) _
 have k2 : (w.alloc (.cells c.cells.toArray 30)).cell? ⟨w.heap.size, 2, none⟩ = some (.slice c.issuer.A c.issuer.xs.length c.issuer.c) := R1.cell (i := 2) rfl
 have k18 : (w.alloc (.cells c.cells.toArray 30)).cell? ⟨w.heap.size, 18, none⟩ = some (.int .u64 (c.e : Int)) := R1.cell (i := 18) rfl
 have ok1 := ok.below e1
 have he := ok.e
 have kc := conv_const
 unfold Crt.val
 go_enter Tryz.func98, Tryz.ntmps98
 go_upto_region 2 with fail
 generalize w.alloc (.cells c.cells.toArray 30) = w1 at *
 obtain ⟨ex, hex⟩ : ∃ ex, ex = [c.e / 4294967296 % 256, c.e / 16777216 % 256, c.e / 65536 % 256, c.e / 256 % 256, c.e % 256] := ⟨_, rfl⟩
 have rx : Rd .u8 (w1.alloc (.cells #[.int .u8 ((c.e : Int) / 4294967296 % 256), .int .u8 ((c.e : Int) / 16777216 % 256), .int .u8 ((c.e : Int) / 65536 % 256), .int .u8 ((c.e : Int) / 256 % 256), .int .u8 ((c.e : Int) % 256)] 5)) (some ⟨w1.heap.size, 0, none⟩) ex := by
  rw [hex]
  exact Rd.of_all (blk_lit w1 _ _ (by simp [ints]))
 have hex5 : ex.length = 5 := by rw [hex]; rfl
 have heb : expB c.e = putInt ex := by rw [hex]; rfl
 have hebl : (putInt ex).length ≤ 6 := by have := putInt_len ex; omega
 have HEB := Lib.hid heb
 have HEX := Lib.hid hex5
 clear hex heb hex5
 have e2 := e1.alloc e1.size (.cells #[.int .u8 ((c.e : Int) / 4294967296 % 256), .int .u8 ((c.e : Int) / 16777216 % 256), .int .u8 ((c.e : Int) / 65536 % 256), .int .u8 ((c.e : Int) / 256 % 256), .int .u8 ((c.e : Int) % 256)] 5)
 have f2 : Below w1.heap.size w1 (w1.alloc (.cells #[.int .u8 ((c.e : Int) / 4294967296 % 256), .int .u8 ((c.e : Int) / 16777216 % 256), .int .u8 ((c.e : Int) / 65536 % 256), .int .u8 ((c.e : Int) / 256 % 256), .int .u8 ((c.e : Int) % 256)] 5)) := (Below.refl _ _).alloc (Nat.le_refl _) _
 go_wp2_with fail
 generalize w1.alloc (.cells #[.int .u8 ((c.e : Int) / 4294967296 % 256), .int .u8 ((c.e : Int) / 16777216 % 256), .int .u8 ((c.e : Int) / 65536 % 256), .int .u8 ((c.e : Int) / 256 % 256), .int .u8 ((c.e : Int) % 256)] 5) = w2 at *
 refine (refPutInt_any (some ⟨w1.heap.size, 0, none⟩) 5 5 ex w2 HEX.out.symm (by omega) (by omega) rx).mono ?_
 rintro r w3 ⟨A3, c3, rfl, -, -, o3, f3⟩
 have e3 := e2.trans (f3.mono e2.size)
 have R3 := (R1.below f2).below f3
 have ok3 := (ok1.below f2).below f3
 have r3 := o3.rd.alloc (.cells #[.slice A3 (putInt ex).length c3] 22)
 have R4 := R3.below ((Below.refl w3.heap.size w3).alloc (Nat.le_refl _) (.cells #[.slice A3 (putInt ex).length c3] 22))
 have ok4 := ok3.below ((Below.refl w3.heap.size w3).alloc (Nat.le_refl _) (.cells #[.slice A3 (putInt ex).length c3] 22))
 have e4 := e3.alloc e3.size (.cells #[.slice A3 (putInt ex).length c3] 22)
 have kl : (w3.alloc (.cells #[.slice A3 (putInt ex).length c3] 22)).cell? ⟨w3.heap.size, 0, none⟩ = some (.slice A3 (putInt ex).length c3) := by simp
 have hl3 : w3.heap.size < (w3.alloc (.cells #[.slice A3 (putInt ex).length c3] 22)).heap.size := by simp
 clear k2 k18 o3 rx R3 ok3 ok1 R1
 go_upto_region 3 with fail
 generalize w3.alloc (.cells #[.slice A3 (putInt ex).length c3] 22) = w4 at *
 have hSS : ∀ W, Below w4.heap.size w4 W → (Below w4.heap.size w4 W ∧ W.cell? ⟨w.heap.size, 17, none⟩ = some (.slice c.key.A c.key.xs.length c.key.c) ∧ W.cell? ⟨w3.heap.size, 0, none⟩ = some (.slice A3 (putInt ex).length c3)) := fun W h => ⟨h, (R4.below h).cell (i := 17) rfl, (h.cell (p := ⟨w3.heap.size, 0, none⟩) hl3).trans kl⟩
 have hd0 : Below w4.heap.size w4 w4.drew := below_drewN (Below.refl _ _) 1
 have hkl := putInt_len c.key.xs
 have hKW : (wr 2 (putInt c.key.xs)).length ≤ 1007 := Nat.le_trans (wr_len (by omega)) (by omega)
 have hEW : (wr 2 (putInt ex)).length ≤ 12 := Nat.le_trans (wr_len (by omega)) (by omega)
 have hP : Hid (∀ W, Below w4.heap.size w4 W → Calls Tryz.prog 127 #[.slice c.key.A c.key.xs.length c.key.c] W (Gives .u8 (putInt c.key.xs) W)) := fun W h => refPutInt_any c.key.A c.key.xs.length c.key.c c.key.xs W rfl (by omega) ok4.key.cap (ok4.key.rd.below h)
 have hE : Hid (∀ W, Below w4.heap.size w4 W → Calls Tryz.prog 40 #[.int .u8 2, .slice A3 (putInt ex).length c3] W (Gives .u8 (wr 2 (putInt ex)) W)) := fun W h => refWrite_any 2 A3 (putInt ex).length c3 (putInt ex) W (by omega) rfl (by omega) (r3.below h)
 have hWr : Hid (∀ W A cc, Rd .u8 W A (putInt c.key.xs) → Calls Tryz.prog 40 #[.int .u8 2, .slice A (putInt c.key.xs).length cc] W (Gives .u8 (wr 2 (putInt c.key.xs)) W)) := fun W A cc h => refWrite_any 2 A (putInt c.key.xs).length cc (putInt c.key.xs) W (by omega) rfl (by omega) h
 have hSq : Hid (∀ W A cc A' cc', Rd .u8 W A (wr 2 (putInt c.key.xs)) → Rd .u8 W A' (wr 2 (putInt ex)) → Calls Tryz.prog 95 #[.slice (some ⟨W.heap.size, 0, none⟩) 2 2] (W.alloc (.cells #[.slice A (wr 2 (putInt c.key.xs)).length cc, .slice A' (wr 2 (putInt ex)).length cc'] 22)) (Gives .u8 (keyB c.key.xs c.e) (W.alloc (.cells #[.slice A (wr 2 (putInt c.key.xs)).length cc, .slice A' (wr 2 (putInt ex)).length cc'] 22)))) := fun W A cc A' cc' h h' => by
  have hq := refSeq_any (some ⟨W.heap.size, 0, none⟩) 2 2 [⟨A, cc, wr 2 (putInt c.key.xs)⟩, ⟨A', cc', wr 2 (putInt ex)⟩] (W.alloc (.cells #[.slice A (wr 2 (putInt c.key.xs)).length cc, .slice A' (wr 2 (putInt ex)).length cc'] 22)) rfl (by omega) (by simp [joinS]; omega) (sls_lit _ rfl (all2 h h'))
  have e : seqB ([⟨A, cc, wr 2 (putInt c.key.xs)⟩, ⟨A', cc', wr 2 (putInt ex)⟩].map Sl.xs) = keyB c.key.xs c.e := by rw [keyB, HEB.out]; rfl
  rwa [e] at hq
 refine wp_region_held_drew (S := fun W => Below w4.heap.size w4 W ∧ W.cell? ⟨w.heap.size, 17, none⟩ = some (.slice c.key.A c.key.xs.length c.key.c) ∧ W.cell? ⟨w3.heap.size, 0, none⟩ = some (.slice A3 (putInt ex).length c3)) (by kernel_rfl) (hSS _ hd0) (fun hHeld => ?_)
 refine wpAnyH_take (i := 0) (v := ?hv1) rfl (by kernel_rfl) (by kernel_rfl) (by kernel_rfl) (fun _ _ _ h => h) (Or.inl ⟨by rfl, ?hy1⟩) (by assumption) ?hr1
 case hy1 => ((intro _ hSw; (try dsimp only at hSw); go_simp) <;> with_reducible rfl)
 try simp only [List.getElem_toArray, List.getElem_cons_zero, List.getElem_cons_succ, Act.put, List.setIfInBounds_toArray, List.set_cons_zero, List.set_cons_succ]
 refine wpAnyH_take (i := 1) (v := ?hv2) rfl (by kernel_rfl) (by kernel_rfl) (by kernel_rfl) (fun _ _ _ h => h) (Or.inl ⟨by rfl, ?hy2⟩) (by assumption) ?hr2
 case hy2 => ((intro _ hSw; (try dsimp only at hSw); go_simp) <;> with_reducible rfl)
 try simp only [List.getElem_toArray, List.getElem_cons_zero, List.getElem_cons_succ, Act.put, List.setIfInBounds_toArray, List.set_cons_zero, List.set_cons_succ]
 refine wpAnyH_take (i := 2) (v := ?hv3) rfl (by kernel_rfl) (by kernel_rfl) (by kernel_rfl) (fun _ _ _ h => h) (Or.inl ⟨by rfl, ?hy3⟩) (by assumption) ?hr3
 case hy3 => ((intro _ hSw; (try dsimp only at hSw); go_simp) <;> with_reducible rfl)
 try simp only [List.getElem_toArray, List.getElem_cons_zero, List.getElem_cons_succ, Act.put, List.setIfInBounds_toArray, List.set_cons_zero, List.set_cons_succ]
 refine wpAnyH_take (i := 5) (v := ?hv4) rfl (by kernel_rfl) (by kernel_rfl) (by kernel_rfl) (fun _ _ _ h => h) (Or.inl ⟨by rfl, ?hy4⟩) (by assumption) ?hr4
 case hy4 => ((intro _ hSw; (try dsimp only at hSw); go_simp) <;> with_reducible rfl)
 try simp only [List.getElem_toArray, List.getElem_cons_zero, List.getElem_cons_succ, Act.put, List.setIfInBounds_toArray, List.set_cons_zero, List.set_cons_succ]
 refine wpAnyH_take (i := 6) (v := ?hv5) rfl (by kernel_rfl) (by kernel_rfl) (by kernel_rfl) (fun _ _ _ h => h) (Or.inl ⟨by rfl, ?hy5⟩) (by assumption) ?hr5
 case hy5 => ((intro _ hSw; (try dsimp only at hSw); go_simp) <;> with_reducible rfl)
 try simp only [List.getElem_toArray, List.getElem_cons_zero, List.getElem_cons_succ, Act.put, List.setIfInBounds_toArray, List.set_cons_zero, List.set_cons_succ]
 refine wpAnyH_take (i := 7) (v := ?hv6) rfl (by kernel_rfl) (by kernel_rfl) (by kernel_rfl) (fun _ _ _ h => h) (Or.inl ⟨by rfl, ?hy6⟩) (by assumption) ?hr6
 case hy6 => ((intro _ hSw; (try dsimp only at hSw); go_simp) <;> with_reducible rfl)
 try simp only [List.getElem_toArray, List.getElem_cons_zero, List.getElem_cons_succ, Act.put, List.setIfInBounds_toArray, List.set_cons_zero, List.set_cons_succ]
 refine wpAnyH_ready (rs := [3]) (by kernel_rfl) (by simp) (AllReadyH.cons rfl (fun K hK => ?_) AllReadyH.nil)
 go_simp
 refine (hP.out _ hHeld.1).mono ?_; rintro r wa ⟨Aa, ca, rfl, -, -, oa, ea⟩; have hcur := hHeld.1.trans (ea.mono hHeld.1.size); have ra := oa.rd
 go_wp2_with fail
 clear hHeld
 refine hK.out _ _ ?hS7 (fun hHeld => ?_)
 case hS7 => exact hSS _ hcur
 clear hK K
 try simp only [List.getElem_toArray, List.getElem_cons_zero, List.getElem_cons_succ, Act.put, List.setIfInBounds_toArray, List.set_cons_zero, List.set_cons_succ]
 refine wpAnyH_ready (rs := [4]) (by kernel_rfl) (by simp) (AllReadyH.cons rfl (fun K hK => ?_) AllReadyH.nil)
 go_simp
 refine (hWr.out _ _ _ ra).mono ?_; rintro r wb ⟨Ab, cb, rfl, -, -, ob, ebb⟩; have hcur := hHeld.1.trans (ebb.mono hHeld.1.size); have rb := ob.rd; clear oa ra ea
 go_wp2_with fail
 clear hHeld
 refine hK.out _ _ ?hS8 (fun hHeld => ?_)
 case hS8 => exact hSS _ hcur
 clear hK K
 try simp only [List.getElem_toArray, List.getElem_cons_zero, List.getElem_cons_succ, Act.put, List.setIfInBounds_toArray, List.set_cons_zero, List.set_cons_succ]
 refine wpAnyH_ready (rs := [8]) (by kernel_rfl) (by simp) (AllReadyH.cons rfl (fun K hK => ?_) AllReadyH.nil)
 go_simp
 refine (hE.out _ hHeld.1).mono ?_; rintro r wd ⟨Ad, cd, rfl, -, -, od, edd⟩; have hcur := hHeld.1.trans (edd.mono hHeld.1.size); have rb := rb.below edd; have rd := od.rd; clear ob od
 go_wp2_with fail
 clear hHeld
 refine hK.out _ _ ?hS9 (fun hHeld => ?_)
 case hS9 => exact hSS _ hcur
 clear hK K
 try simp only [List.getElem_toArray, List.getElem_cons_zero, List.getElem_cons_succ, Act.put, List.setIfInBounds_toArray, List.set_cons_zero, List.set_cons_succ]
 refine wpAnyH_ready (rs := [9]) (by kernel_rfl) (by simp) (AllReadyH.cons rfl (fun K hK => ?_) AllReadyH.nil)
 go_simp
 refine hK.out _ _ ?hS10 (fun hHeldN => ?_)
 case hS10 => exact hSS _ (hHeld.1.alloc hHeld.1.size _)
 clear hHeld hK K
 have hHeld := hHeldN
 clear hHeldN
 try simp only [List.getElem_toArray, List.getElem_cons_zero, List.getElem_cons_succ, Act.put, List.setIfInBounds_toArray, List.set_cons_zero, List.set_cons_succ]
 refine wpAnyH_ready (rs := [10]) (by kernel_rfl) (by simp) (AllReadyH.cons rfl (fun K hK => ?_) AllReadyH.nil)
 go_simp
 refine (hSq.out _ _ _ _ _ rb rd).mono ?_; rintro r w5 ⟨A5, c5, rfl, -, -, o5, e55⟩; have hcur := hHeld.1.trans (e55.mono hHeld.1.size); have r5 := o5.rd; clear o5 rb rd e55
 go_wp2_with fail
 clear hHeld
 refine hK.out _ _ ?hS11 (fun hHeld => ?_)
 case hS11 => exact hSS _ hcur
 clear hK K
 try simp only [List.getElem_toArray, List.getElem_cons_zero, List.getElem_cons_succ, Act.put, List.setIfInBounds_toArray, List.set_cons_zero, List.set_cons_succ]
 refine wpAnyH_take (i := 11) (v := ?hv12) rfl (by kernel_rfl) (by kernel_rfl) (by kernel_rfl) (fun _ _ _ h => h) (Or.inl ⟨by rfl, ?hy12⟩) (by assumption) ?hr12
 case hy12 => ((intro _ hSw; (try dsimp only at hSw); go_simp) <;> with_reducible rfl)
 try simp only [List.getElem_toArray, List.getElem_cons_zero, List.getElem_cons_succ, Act.put, List.setIfInBounds_toArray, List.set_cons_zero, List.set_cons_succ]
 refine wpAnyH_done (by kernel_rfl) ?_ _
 have ok5 := ok4.below hcur
 have R5 := R4.below hcur
 have e5 := e4.trans (hcur.mono e4.size)
 have hkB : (keyB c.key.xs c.e).length ≤ 1025 := by
  rw [keyB, HEB.out]
  exact Nat.le_trans (seqB_len (n := 1019) (by simp; omega) (by omega)) (by omega)
 clear hHeld hSS hP hE hWr hSq R4 ok4 e4 hd0 kl hl3 e1 e2 e3 f2 f3
 have k20 : w5.cell? ⟨w.heap.size, 20, none⟩ = some (.bool c.ca) := R5.cell (i := 20) rfl
 have k21 : w5.cell? ⟨w.heap.size, 21, none⟩ = some (.int .i64 c.path) := R5.cell (i := 21) rfl
 have k22 : w5.cell? ⟨w.heap.size, 22, none⟩ = some (.int .i64 c.usage) := R5.cell (i := 22) rfl
 have k23 : w5.cell? ⟨w.heap.size, 23, none⟩ = some (.bool c.code) := R5.cell (i := 23) rfl
 have oz : (w5.alloc (.cells #[.int .u8 0] 5)).ownsRow w5.heap.size 5 1 (.slice (some ⟨w5.heap.size, 0, none⟩) 1 1) 1 (ints .u8 [0]) := lit_own w5 [0] _ rfl (Nat.le_refl _) (by simp [maxLen])
 have f6 : Below w5.heap.size w5 (w5.alloc (.cells #[.int .u8 0] 5)) := (Below.refl _ _).alloc (Nat.le_refl _) _
 have hA : 1 + (keyB c.key.xs c.e).length ≤ maxLen := by simp only [maxLen]; omega
 have hB : (1 + (keyB c.key.xs c.e).length) * 1 ≤ 140737488355328 := by omega
 have r6 := r5.below f6
 go_upto_region 5 with fail
 generalize w5.alloc (.cells #[.int .u8 0] 5) = w6 at *
 go_upto_region 6 with (at_builtin; (refine wpList_append_W _ rfl (.tmp 48) (.tmp 49) _ rfl w5.heap.size 5 .u8 1 Tryz.underlying22 info_u8 (.slice (some ⟨w5.heap.size, 0, none⟩) 1 1) 1 [0] rfl oz A5 (keyB c.key.xs c.e).length c5 (keyB c.key.xs c.e) rfl rfl r6 hA hB f6.size ?_; intro A7 c7 w7 o7 g7 _; have f7 := grow_step f6 f6.size oz g7))
 obtain ⟨_, _, he7, -, n7, m7, r7⟩ := Own.of_row o7
 cases he7
 have r7 := r7.rd
 have ok7 := ok5.below f7
 have R7 := R5.below f7
 have e7 := e5.trans (f7.mono e5.size)
 clear k20 k21 k22 k23 oz f6 f7 r6 g7 o7 ok5 R5 e5 r5
 have k20 : w7.cell? ⟨w.heap.size, 20, none⟩ = some (.bool c.ca) := R7.cell (i := 20) rfl
 have k21 : w7.cell? ⟨w.heap.size, 21, none⟩ = some (.int .i64 c.path) := R7.cell (i := 21) rfl
 have k22 : w7.cell? ⟨w.heap.size, 22, none⟩ = some (.int .i64 c.usage) := R7.cell (i := 22) rfl
 have k23 : w7.cell? ⟨w.heap.size, 23, none⟩ = some (.bool c.code) := R7.cell (i := 23) rfl
 obtain ⟨ms, hms⟩ : ∃ l, l = yesB :: (if 0 ≤ c.path then [wr 2 (putInt [c.path.toNat % 256])] else []) := ⟨_, rfl⟩
 obtain ⟨xs1, hx1⟩ : ∃ l, l = if c.ca then [extB basicB (seqB ms)] else [] := ⟨_, rfl⟩
 obtain ⟨xs2, hx2⟩ : ∃ l, l = if 0 ≤ c.usage then [extB usageNB (usageB c.usage.toNat)] else [] := ⟨_, rfl⟩
 have hexts : extsB c.say = xs1 ++ xs2 := by
  rw [hx1, hx2, hms]
  unfold extsB
  rw [show c.say.code = true from hcode]
  simp only [if_true, List.append_nil]
  rfl
 obtain ⟨B7, hB7⟩ : ∃ b, b = w7.heap.size := ⟨_, rfl⟩
 have hB7w : B7 ≤ w7.heap.size := by rw [hB7]; exact Nat.le_refl _
 have eB7 : ∀ U, Below B7 w7 U → Below w7.heap.size w7 U := fun U h => by rwa [← hB7]
 replace hB7 := Lib.hid hB7
 replace hms := Lib.hid hms
 replace hx1 := Lib.hid hx1
 replace hx2 := Lib.hid hx2
 replace hexts := Lib.hid hexts
 have N7 := OwnS.nil w7 B7
 go_upto_if 52 with fail
 go_cut [7] from 51 (fun s7 wx => ∃ l : List Sl, OwnS wx B7 s7 l ∧ l.map Sl.xs = xs1 ∧ Below B7 w7 wx)
 case first =>
  cases hca : c.ca with
  | false =>
   rw [hca] at k20
   go_wp2_with fail
   go_meet
   case rel => exact ⟨[], N7, by rw [hx1.out, hca]; rfl, Below.refl _ _⟩
  | true =>
   rw [hca] at k20
   have f8 : Below w7.heap.size w7 ((w7.alloc (.cells #[.int .u8 1, .int .u8 1, .int .u8 255] 5 (3, 4))).alloc (.cells #[.slice (some ⟨w7.heap.size, 0, none⟩) 3 3] 22)) := ((Below.refl _ _).alloc (Nat.le_refl _) _).alloc (by simp) _
   have s8 : OwnS ((w7.alloc (.cells #[.int .u8 1, .int .u8 1, .int .u8 255] 5 (3, 4))).alloc (.cells #[.slice (some ⟨w7.heap.size, 0, none⟩) 3 3] 22)) B7 (.slice (some ⟨w7.heap.size + 1, 0, none⟩) 1 1) [⟨some ⟨w7.heap.size, 0, none⟩, 3, yesB⟩] := by
    have h := World.ownsRow_lit (base := B7) (size := 1) (e := 22) (w7.alloc (.cells #[.int .u8 1, .int .u8 1, .int .u8 255] 5 (3, 4))) #[.slice (some ⟨w7.heap.size, 0, none⟩) 3 3] 1 (by simp; omega) (by decide) rfl
    rw [World.size_alloc] at h
    refine ⟨h, fun s hs => ?_, fun b hb s hs => ?_⟩
    ·rw [List.mem_singleton.1 hs]
     exact (rd_mark9 w7 yesB _ rfl).alloc _
    ·rw [List.mem_singleton.1 hs]
     cases hb
     exact Off.of_ne (by show w7.heap.size ≠ w7.heap.size + 1; omega)
   go_upto_region 9 with fail
   generalize (w7.alloc (.cells #[.int .u8 1, .int .u8 1, .int .u8 255] 5 (3, 4))).alloc (.cells #[.slice (some ⟨w7.heap.size, 0, none⟩) 3 3] 22) = w8 at *
   have R8 := R7.below f8
   clear k20 k21 k22 k23 N7
   have k21 : w8.cell? ⟨w.heap.size, 21, none⟩ = some (.int .i64 c.path) := R8.cell (i := 21) rfl
   have e8 : Below B7 w7 w8 := by rw [hB7.out]; exact f8
   have hB8 : B7 ≤ w8.heap.size := Nat.le_trans hB7w f8.size
   go_upto_if 58 with fail
   go_cut [8] from 56 (fun s8 wx => ∃ l : List Sl, OwnS wx B7 s8 l ∧ l.map Sl.xs = ms ∧ l.length ≤ 2 ∧ Below B7 w8 wx)
   case first =>
    by_cases hp : 0 ≤ c.path
    case neg =>
     have b21 : decide ((0 : Int) ≤ c.path) = false := decide_eq_false (by omega)
     go_wp2_with fail
     go_meet
     case rel => exact ⟨_, s8, by rw [hms.out, if_neg (by omega)]; rfl, by simp, Below.refl _ _⟩
    case pos =>
     obtain ⟨p, hpp⟩ : ∃ p : Nat, c.path = (p : Int) := ⟨c.path.toNat, by omega⟩
     have hp255 : p ≤ 255 := by omega
     have zp : (p : Int) < 256 := by omega
     have zp0 : decide ((0 : Int) ≤ (p : Int)) = true := decide_eq_true (by omega)
     rw [hpp] at k21
     have hmp : ms = [yesB, wr 2 (putInt [p])] := by rw [hms.out, if_pos (by omega), hpp, Int.toNat_natCast, Nat.mod_eq_of_lt (by omega)]
     rw [hpp]
     replace hpp := Lib.hid hpp
     replace hmp := Lib.hid hmp
     have rp : Rd .u8 (w8.alloc (.cells #[.int .u8 (p : Int)] 5)) (some ⟨w8.heap.size, 0, none⟩) [p] := Rd.of_all (blk_lit w8 _ _ (by simp [ints]))
     have f9 : Below w8.heap.size w8 (w8.alloc (.cells #[.int .u8 (p : Int)] 5)) := (Below.refl _ _).alloc (Nat.le_refl _) _
     go_wp2_with fail
     generalize w8.alloc (.cells #[.int .u8 (p : Int)] 5) = w9 at *
     refine (refPutInt_any (some ⟨w8.heap.size, 0, none⟩) 1 1 [p] w9 rfl (by omega) (by omega) rp).mono ?_
     rintro r wa ⟨A3, c3, rfl, -, -, o3, fa⟩
     have hpl := putInt_len [p]
     go_wp2_with fail
     have hq := refWrite_any 2 A3 (putInt [p]).length c3 (putInt [p]) wa (by omega) rfl (by simp at hpl; omega) o3.rd
     rw [show ((2 : Nat) : Int) = (2 : Int) from rfl] at hq
     refine hq.mono ?_
     clear hq
     rintro r wb ⟨A4, c4, rfl, -, -, o4, fb⟩
     have f8b := f9.trans ((fa.trans (fb.mono fa.size)).mono f9.size)
     have fc : Below wb.heap.size wb (wb.alloc (.cells #[.slice A4 (wr 2 (putInt [p])).length c4] 22)) := (Below.refl _ _).alloc (Nat.le_refl _) _
     have s9 := (s8.below f8b).below fc
     have o4r := o4.rd.below fc
     have o4x := Off.new (g := wb.heap.size) o4.rd (Nat.le_refl _)
     have hgw : w8.heap.size ≤ wa.heap.size := Nat.le_trans f9.size fa.size
     have hof : ∀ b, (Value.slice (some ⟨w7.heap.size + 1, 0, none⟩) 1 1).ownBlock = some b → Off A4 (wr 2 (putInt [p])) b := fun b hb => by
      rcases o4 with h | ⟨g, off, ds, rfl, hg, _⟩
      ·exact .inl h
      ·have := (s8.own.lt b hb).2
       exact Off.of_ne (by omega)
     have hBb : B7 ≤ (wb.alloc (.cells #[.slice A4 (wr 2 (putInt [p])).length c4] 22)).heap.size := Nat.le_trans (Nat.le_trans hB8 f8b.size) fc.size
     go_wp2_with (at_builtin; refine wpList_append_S rfl (.tmp 59) (.tmp 66) rfl B7 _ _ rfl s9 wb.heap.size ⟨A4, c4, wr 2 (putInt [p])⟩ rfl (by simp [Sl.val]) o4r hof (by simp) hBb ?_; intro v10 w10 s10 h10)
     have e10 := h10 w8 (by rw [show B7 = w7.heap.size from hB7.out]; exact (f8b.trans (fc.mono f8b.size)).mono f8.size)
     go_meet
     case rel => exact ⟨_, s10, by rw [hmp.out]; rfl, by simp, e10⟩
   case rest =>
    obtain ⟨lm, om, hlm, hlm2, e9⟩ := hcut
    obtain ⟨Am, cm, rfl, _, _, slm⟩ := om.sls
    have hms1 : (joinS lm).length ≤ 12 := by
     rw [joinS_map, hlm, hms.out]
     have h1 := putInt_len [c.path.toNat % 256]
     have h2 : (wr 2 (putInt [c.path.toNat % 256])).length ≤ 8 := Nat.le_trans (wr_len (by simp at h1; omega)) (by simp at h1; omega)
     split <;> simp [yesB] <;> omega
    have hsl : (seqB ms).length ≤ 18 := by
     rw [joinS_map, hlm] at hms1
     exact seqB_len (n := 12) hms1 (by omega)
    go_wp2_with fail
    refine (refSeq_any Am lm.length cm lm wc rfl (by omega) (by omega) slm).mono ?_
    rintro r wd ⟨A9, c9, rfl, -, -, o9, f9⟩
    rw [hlm]
    rw [hlm] at o9
    go_wp2_with fail
    have hq := refExt_any basicB (seqB ms) A9 (seqB ms).length c9 wd (lim_small (by decide)) (by decide) rfl (by omega) o9.rd
    rw [bstr_basic] at hq
    refine hq.mono ?_
    clear hq
    rintro r we ⟨A10, c10, rfl, -, -, o10, f10⟩
    have e8c := e8.trans e9
    have hBc : B7 ≤ wc.heap.size := Nat.le_trans hB8 e9.size
    have f9x := f9.trans (f10.mono f9.size)
    have fc : Below we.heap.size we (we.alloc (.cells #[.slice A10 (extB basicB (seqB ms)).length c10] 22)) := (Below.refl _ _).alloc (Nat.le_refl _) _
    have hBe : B7 ≤ (we.alloc (.cells #[.slice A10 (extB basicB (seqB ms)).length c10] 22)).heap.size := Nat.le_trans (Nat.le_trans hBc f9x.size) fc.size
    go_wp2_with (at_builtin; refine wpList_append_S rfl (.tmp 68) (.tmp 72) rfl B7 (.slice none 0 0) [] rfl (OwnS.nil _ B7) we.heap.size ⟨A10, c10, extB basicB (seqB ms)⟩ rfl (by simp [Sl.val]) (o10.rd.below fc) (fun b hb => by cases hb) (by simp) hBe ?_; intro v11 w11 s11 h11)
    have e11 := h11 w7 (e8c.trans ((f9x.trans (fc.mono f9x.size)).mono hBc))
    go_meet
    case rel => exact ⟨_, s11, by rw [hx1.out, hca]; rfl, e11⟩
 case rest =>
  obtain ⟨l1, o1, hl1, eA⟩ := hcut
  clear k20 k21 k22 k23 N7
  have RA := R7.below (eB7 _ eA)
  have k22 : wc.cell? ⟨w.heap.size, 22, none⟩ = some (.int .i64 c.usage) := RA.cell (i := 22) rfl
  have hl1l : l1.length ≤ 1 := by rw [← List.length_map (f := Sl.xs), hl1, hx1.out]; split <;> simp
  have hBA : B7 ≤ wc.heap.size := Nat.le_trans hB7w eA.size
  obtain ⟨wA, rfl⟩ : ∃ u, u = wc := ⟨_, rfl⟩
  go_upto_if 76 with fail
  go_cut [7] from 74 (fun s7 wx => ∃ l : List Sl, OwnS wx B7 s7 l ∧ l.map Sl.xs = xs1 ++ xs2 ∧ Below B7 w7 wx)
  case first =>
   by_cases hu : 0 ≤ c.usage
   case neg =>
    have b22 : decide ((0 : Int) ≤ c.usage) = false := decide_eq_false (by omega)
    go_wp2_with fail
    go_meet
    case rel => exact ⟨l1, o1, by rw [hl1, hx2.out, if_neg (by omega), List.append_nil], eA⟩
   case pos =>
    obtain ⟨u, huu⟩ : ∃ u : Nat, c.usage = (u : Int) := ⟨c.usage.toNat, by omega⟩
    have hu511 : u < 512 := by omega
    have zu0 : decide ((0 : Int) ≤ (u : Int)) = true := decide_eq_true (by omega)
    rw [huu] at k22
    have hxu : xs2 = [extB usageNB (usageB u)] := by rw [hx2.out, if_pos (by omega), huu, Int.toNat_natCast]
    rw [huu]
    replace huu := Lib.hid huu
    replace hxu := Lib.hid hxu
    have hul : (usageB u).length ≤ 9 := by
     have h1 := useN_range u 9 (by decide)
     have h2 := useB_len u (useN u 9) (useN u 9)
     exact Nat.le_trans (wr_len (by omega)) (by omega)
    go_wp2_with fail
    refine (usageBits_any u hu511 wA).mono ?_
    rintro r wd ⟨A9, c9, rfl, -, -, o9, f9⟩
    go_wp2_with fail
    have hq := refExt_any usageNB (usageB u) A9 (usageB u).length c9 wd (lim_small (by decide)) (by decide) rfl (by omega) o9.rd
    rw [bstr_useN] at hq
    refine hq.mono ?_
    clear hq
    rintro r we ⟨A10, c10, rfl, -, -, o10, f10⟩
    have f9x := f9.trans (f10.mono f9.size)
    have fc : Below we.heap.size we (we.alloc (.cells #[.slice A10 (extB usageNB (usageB u)).length c10] 22)) := (Below.refl _ _).alloc (Nat.le_refl _) _
    have s9 := (o1.below f9x).below fc
    have hof : ∀ v, OwnS wA B7 v l1 → ∀ b, v.ownBlock = some b → Off A10 (extB usageNB (usageB u)) b := fun v o1 b hb => by
     rcases o10 with h | ⟨g, off, ds, rfl, hg, _⟩
     ·exact .inl h
     ·have := (o1.own.lt b hb).2
      have := f9.size
      exact Off.of_ne (by omega)
    have hBe : B7 ≤ (we.alloc (.cells #[.slice A10 (extB usageNB (usageB u)).length c10] 22)).heap.size := Nat.le_trans (Nat.le_trans hBA f9x.size) fc.size
    go_wp2_with (at_builtin; refine wpList_append_S rfl (.tmp 77) (.tmp 82) rfl B7 _ l1 rfl s9 we.heap.size ⟨A10, c10, extB usageNB (usageB u)⟩ rfl (by simp [Sl.val]) (o10.rd.below fc) (hof _ o1) (by omega) hBe ?_; intro v11 w11 s11 h11)
    have e11 := h11 w7 (eA.trans ((f9x.trans (fc.mono f9x.size)).mono hBA))
    go_meet
    case rel => exact ⟨_, s11, by rw [List.map_append, hl1, hxu.out]; rfl, e11⟩
  case rest =>
   obtain ⟨l2, o2, hl2, eC⟩ := hcut
   have RC := R7.below (eB7 _ eC)
   have k23 : wc.cell? ⟨w.heap.size, 23, none⟩ = some (.bool true) := by have q := RC.cell (i := 23) (v := .bool c.code) rfl; rwa [hcode] at q
   have hl2l : l2.length ≤ 2 := by rw [← List.length_map (f := Sl.xs), hl2, List.length_append, hx1.out, hx2.out]; split <;> split <;> simp
   obtain ⟨A2, c2, rfl, n2, m2, sl2⟩ := o2.sls
   obtain ⟨E, hE⟩ : ∃ e, e = (if extsB c.say = [] then [] else wr 163 (seqB (extsB c.say))) := ⟨_, rfl⟩
   have hT : Hid (tbsB c.say = seqB [verB12, wr 2 c.serial.xs, signAlgB, c.issuer.xs, seqB [genB c.frm, genB c.til], c.subject.xs, seqB [keyAlgB, wr 3 ([0] ++ keyB c.key.xs c.e)], E]) := by
    show _ = _
    unfold tbsB
    rw [hE]
    rfl
   have hfl : (joinS l2).length ≤ 80 := by
    rw [joinS_map, hl2, ← hexts.out]
    exact exts_len c.say hcode
   replace hl2 := Lib.hid hl2
   replace hE := Lib.hid hE
   obtain ⟨wC, rfl⟩ : ∃ u, u = wc := ⟨_, rfl⟩
   have hBC : B7 ≤ wC.heap.size := Nat.le_trans hB7w eC.size
   go_upto_if 98 with fail
   go_cut [3] from 87 (fun s3 wx => ∃ s : Sl, s3 = s.val ∧ s.xs = E ∧ s.xs.length ≤ 1000 ∧ s.xs.length ≤ s.c ∧ s.c ≤ maxLen ∧ Rd .u8 wx s.A s.xs ∧ Below B7 w7 wx)
   case first =>
    by_cases h0 : l2 = []
    case pos =>
     have hx0 : extsB c.say = [] := by rw [hexts.out, ← hl2.out, h0]; rfl
     have z0 : ¬ (0 : Int) < (l2.length : Int) := by rw [h0]; decide
     replace h0 := Lib.hid h0
     replace hx0 := Lib.hid hx0
     go_wp2_with fail
     go_meet
     case rel => exact ⟨Sl.nil, rfl, by rw [hE.out, if_pos hx0.out]; rfl, by decide, by decide, by decide, Rd.nil _ _ _, eC⟩
    case neg =>
     have hx0 : ¬ extsB c.say = [] := by rw [hexts.out, ← hl2.out]; simpa using h0
     have z0 : (0 : Int) < (l2.length : Int) := by have := List.length_pos_iff.2 h0; omega
     have z1 : (l2.length : Int) ≤ 2 := by omega
     obtain ⟨sq, hsq⟩ : ∃ s, s = seqB (l2.map Sl.xs) := ⟨_, rfl⟩
     have hEE : wr 163 sq = E := by rw [hE.out, if_neg hx0, hexts.out, hsq, hl2.out]
     have hsl : sq.length ≤ 86 := by rw [joinS_map] at hfl; rw [hsq]; exact seqB_len (n := 80) hfl (by omega)
     have hwl : (wr 163 sq).length ≤ 92 := Nat.le_trans (wr_len (by omega)) (by omega)
     have hqs := refSeq_any A2 l2.length c2 l2 wC rfl (by omega) (by omega) sl2
     rw [← hsq] at hqs
     replace hEE := Lib.hid hEE
     replace hsq := Lib.hid hsq
     replace hx0 := Lib.hid hx0
     replace h0 := Lib.hid h0
     go_wp2_with fail
     refine hqs.mono ?_
     clear hqs
     rintro r wd ⟨A9, c9, rfl, -, -, o9, f9⟩
     go_wp2_with fail
     have hq := refWrite_any 163 A9 sq.length c9 sq wd (by omega) rfl (by omega) o9.rd
     rw [show ((163 : Nat) : Int) = (163 : Int) from rfl] at hq
     refine hq.mono ?_
     clear hq
     rintro r we ⟨A10, c10, rfl, n10, m10, o10, f10⟩
     go_wp2_with fail
     go_meet
     case rel => exact ⟨⟨A10, c10, wr 163 sq⟩, rfl, hEE.out, by show (wr 163 sq).length ≤ 1000; omega, n10, m10, o10.rd, eC.trans ((f9.trans (f10.mono f9.size)).mono hBC)⟩
   case rest =>
    obtain ⟨sE, hsE, hxE, lE, cE, mE, rE, eZ7⟩ := hcut
    replace hsE := hsE.symm
    have hTE : Hid (tbsB c.say = seqB [verB12, wr 2 c.serial.xs, signAlgB, c.issuer.xs, seqB [genB c.frm, genB c.til], c.subject.xs, seqB [keyAlgB, wr 3 ([0] ++ keyB c.key.xs c.e)], sE.xs]) := by
     show _ = _
     rw [hT.out, hxE]
    have okZ := ok7.below (eB7 _ eZ7)
    have RZ := R7.below (eB7 _ eZ7)
    have rZ := r7.below (eB7 _ eZ7)
    have eZ := e7.trans ((eB7 _ eZ7).mono e7.size)
    clear ok7 R7 r7 e7 k23 hT o2 sl2 o1 RA RC k22
    obtain ⟨wZ, rfl⟩ : ∃ u, u = wc := ⟨_, rfl⟩
    go_upto_region 18 with fail
    have hsB : (⟨A7, c7, [0] ++ keyB c.key.xs c.e⟩ : Sl).val = .slice A7 (1 + (keyB c.key.xs c.e).length) c7 := by simp [Sl.val, Nat.add_comm]
    have lg1 := genB_len okZ.frm
    have lg2 := genB_len okZ.til
    have hd0 : Below wZ.heap.size wZ wZ.drew := below_drewN (Below.refl _ _) 1
    have hse4 := okZ.serial
    obtain ⟨kb, hkb⟩ : ∃ kb, kb = [0] ++ keyB c.key.xs c.e := ⟨_, rfl⟩
    have hkl7 : 1 + (keyB c.key.xs c.e).length = kb.length := by rw [hkb]; simp; omega
    have hkl8 : kb.length ≤ 1030 := by omega
    rw [hkl7] at n7 hsB
    rw [← hkb] at hTE rZ hsB
    rw [hkl7]
    have HKB := Lib.hid hkb
    clear hkb hkl7
    have hsB0 : (Value.slice A7 kb.length c7) = .slice A7 kb.length c7 := rfl
    refine wp_region_steps (by kernel_rfl) (fun i => if i = 28 then 2 else 102 + i) (fun i v W => Sp (tbsT c w.heap.size wZ.heap.size ⟨A7, c7, kb⟩ sE i) v W) (fun W => Below wZ.heap.size wZ W) (by kernel_rfl) (by kernel_rfl) ?inj ?lt (fun i v W W' h hs => h.mono hs) hd0 ?steps ?fin
    case inj =>
     intro i j hi hj h
     have h29 : i < 29 ∧ j < 29 := ⟨hi, hj⟩
     have h : (if i = 28 then 2 else 102 + i) = (if j = 28 then 2 else 102 + j) := h
     split at h <;> split at h <;> omega
    case lt =>
     intro i hi
     have h29 : i < 29 := hi
     show (if i = 28 then 2 else 102 + i) < 130
     split <;> omega
    case steps =>
     have lwk : (wr 3 kb).length ≤ 1040 := Nat.le_trans (wr_len (by omega)) (by omega)
     have l4 : (wr 2 c.serial.xs).length ≤ 1006 := Nat.le_trans (wr_len (by omega)) (by omega)
     have l16 : (seqB [genB c.frm, genB c.til]).length ≤ 66 := Nat.le_trans (seqB_len (n := 60) (by simp; omega) (by omega)) (by omega)
     have l24 : (seqB [keyAlgB, wr 3 kb]).length ≤ 1070 := Nat.le_trans (seqB_len (n := 1055) (by simp [keyAlgB]; omega) (by omega)) (by omega)
     refine ⟨?s0, ?s1, ?s2, ?s3, ?s4, ?s5, ?s6, ?s7, ?s8, ?s9, ?s10, ?s11, ?s12, ?s13, ?s14, ?s15, ?s16, ?s17, ?s18, ?s19, ?s20, ?s21, ?s22, ?s23, ?s24, ?s25, ?s26, ?s27, ?s28, trivial⟩
     case s0 => exact st_lit rfl rfl rfl Tryz.underlying22 siz_u8 zer_u8 rfl (by decide) (by decide) (fun a W _ _ _ => by simp only [List.map_toArray, List.map_cons, List.map_nil]; rfl)
     case s1 => exact st_mark rfl rfl rfl (src_dep (j := 0) (e := ⟨0, .data⟩) (by simp) rfl rfl rfl) Tryz.underlying22 Tryz.underlying5
     case s2 => exact st_field rfl rfl rfl (src_base (fun i _ => by show (if i = 28 then 2 else 102 + i) ≠ 1; split <;> omega) rfl) (fun W => fa_cert4 _ 0 W)
     case s3 => exact st_loads rfl rfl rfl (src_dep (j := 2) (e := ⟨2, .data⟩) (by simp) rfl rfl rfl) (ld_u8s _ _) okZ.serial.cap okZ.serial.max (fun W h => ⟨(RZ.below h).cell (i := 4) rfl, (okZ.serial.below h).rd⟩)
     case s4 => exact st_call_sl (pre := [.const (.int .u8 2)]) (pv := [.int .u8 2]) rfl rfl (fun a W => run_call rfl cf_write a W) (fun _ => rfl) (src_dep (j := 3) (e := ⟨3, .data⟩) (by simp) rfl rfl rfl) (fun A cc W _ _ hr => refWrite_any 2 A (c.serial.xs).length cc (c.serial.xs) W (by omega) rfl (by omega) hr)
     case s5 => exact st_lit rfl rfl rfl Tryz.underlying22 siz_u8 zer_u8 rfl (by decide) (by decide) (fun a W _ _ _ => by simp only [List.map_toArray, List.map_cons, List.map_nil]; rfl)
     case s6 => exact st_mark rfl rfl rfl (src_dep (j := 5) (e := ⟨5, .data⟩) (by simp) rfl rfl rfl) Tryz.underlying22 Tryz.underlying5
     case s7 => exact st_field rfl rfl rfl (src_base (fun i _ => by show (if i = 28 then 2 else 102 + i) ≠ 1; split <;> omega) rfl) (fun W => fa_cert2 _ 0 W)
     case s8 => exact st_loads rfl rfl rfl (src_dep (j := 7) (e := ⟨7, .data⟩) (by simp) rfl rfl rfl) (ld_u8s _ _) okZ.issuer.cap okZ.issuer.max (fun W h => ⟨(RZ.below h).cell (i := 2) rfl, (okZ.issuer.below h).rd⟩)
     case s9 => exact st_field rfl rfl rfl (src_base (fun i _ => by show (if i = 28 then 2 else 102 + i) ≠ 1; split <;> omega) rfl) (fun W => fa_cert5 _ 0 W)
     case s10 => exact st_loadR (d := _) rfl rfl rfl (src_dep (j := 9) (e := ⟨9, .data⟩) (by simp) rfl rfl rfl) Tryz.underlying25 rfl sz_time (fun W h => fun k v hv => by
       have hk := (RZ.below h).cell (i := 5 + k) (v := v) (frm_cells hv)
       rwa [Nat.zero_add] at hk)
     case s11 => exact st_call rfl (fun a W => run_call rfl cf_general a W) (fun a W hb hd hg => by
       have h1 : a.eval (.tmp 112) = .agg c.frm.cells.toArray := (hd ⟨10, .data⟩ (by simp) rfl).now
       simp only [List.map_toArray, List.map_cons, List.map_nil, h1]
       exact (refGeneral_any c.frm W okZ.frm).mono fun _ _ h => h.sp hg.size)
     case s12 => exact st_field rfl rfl rfl (src_base (fun i _ => by show (if i = 28 then 2 else 102 + i) ≠ 1; split <;> omega) rfl) (fun W => fa_cert6 _ 0 W)
     case s13 => exact st_loadR (d := _) rfl rfl rfl (src_dep (j := 12) (e := ⟨12, .data⟩) (by simp) rfl rfl rfl) Tryz.underlying25 rfl sz_time (fun W h => fun k v hv => by
       have hk := (RZ.below h).cell (i := 11 + k) (v := v) (til_cells hv)
       rwa [Nat.zero_add] at hk)
     case s14 => exact st_call rfl (fun a W => run_call rfl cf_general a W) (fun a W hb hd hg => by
       have h1 : a.eval (.tmp 115) = .agg c.til.cells.toArray := (hd ⟨13, .data⟩ (by simp) rfl).now
       simp only [List.map_toArray, List.map_cons, List.map_nil, h1]
       exact (refGeneral_any c.til W okZ.til).mono fun _ _ h => h.sp hg.size)
     case s15 => exact st_sls [.tmp 113, .tmp 116] rfl rfl rfl rfl (by decide) (by decide) rfl Tryz.underlying32 siz_u8s zer_u8s ⟨(src_dep (j := 11) (e := ⟨11, .data⟩) (by simp) rfl rfl rfl).new, (src_dep (j := 14) (e := ⟨14, .data⟩) (by simp) rfl rfl rfl).new, trivial⟩
     case s16 => exact st_call_sls rfl rfl (fun a W => run_call rfl cf_seq a W) (src_dep (j := 15) (e := ⟨15, .data⟩) (by simp) rfl rfl rfl) (fun A l W h1 h2 => by
       have hq := refSeq_any A 2 2 l W (by rw [← List.length_map (f := Sl.xs), h2]; rfl) (by omega) (by rw [flat_val, h2]; simp; omega) h1
       rw [h2] at hq
       exact hq)
     case s17 => exact st_field rfl rfl rfl (src_base (fun i _ => by show (if i = 28 then 2 else 102 + i) ≠ 1; split <;> omega) rfl) (fun W => fa_cert3 _ 0 W)
     case s18 => exact st_loads rfl rfl rfl (src_dep (j := 17) (e := ⟨17, .data⟩) (by simp) rfl rfl rfl) (ld_u8s _ _) okZ.subject.cap okZ.subject.max (fun W h => ⟨(RZ.below h).cell (i := 3) rfl, (okZ.subject.below h).rd⟩)
     case s19 => exact st_lit rfl rfl rfl Tryz.underlying22 siz_u8 zer_u8 rfl (by decide) (by decide) (fun a W _ _ _ => by simp only [List.map_toArray, List.map_cons, List.map_nil]; rfl)
     case s20 => exact st_mark rfl rfl rfl (src_dep (j := 19) (e := ⟨19, .data⟩) (by simp) rfl rfl rfl) Tryz.underlying22 Tryz.underlying5
     case s21 => exact st_move rfl (.inl rfl) (src_base_sl (fun i _ => by show (if i = 28 then 2 else 102 + i) ≠ 6; split <;> omega) rfl n7 m7 (fun W h => rZ.below h))
     case s22 => exact st_call_sl (pre := [.const (.int .u8 3)]) (pv := [.int .u8 3]) rfl rfl (fun a W => run_call rfl cf_write a W) (fun _ => rfl) (src_dep (j := 21) (e := ⟨21, .data⟩) (by simp) rfl rfl rfl) (fun A cc W _ _ hr => refWrite_any 3 A kb.length cc kb W (by omega) rfl (by omega) hr)
     case s23 => exact st_sls [.tmp 122, .tmp 124] rfl rfl rfl rfl (by decide) (by decide) rfl Tryz.underlying32 siz_u8s zer_u8s ⟨(src_dep (j := 20) (e := ⟨20, .data⟩) (by simp) rfl rfl rfl).lit, (src_dep (j := 22) (e := ⟨22, .data⟩) (by simp) rfl rfl rfl).new, trivial⟩
     case s24 => exact st_call_sls rfl rfl (fun a W => run_call rfl cf_seq a W) (src_dep (j := 23) (e := ⟨23, .data⟩) (by simp) rfl rfl rfl) (fun A l W h1 h2 => by
       have hq := refSeq_any A 2 2 l W (by rw [← List.length_map (f := Sl.xs), h2]; rfl) (by omega) (by rw [flat_val, h2]; simp [keyAlgB]; omega) h1
       rw [h2] at hq
       exact hq)
     case s25 => exact st_move rfl (.inl rfl) (src_base_sl (fun i _ => by show (if i = 28 then 2 else 102 + i) ≠ 3; split <;> omega) hsE.symm cE mE (fun W h => rE.below h))
     case s26 => exact st_sls [.tmp 103, .tmp 106, .tmp 108, .tmp 110, .tmp 118, .tmp 120, .tmp 126, .tmp 127] rfl rfl rfl rfl (by decide) (by decide) rfl Tryz.underlying32 siz_u8s zer_u8s ⟨(src_dep (j := 1) (e := ⟨1, .data⟩) (by simp) rfl rfl rfl).lit, (src_dep (j := 4) (e := ⟨4, .data⟩) (by simp) rfl rfl rfl).new, (src_dep (j := 6) (e := ⟨6, .data⟩) (by simp) rfl rfl rfl).lit, (src_dep (j := 8) (e := ⟨8, .data⟩) (by simp) rfl rfl rfl), (src_dep (j := 16) (e := ⟨16, .data⟩) (by simp) rfl rfl rfl).new, (src_dep (j := 18) (e := ⟨18, .data⟩) (by simp) rfl rfl rfl), (src_dep (j := 24) (e := ⟨24, .data⟩) (by simp) rfl rfl rfl).new, (src_dep (j := 25) (e := ⟨25, .data⟩) (by simp) rfl rfl rfl), trivial⟩
     case s27 => exact st_call_sls rfl rfl (fun a W => run_call rfl cf_seq a W) (src_dep (j := 26) (e := ⟨26, .data⟩) (by simp) rfl rfl rfl) (fun A l W h1 h2 => by
       have hq := refSeq_any A 8 8 l W (by rw [← List.length_map (f := Sl.xs), h2]; rfl) (by omega) (by rw [flat_val, h2]; simp [verB12, signAlgB]; omega) h1
       rw [h2] at hq
       exact hq)
     case s28 => exact st_move rfl (.inr rfl) (src_dep (j := 27) (e := ⟨27, .data⟩) (by simp) rfl rfl rfl)
    case fin =>
     intro a W h1 h2 h3 h4 h5
     have hz : a.tmps.size = 130 := h2
     have hdf : a.defers = [] := h1
     obtain ⟨A9, c9, v9, n9, m9, r9, x9⟩ := (h4 28 (by show 28 < 29; omega)).now
     have v2 : a.tmps.getD 2 undef = .slice A9 (seqB [verB12, wr 2 c.serial.xs, signAlgB, c.issuer.xs, seqB [genB c.frm, genB c.til], c.subject.xs, seqB [keyAlgB, wr 3 kb], sE.xs]).length c9 := v9
     clear h3 h4
     go_wp2
     refine bodyPost_ret (results_tmp rfl _ _ _) hdf ?_
     rw [v2, hTE.out]
     exact ⟨A9, c9, rfl, n9, m9, r9, eZ.trans (h5.mono eZ.size), fun g hg => x9 g (Nat.lt_of_lt_of_le hg eZ.size)⟩
structure RungW (r : Rung) : Prop where
 name : r.name.length ≤ 100 ∧ Lim 256 r.name
 serial : r.serial < 256
 code : r.code = true
 path : r.path ≤ 255
 usage : r.usage ≤ 511
structure SayW (c : Say) : Prop where
 code : c.code = true
 path : c.path ≤ 255
 usage : c.usage ≤ 511
 serial : c.serial.length ≤ 1000 ∧ Lim 256 c.serial
 issuer : c.issuer.length ≤ 2000 ∧ Lim 256 c.issuer
 subject : c.subject.length ≤ 2000 ∧ Lim 256 c.subject
 key : c.key.length ≤ 1000 ∧ Lim 256 c.key
 frm : c.frm.ok
 til : c.til.ok
theorem extB_lim {n b : List Nat} (hn : n.length ≤ 1000) (hb : b.length ≤ 1000) (ln : Lim 256 n) (lb : Lim 256 b) : Lim 256 (extB n b) := by
 have h1 : (wr 6 n).length ≤ 1006 := Nat.le_trans (wr_len (by omega)) (by omega)
 have h2 : (wr 4 b).length ≤ 1006 := Nat.le_trans (wr_len (by omega)) (by omega)
 refine seqB_lim (fun x hx => ?_) (by simp; omega)
 simp only [List.mem_cons, List.not_mem_nil, or_false] at hx
 rcases hx with rfl | rfl
 ·exact wr_lim (by decide) ln (by omega)
 ·exact wr_lim (by decide) lb (by omega)
theorem exts_lim (c : Say) (hcode : c.code = true) (hu : c.usage ≤ 511) : ∀ x ∈ extsB c, Lim 256 x := by
 have h1 : ∀ p : Nat, p < 256 → Lim 256 (seqB (yesB :: (if 0 ≤ c.path then [wr 2 (putInt [p])] else []))) ∧ (seqB (yesB :: (if 0 ≤ c.path then [wr 2 (putInt [p])] else []))).length ≤ 18 := fun p hp => by
  have h1 := putInt_len [p]
  have h2 : (wr 2 (putInt [p])).length ≤ 8 := Nat.le_trans (wr_len (by simp at h1; omega)) (by simp at h1; omega)
  have h3 : (yesB :: (if 0 ≤ c.path then [wr 2 (putInt [p])] else [])).flatten.length ≤ 12 := by split <;> simp [yesB] <;> omega
  refine ⟨seqB_lim (fun x hx => ?_) (by omega), seqB_len h3 (by omega)⟩
  rcases List.mem_cons.1 hx with rfl | hx
  ·exact lim_c (by decide)
  ·split at hx
   ·rw [List.mem_singleton.1 hx]
    exact wr_lim (by decide) (putInt_lim fun y hy => by rw [List.mem_singleton.1 hy]; exact hp) (by simp at h1; omega)
   ·simp at hx
 intro x hx
 unfold extsB at hx
 rw [hcode] at hx
 simp only [if_true, List.append_nil] at hx
 rcases List.mem_append.1 hx with hx | hx
 ·split at hx
  ·rw [List.mem_singleton.1 hx]
   have q := h1 (c.path.toNat % 256) (Nat.mod_lt _ (by decide))
   exact extB_lim (by decide) (by omega) (lim_c (by decide)) q.1
  ·simp at hx
 ·split at hx
  ·rw [List.mem_singleton.1 hx]
   have q := useN_range c.usage.toNat 9 (by decide)
   have q2 := useB_len c.usage.toNat (useN c.usage.toNat 9) (useN c.usage.toNat 9)
   have q3 := usageB_len c.usage.toNat
   refine extB_lim (by decide) (by omega) (lim_c (by decide)) (wr_lim (by decide) (useB_lim _ (Nat.le_refl _) q.2) (by omega))
  ·simp at hx
theorem tbsB_told {c : Say} (h : SayW c) : (tbsB c).length ≤ 8000 ∧ Lim 256 (tbsB c) := by
 obtain ⟨s1, s2⟩ := h.serial
 obtain ⟨i1, i2⟩ := h.issuer
 obtain ⟨u1, u2⟩ := h.subject
 obtain ⟨k1, k2⟩ := h.key
 have a1 : (wr 2 c.serial).length ≤ 1006 := Nat.le_trans (wr_len (by omega)) (by omega)
 have a2 := genB_len h.frm
 have a3 := genB_len h.til
 have a4 : (seqB [genB c.frm, genB c.til]).length ≤ 66 := Nat.le_trans (seqB_len (n := 60) (by simp; omega) (by omega)) (by omega)
 have a5 := keyB_len (e := c.e) k1
 have a6 : (wr 3 (0 :: keyB c.key c.e)).length ≤ 1037 := Nat.le_trans (wr_len (by simp; omega)) (by simp; omega)
 have a7 : (seqB [keyAlgB, wr 3 (0 :: keyB c.key c.e)]).length ≤ 1060 := Nat.le_trans (seqB_len (n := 1054) (by simp [keyAlgB]; omega) (by omega)) (by omega)
 obtain ⟨E, hEE, e1, e2⟩ : ∃ E, (if extsB c = [] then [] else wr 163 (seqB (extsB c))) = E ∧ E.length ≤ 100 ∧ Lim 256 E := by
  refine ⟨_, rfl, ?_⟩
  have h1 := exts_len c h.code
  have h2 := exts_lim c h.code h.usage
  have h3 : (seqB (extsB c)).length ≤ 86 := seqB_len (n := 80) h1 (by omega)
  split
  ·exact ⟨by simp, by intro x hx; simp at hx⟩
  ·exact ⟨Nat.le_trans (wr_len (by omega)) (by omega), wr_lim (by decide) (seqB_lim h2 (by omega)) (by omega)⟩
 have ht : tbsB c = seqB [verB12, wr 2 c.serial, signAlgB, c.issuer, seqB [genB c.frm, genB c.til], c.subject, seqB [keyAlgB, wr 3 (0 :: keyB c.key c.e)], E] := by
  unfold tbsB
  rw [hEE]
 rw [ht]
 have hfl : [verB12, wr 2 c.serial, signAlgB, c.issuer, seqB [genB c.frm, genB c.til], c.subject, seqB [keyAlgB, wr 3 (0 :: keyB c.key c.e)], E].flatten.length ≤ 7900 := by
  simp [verB12, signAlgB]
  omega
 refine ⟨Nat.le_trans (seqB_len hfl (by omega)) (by omega), seqB_lim (fun x hx => ?_) (by omega)⟩
 simp only [List.mem_cons, List.not_mem_nil, or_false] at hx
 rcases hx with rfl | rfl | rfl | rfl | rfl | rfl | rfl | rfl
 ·exact lim_c (by decide)
 ·exact wr_lim (by decide) s2 (by omega)
 ·exact lim_c (by decide)
 ·exact i2
 ·exact seqB_lim (fun x hx => by
   simp at hx
   rcases hx with rfl | rfl <;> exact genB_lim _) (by simp; omega)
 ·exact u2
 ·exact seqB_lim (fun x hx => by
   simp at hx
   rcases hx with rfl | rfl
   ·exact lim_c (by decide)
   ·refine wr_lim (by decide) (fun x hx => ?_) (by simp; omega)
    rcases List.mem_cons.1 hx with rfl | hx
    ·decide
    ·exact keyB_lim k2 k1 x hx) (by simp [keyAlgB]; omega)
 ·exact e2
set_option maxRecDepth 100000 in
set_option maxHeartbeats 12800000 in
theorem ladder_told (gl ol n lc : Nat) (A : Option Addr) (rungs : List Rung) (kA : Option Addr) (kc ke : Nat) (ks : List Nat) (w : World) (hn : n = rungs.length) (hn20 : n ≤ 20) (hA : n = 0 ∨ A = some ⟨gl, ol, none⟩) (hR : Row w gl ol (rungCells rungs)) (hO : ∀ r ∈ rungs, RungW r)
  (hk : Sl.ok w ⟨kA, kc, ks⟩) (hkl : ks.length ≤ 600) (he : ke < 18446744073709551616) :
  Calls Tryz.prog 68 #[.slice A n lc, .agg [.slice kA ks.length kc, .int .u64 (ke : Int)].toArray] w (LadPost rungs kA ks ke w) := by
 subst hn
 have KB : Cut (w.alloc (.cells #[.slice kA ks.length kc, .int .u64 (ke : Int)] 28)) w.heap.size 0 [.slice kA ks.length kc, .int .u64 (ke : Int)] := Cut.of_heap (heap_alloc_new _ _) fun i v hv => by simpa using hv
 have e1 : Below w.heap.size w (w.alloc (.cells #[.slice kA ks.length kc, .int .u64 (ke : Int)] 28)) := (Below.refl _ _).alloc (Nat.le_refl _) _
 have z1 : (w.alloc (.cells #[.slice kA ks.length kc, .int .u64 (ke : Int)] 28)).heap.size = w.heap.size + 1 := by simp
 have hk1 := hk.below e1
 have hkO : Off kA ks w.heap.size := Off.new hk.rd (Nat.le_refl _)
 go_enter Tryz.func68, Tryz.ntmps68
 go_wp2_with fail
 generalize w.alloc (.cells #[.slice kA ks.length kc, .int .u64 (ke : Int)] 28) = w1 at *
 go_loopw [5, 6] (fun s t wr => ∃ (i : Nat) (cs : List Crt) (kA' : Option Addr) (kc' ke' : Nat) (ks' : List Nat), t = .int .i64 (i : Int) ∧ i ≤ rungs.length ∧ wr.ownsRow w1.heap.size 30 24 s i (crtCells cs) ∧ cs.length = i ∧ Hid (cs.map Crt.say ++ ladderB (rungs.drop i) ks' ke' = ladderB rungs ks ke) ∧ (∀ c ∈ cs, c.ok wr) ∧
  (∀ c ∈ cs, ∀ g, (g ≤ w.heap.size ∧ Off kA ks g) ∨ s.ownBlock = some g → CrtOff c g) ∧ Cut wr w.heap.size 0 [.slice kA' ks'.length kc', .int .u64 (ke' : Int)] ∧ Sl.ok wr ⟨kA', kc', ks'⟩ ∧ (∀ g, (g ≤ w.heap.size ∧ Off kA ks g) ∨ s.ownBlock = some g → Off kA' ks' g) ∧ ks'.length ≤ 600 ∧ ke' < 18446744073709551616 ∧ Below w.heap.size w wr) (fun _ t _ => rungs.length - (intOf t).toNat)
 case atStart => exact ⟨0, [], kA, kc, ke, ks, rfl, Nat.zero_le _, World.ownsRow_nil _ _ _ _, rfl, rfl, fun _ h => (by cases h), fun _ h => (by cases h), KB, hk1, fun g h => (by rcases h with h | h; exact h.2; cases h), hkl, he, e1⟩
 case round =>
  obtain ⟨i, cs, kA', kc', ke', ks', rfl, hi, hown, hcl, hsay, hcok, hcoff, KBr, hkr, hkoff, hkl', he', er⟩ := hrel
  by_cases hlt : i < rungs.length
  ·obtain rfl : A = some ⟨gl, ol, none⟩ := hA.resolve_left (by omega)
   obtain ⟨r, hr⟩ : ∃ r, rungs[i]? = some r := ⟨rungs[i], List.getElem?_eq_getElem hlt⟩
   obtain ⟨j, hj⟩ : ∃ j, j = min (i + 1) (rungs.length - 1) := ⟨_, rfl⟩
   have hjl : j < rungs.length := by omega
   obtain ⟨u, hu⟩ : ∃ u, rungs[j]? = some u := ⟨rungs[j], List.getElem?_eq_getElem hjl⟩
   have rO := hO r (List.mem_of_getElem? hr)
   have uO := hO u (List.mem_of_getElem? hu)
   have hmin : min ((i : Int) + 1) ((rungs.length : Int) - 1) = (j : Int) := by omega
   have hmin2 : (if (i : Int) + 1 ≤ (rungs.length : Int) - 1 then (i : Int) + 1 else (rungs.length : Int) - 1) = (j : Int) := by split <;> omega
   have hmin3 : (if (rungs.length : Int) - 1 < (i : Int) + 1 then (rungs.length : Int) - 1 else (i : Int) + 1) = (j : Int) := by split <;> omega
   have hj1 : (j : Int) < (rungs.length : Int) := by omega
   have hj0 : (0 : Int) ≤ (j : Int) := by omega
   have HJ := Lib.hid hj
   have Rl := hR.below (er.mono (Nat.le_refl _))
   have Ru := rung_row Rl hu
   clear hj
   go_upto_region 6 with (refine wpList_load_mid rfl 125 (.tmp 24) rfl gl (ol + j * 6) rfl [.string (bstr u.name), .int .u8 (u.serial : Int), .bool u.ca, .bool u.code, .int .i64 u.path, .int .i64 u.usage] _ (show wr.rangeAt gl (ol + j * 6) [.string (bstr u.name), .int .u8 (u.serial : Int), .bool u.ca, .bool u.code, .int .i64 u.path, .int .i64 u.usage] from Ru.2) Tryz.underlying125 rfl sz_rung ?_)
   have zW : wr.heap.size < (wr.alloc (.cells #[.string (bstr u.name), .int .u8 (u.serial : Int), .bool u.ca, .bool u.code, .int .i64 u.path, .int .i64 u.usage] 125)).heap.size := by simp
   have f1 : Below wr.heap.size wr (wr.alloc (.cells #[.string (bstr u.name), .int .u8 (u.serial : Int), .bool u.ca, .bool u.code, .int .i64 u.path, .int .i64 u.usage] 125)) := (Below.refl _ _).alloc (Nat.le_refl _) _
   have R7 : Row (wr.alloc (.cells #[.string (bstr u.name), .int .u8 (u.serial : Int), .bool u.ca, .bool u.code, .int .i64 u.path, .int .i64 u.usage] 125)) wr.heap.size 0 u.cells := Row.of_cut (Cut.of_heap (heap_alloc_new _ _) fun i v hv => by unfold Rung.cells at hv; simpa using hv)
   generalize wr.alloc (.cells #[.string (bstr u.name), .int .u8 (u.serial : Int), .bool u.ca, .bool u.code, .int .i64 u.path, .int .i64 u.usage] 125) = W1 at *
   have KB1 := KBr.below f1
   have Rr := (rung_row Rl hr).below f1
   have hserL : Lim 256 [1, r.serial] := fun x hx => by
    have := rO.serial
    simp at hx
    omega
   have hd0 : Below W1.heap.size W1 W1.drew := below_drewN (Below.refl _ _) 1
   refine wp_region_last (by kernel_rfl) (fun i => if i = 39 then 8 else 26 + i) (fun k v W => Sp (ladT gl ol rungs.length lc i wr.heap.size W1.heap.size r u ⟨kA', kc', ks'⟩ ke' k) v W) (fun W => Below W1.heap.size W1 W) (Nat.succ_pos _) (by kernel_rfl) (by kernel_rfl) (by kernel_rfl) ?inj ?lt (fun i v W W' h hs => h.mono hs) hd0 ⟨?s0, ?s1, ?s2, ?s3, ?s4, ?s5, ?s6, ?s7, ?s8, ?s9, ?s10, ?s11, ?s12, ?s13, ?s14, ?s15, ?s16, ?s17, ?s18, ?s19, ?s20, ?s21, ?s22, ?s23, ?s24, ?s25, ?s26, ?s27, ?s28, ?s29, ?s30, ?s31, ?s32, ?s33, ?s34, ?s35, ?s36, ?s37, ?s38, ?s39, trivial⟩ ?fin
   case inj =>
    intro i j hi hj h
    have h40 : i < 40 ∧ j < 40 := ⟨hi, hj⟩
    have h : (if i = 39 then 8 else 26 + i) = (if j = 39 then 8 else 26 + j) := h
    split at h <;> split at h <;> omega
   case lt =>
    intro i hi
    have h40 : i < 40 := hi
    show (if i = 39 then 8 else 26 + i) < 94
    split <;> omega
   case s0 => exact st_move rfl (.inl rfl) (src_base (fun i _ => by show (if i = 39 then 8 else 26 + i) ≠ 0; split <;> omega) rfl)
   case s1 => exact st_move rfl (.inl rfl) (src_base (fun i _ => by show (if i = 39 then 8 else 26 + i) ≠ 6; split <;> omega) rfl)
   case s2 => exact st_index rfl rfl rfl (src_dep (j := 0) (e := ⟨0, .data⟩) (by simp) rfl rfl rfl) (src_dep (j := 1) (e := ⟨1, .data⟩) (by simp) rfl rfl rfl) (fun W => ia_rung gl ol rungs.length lc i hlt W)
   case s3 => exact st_field rfl rfl rfl (src_dep (j := 2) (e := ⟨2, .data⟩) (by simp) rfl rfl rfl) (fun W => fa_rung1 _ _ W)
   case s4 => exact st_load rfl rfl rfl (src_dep (j := 3) (e := ⟨3, .data⟩) (by simp) rfl rfl rfl) (ld_u8 _ _) (fun W h => (Rr.below h).cell (i := 1) rfl)
   case s5 => exact st_lit rfl rfl rfl Tryz.underlying22 siz_u8 zer_u8 rfl (by decide) (by decide) (fun a W hb hd hg => by
    have h1 : a.eval (.tmp 30) = .int .u8 (r.serial : Int) := (hd ⟨4, .data⟩ (by simp) rfl).now
    simp only [List.map_toArray, List.map_cons, List.map_nil, h1]
    rfl)
   case s6 => exact st_field rfl rfl rfl (src_base (fun i _ => by show (if i = 39 then 8 else 26 + i) ≠ 7; split <;> omega) rfl) (fun W => fa_rung0 _ _ W)
   case s7 => exact st_load rfl rfl rfl (src_dep (j := 6) (e := ⟨6, .data⟩) (by simp) rfl rfl rfl) (ld_str _ _) (fun W h => (R7.below h).cell (i := 0) rfl)
   case s8 => exact st_call rfl (fun a W => run_call rfl cf_name a W) (fun a W hb hd hg => by
    have h1 : a.eval (.tmp 33) = .string (bstr u.name) := (hd ⟨7, .data⟩ (by simp) rfl).now
    simp only [List.map_toArray, List.map_cons, List.map_nil, h1]
    exact (refName_any u.name W uO.name.2 (by have := uO.name.1; omega)).mono fun _ _ h => h.sp hg.size)
   case s9 => exact st_move rfl (.inl rfl) (src_base (fun i _ => by show (if i = 39 then 8 else 26 + i) ≠ 0; split <;> omega) rfl)
   case s10 => exact st_move rfl (.inl rfl) (src_base (fun i _ => by show (if i = 39 then 8 else 26 + i) ≠ 6; split <;> omega) rfl)
   case s11 => exact st_index rfl rfl rfl (src_dep (j := 9) (e := ⟨9, .data⟩) (by simp) rfl rfl rfl) (src_dep (j := 10) (e := ⟨10, .data⟩) (by simp) rfl rfl rfl) (fun W => ia_rung gl ol rungs.length lc i hlt W)
   case s12 => exact st_field rfl rfl rfl (src_dep (j := 11) (e := ⟨11, .data⟩) (by simp) rfl rfl rfl) (fun W => fa_rung0 _ _ W)
   case s13 => exact st_load rfl rfl rfl (src_dep (j := 12) (e := ⟨12, .data⟩) (by simp) rfl rfl rfl) (ld_str _ _) (fun W h => (Rr.below h).cell (i := 0) rfl)
   case s14 => exact st_call rfl (fun a W => run_call rfl cf_name a W) (fun a W hb hd hg => by
    have h1 : a.eval (.tmp 39) = .string (bstr r.name) := (hd ⟨13, .data⟩ (by simp) rfl).now
    simp only [List.map_toArray, List.map_cons, List.map_nil, h1]
    exact (refName_any r.name W rO.name.2 (by have := rO.name.1; omega)).mono fun _ _ h => h.sp hg.size)
   case s15 => exact st_build rfl rfl (fun a W hb hd hg => ⟨t2020.cells.toArray, by simp only [List.map_toArray, List.map_cons, List.map_nil]; kernel_rfl, Sp.tv rfl⟩)
   case s16 => exact st_build rfl rfl (fun a W hb hd hg => ⟨t2060.cells.toArray, by simp only [List.map_toArray, List.map_cons, List.map_nil]; kernel_rfl, Sp.tv rfl⟩)
   case s17 => exact st_loadR (cs := [.slice kA' ks'.length kc', .int .u64 (ke' : Int)]) rfl rfl rfl (src_base (fun i _ => by show (if i = 39 then 8 else 26 + i) ≠ 3; split <;> omega) rfl) Tryz.underlying28 rfl size_key (fun W h => (KB1.below h).range)
   case s18 => exact st_move rfl (.inl rfl) (src_base (fun i _ => by show (if i = 39 then 8 else 26 + i) ≠ 0; split <;> omega) rfl)
   case s19 => exact st_move rfl (.inl rfl) (src_base (fun i _ => by show (if i = 39 then 8 else 26 + i) ≠ 6; split <;> omega) rfl)
   case s20 => exact st_index rfl rfl rfl (src_dep (j := 18) (e := ⟨18, .data⟩) (by simp) rfl rfl rfl) (src_dep (j := 19) (e := ⟨19, .data⟩) (by simp) rfl rfl rfl) (fun W => ia_rung gl ol rungs.length lc i hlt W)
   case s21 => exact st_field rfl rfl rfl (src_dep (j := 20) (e := ⟨20, .data⟩) (by simp) rfl rfl rfl) (fun W => fa_rung2 _ _ W)
   case s22 => exact st_load rfl rfl rfl (src_dep (j := 21) (e := ⟨21, .data⟩) (by simp) rfl rfl rfl) (ld_bool _ _) (fun W h => (Rr.below h).cell (i := 2) rfl)
   case s23 => exact st_move rfl (.inl rfl) (src_base (fun i _ => by show (if i = 39 then 8 else 26 + i) ≠ 0; split <;> omega) rfl)
   case s24 => exact st_move rfl (.inl rfl) (src_base (fun i _ => by show (if i = 39 then 8 else 26 + i) ≠ 6; split <;> omega) rfl)
   case s25 => exact st_index rfl rfl rfl (src_dep (j := 23) (e := ⟨23, .data⟩) (by simp) rfl rfl rfl) (src_dep (j := 24) (e := ⟨24, .data⟩) (by simp) rfl rfl rfl) (fun W => ia_rung gl ol rungs.length lc i hlt W)
   case s26 => exact st_field rfl rfl rfl (src_dep (j := 25) (e := ⟨25, .data⟩) (by simp) rfl rfl rfl) (fun W => fa_rung4 _ _ W)
   case s27 => exact st_load rfl rfl rfl (src_dep (j := 26) (e := ⟨26, .data⟩) (by simp) rfl rfl rfl) (ld_int _ _) (fun W h => (Rr.below h).cell (i := 4) rfl)
   case s28 => exact st_move rfl (.inl rfl) (src_base (fun i _ => by show (if i = 39 then 8 else 26 + i) ≠ 0; split <;> omega) rfl)
   case s29 => exact st_move rfl (.inl rfl) (src_base (fun i _ => by show (if i = 39 then 8 else 26 + i) ≠ 6; split <;> omega) rfl)
   case s30 => exact st_index rfl rfl rfl (src_dep (j := 28) (e := ⟨28, .data⟩) (by simp) rfl rfl rfl) (src_dep (j := 29) (e := ⟨29, .data⟩) (by simp) rfl rfl rfl) (fun W => ia_rung gl ol rungs.length lc i hlt W)
   case s31 => exact st_field rfl rfl rfl (src_dep (j := 30) (e := ⟨30, .data⟩) (by simp) rfl rfl rfl) (fun W => fa_rung5 _ _ W)
   case s32 => exact st_load rfl rfl rfl (src_dep (j := 31) (e := ⟨31, .data⟩) (by simp) rfl rfl rfl) (ld_int _ _) (fun W h => (Rr.below h).cell (i := 5) rfl)
   case s33 => exact st_move rfl (.inl rfl) (src_base (fun i _ => by show (if i = 39 then 8 else 26 + i) ≠ 0; split <;> omega) rfl)
   case s34 => exact st_move rfl (.inl rfl) (src_base (fun i _ => by show (if i = 39 then 8 else 26 + i) ≠ 6; split <;> omega) rfl)
   case s35 => exact st_index rfl rfl rfl (src_dep (j := 33) (e := ⟨33, .data⟩) (by simp) rfl rfl rfl) (src_dep (j := 34) (e := ⟨34, .data⟩) (by simp) rfl rfl rfl) (fun W => ia_rung gl ol rungs.length lc i hlt W)
   case s36 => exact st_field rfl rfl rfl (src_dep (j := 35) (e := ⟨35, .data⟩) (by simp) rfl rfl rfl) (fun W => fa_rung3 _ _ W)
   case s37 => exact st_load rfl rfl rfl (src_dep (j := 36) (e := ⟨36, .data⟩) (by simp) rfl rfl rfl) (ld_bool _ _) (fun W h => (Rr.below h).cell (i := 3) rfl)
   case s38 => exact st_build rfl rfl (fun a W hb hd hg => by
    obtain ⟨gs, v1, q1, -, q3, q4⟩ := (hd ⟨5, .data⟩ (by simp) rfl).now
    obtain ⟨A2, c2, v2, n2, m2, q5, x2⟩ := (hd ⟨8, .data⟩ (by simp) rfl).now
    obtain ⟨A3, c3, v3, n3, m3, q6, x3⟩ := (hd ⟨14, .data⟩ (by simp) rfl).now
    have v1 : a.eval (.tmp 31) = _ := v1
    have v2 : a.eval (.tmp 34) = _ := v2
    have v3 : a.eval (.tmp 40) = _ := v3
    have v4 : a.eval (.tmp 41) = .agg t2020.cells.toArray := (hd ⟨15, .data⟩ (by simp) rfl).now
    have v5 : a.eval (.tmp 42) = .agg t2060.cells.toArray := (hd ⟨16, .data⟩ (by simp) rfl).now
    have v6 : a.eval (.tmp 43) = .agg [.slice kA' ks'.length kc', .int .u64 (ke' : Int)].toArray := (hd ⟨17, .data⟩ (by simp) rfl).now
    have v7 : a.eval (.tmp 48) = .bool r.ca := (hd ⟨22, .data⟩ (by simp) rfl).now
    have v8 : a.eval (.tmp 53) = .int .i64 r.path := (hd ⟨27, .data⟩ (by simp) rfl).now
    have v9 : a.eval (.tmp 58) = .int .i64 r.usage := (hd ⟨32, .data⟩ (by simp) rfl).now
    have v10 : a.eval (.tmp 63) = .bool r.code := (hd ⟨37, .data⟩ (by simp) rfl).now
    refine ⟨(ladC r ⟨kA', kc', ks'⟩ ke' ⟨A2, c2, nameB u.name⟩ ⟨A3, c3, nameB r.name⟩ ⟨some ⟨gs, 0, none⟩, 2, [1, r.serial]⟩).cells.toArray, ?_, fun w' hs => ⟨⟨A2, c2, nameB u.name⟩, ⟨A3, c3, nameB r.name⟩, ⟨some ⟨gs, 0, none⟩, 2, [1, r.serial]⟩, rfl, rfl, rfl, rfl, ⟨⟨q5.sub hs, nameB_lim uO.name.2 (by have := uO.name.1; omega), n2, m2⟩, x2⟩, ⟨⟨q6.sub hs, nameB_lim rO.name.2 (by have := rO.name.1; omega), n3, m3⟩, x3⟩, ⟨⟨q1.sub hs, hserL, Nat.le_refl 2, by show 2 ≤ 9223372036854775807; omega⟩, fun g hg' => Off.of_ne (by omega)⟩⟩⟩
    simp only [List.map_toArray, List.map_cons, List.map_nil, v1, v2, v3, v4, v5, v6, v7, v8, v9, v10]
    kernel_rfl)
   case s39 => exact st_alloc rfl rfl rfl (z := .agg Crt.none.cells.toArray) zero_cert (by decide)
   case fin =>
    intro o ho a W h1 h2 h3 h4 h5 K hK
    obtain ⟨iss, sub, ser, hv, hi1, hi2, hi3, hn1, hn2, hn3⟩ := (h4 38 (by show 38 < 40; omega)).now
    obtain ⟨g8, hg8, hB8, hh8⟩ := (h4 39 (by show 39 < 40; omega)).now
    cases (Option.some.inj (show some _ = some o from ho))
    have k1 : a.eval (.tmp 8) = .pointer (some ⟨g8, 0, none⟩) := hg8
    have k2 : a.eval (.tmp 64) = .agg (ladC r ⟨kA', kc', ks'⟩ ke' iss sub ser).cells.toArray := hv
    have C8 : Cut W g8 0 Crt.none.cells := Cut.of_heap hh8 fun i v hv => by simpa [Value.cells] using hv
    refine step_store_cut rfl 30 (.tmp 8) (.tmp 64) rfl g8 0 _ _ k1 k2 C8 rfl sz_cert (crt_one _) (fun W2 hst => hK a W2 ?_)
    have hz : a.tmps.size = 94 := h2
    have hdf : a.defers = [] := h1
    have b0 := h3 0 (fun i _ => by show (if i = 39 then 8 else 26 + i) ≠ 0; split <;> omega)
    have b3 := h3 3 (fun i _ => by show (if i = 39 then 8 else 26 + i) ≠ 3; split <;> omega)
    have b5 := h3 5 (fun i _ => by show (if i = 39 then 8 else 26 + i) ≠ 5; split <;> omega)
    have b6 := h3 6 (fun i _ => by show (if i = 39 then 8 else 26 + i) ≠ 6; split <;> omega)
    have b0 : a.tmps.getD 0 undef = .slice (some ⟨gl, ol, none⟩) rungs.length lc := b0
    have b3 : a.tmps.getD 3 undef = .pointer (some ⟨w.heap.size, 0, none⟩) := b3
    have b5 : a.tmps.getD 5 undef = u5 := b5
    have b6 : a.tmps.getD 6 undef = .int .i64 (i : Int) := b6
    have b1 := h3 1 (fun i _ => by show (if i = 39 then 8 else 26 + i) ≠ 1; split <;> omega)
    have b2 := h3 2 (fun i _ => by show (if i = 39 then 8 else 26 + i) ≠ 2; split <;> omega)
    have b4 := h3 4 (fun i _ => by show (if i = 39 then 8 else 26 + i) ≠ 4; split <;> omega)
    have b1 : a.tmps.getD 1 undef = .agg #[.slice kA ks.length kc, .int .u64 (ke : Int)] := b1
    have b2 : a.tmps.getD 2 undef = undef := b2
    have b4 : a.tmps.getD 4 undef = .slice none 0 0 := b4
    have b93 := h3 93 (fun i hi => by
     have h40 : i < 40 := hi
     show (if i = 39 then 8 else 26 + i) ≠ 93
     split <;> omega)
    have b93 : a.tmps.getD 93 undef = undef := b93
    have b8 : a.tmps.getD 8 undef = .pointer (some ⟨g8, 0, none⟩) := k1
    rw [act_eq hz hdf]
    simp only [show List.range 94 = [0, 1, 2, 3, 4, 5, 6, 7, 8, 9, 10, 11, 12, 13, 14, 15, 16, 17, 18, 19, 20, 21, 22, 23, 24, 25, 26, 27, 28, 29, 30, 31, 32, 33, 34, 35, 36, 37, 38, 39, 40, 41, 42, 43, 44, 45, 46, 47, 48, 49, 50, 51, 52, 53, 54, 55, 56, 57, 58, 59, 60, 61, 62, 63, 64, 65, 66, 67, 68, 69, 70, 71, 72, 73, 74, 75, 76, 77, 78, 79, 80, 81, 82, 83, 84, 85, 86, 87, 88, 89, 90, 91, 92, 93] from rfl, List.map_cons, List.map_nil, b0, b1, b2, b3, b4, b5, b6, b8, b93]
    clear h3 h4 hv b0 b1 b2 b3 b4 b5 b6 b8 b93 k1 k2
    have o1 : Off iss.A iss.xs g8 := off_zero hn1.ok.rd (by rw [hi1]; exact nameB_head _) (by decide) hh8
    have o2 : Off sub.A sub.xs g8 := off_zero hn2.ok.rd (by rw [hi2]; exact nameB_head _) (by decide) hh8
    have o3 : Off ser.A ser.xs g8 := off_zero hn3.ok.rd (by rw [hi3]; rfl) (by decide) hh8
    have eW : Below wr.heap.size wr W := f1.trans (h5.mono f1.size)
    have hg8r : wr.heap.size ≤ g8 := Nat.le_trans (Nat.le_of_lt zW) hB8
    have e2 : Below wr.heap.size wr W2 := below_only eW hst.1 eW.size hg8r
    have o4 : Off kA' ks' g8 := Off.new hkr.rd hg8r
    have C2 := hst.2.2.1
    have cok : Crt.ok W2 (ladC r ⟨kA', kc', ks'⟩ ke' iss sub ser) := by
     have gr := hst.1
     exact ⟨Sl.ok_nil _, Sl.ok_nil _, hn1.ok.grown gr (fun g e => by cases e; exact o1), hn2.ok.grown gr (fun g e => by cases e; exact o2), hn3.ok.grown gr (fun g e => by cases e; exact o3), hkr.below e2, Sl.ok_nil _, t2020_ok, t2060_ok, he'⟩
    have coff : CrtOff (ladC r ⟨kA', kc', ks'⟩ ke' iss sub ser) g8 := fun s hs => by
     simp only [Crt.slices, ladC, List.mem_cons, List.not_mem_nil, or_false] at hs
     rcases hs with rfl | rfl | rfl | rfl | rfl | rfl | rfl <;> first | assumption | exact Or.inl rfl
    have cnew : CrtNew wr.heap.size (ladC r ⟨kA', kc', ks'⟩ ke' iss sub ser) := fun s hs g hg => by
     simp only [ladC, List.mem_cons, List.not_mem_nil, or_false] at hs
     rcases hs with rfl | rfl | rfl | rfl | rfl | rfl
     ·exact Or.inl rfl
     ·exact Or.inl rfl
     ·exact hn1.off g (by omega)
     ·exact hn2.off g (by omega)
     ·exact hn3.off g (by omega)
     ·exact Or.inl rfl
    have hsy : (ladC r ⟨kA', kc', ks'⟩ ke' iss sub ser).say = rungSay r u ks' ke' := by
     unfold Crt.say ladC rungSay
     rw [hi1, hi2, hi3]
     rfl
    have hso : SayW (rungSay r u ks' ke') := ⟨rO.code, rO.path, rO.usage, ⟨by show 2 ≤ 1000; omega, hserL⟩, ⟨Nat.le_trans (nameB_len (by have := uO.name.1; omega)) (by omega), nameB_lim uO.name.2 (by have := uO.name.1; omega)⟩, ⟨Nat.le_trans (nameB_len (by have := rO.name.1; omega)) (by omega), nameB_lim rO.name.2 (by have := rO.name.1; omega)⟩, ⟨by show ks'.length ≤ 1000; omega, hkr.lim⟩, t2020_ok, t2060_ok⟩
    have hg8l : g8 < W2.heap.size := C2.lt
    generalize hc0 : ladC r ⟨kA', kc', ks'⟩ ke' iss sub ser = c0 at *
    have hkey : c0.key = ⟨kA', kc', ks'⟩ := by rw [← hc0]; rfl
    have hsig : c0.sig = Sl.nil := by rw [← hc0]; rfl
    have HC := Lib.hid (And.intro hsy (And.intro hkey hsig))
    clear hsig hc0 hst o1 o2 o3 o4 hn1 hn2 hn3 hi1 hi2 hi3 C8 hh8 hsy hkey h5 eW h1 h2 hz hdf
    go_wp2_with (refine wpList_load_mid rfl 30 (.tmp 8) rfl g8 0 rfl c0.cells _ C2.range Tryz.underlying30 rfl sz_cert ?_)
    have hq := refTbs_told c0 W2 cok (by have := hso.serial.1; have h := congrArg Say.serial HC.out.1; dsimp only [Crt.say] at h; rw [h]; omega) (by have := hso.issuer.1; have h := congrArg Say.issuer HC.out.1; dsimp only [Crt.say] at h; rw [h]; omega) (by have := hso.subject.1; have h := congrArg Say.subject HC.out.1; dsimp only [Crt.say] at h; rw [h]; omega) (by have := hso.key.1; have h := congrArg Say.key HC.out.1; dsimp only [Crt.say] at h; rw [h]; omega) (by have := hso.code; have h := congrArg Say.code HC.out.1; dsimp only [Crt.say] at h; rw [h]; exact this) (by have := hso.path; have h := congrArg Say.path HC.out.1; dsimp only [Crt.say] at h; rw [h]; exact this) (by have := hso.usage; have h := congrArg Say.usage HC.out.1; dsimp only [Crt.say] at h; rw [h]; exact this)
    rw [HC.out.1] at hq
    refine hq.mono ?_
    clear hq
    rintro r' W3 ⟨A3, c3, rfl, n3, m3, r3, e3, x3⟩
    obtain ⟨tl, tlim⟩ := tbsB_told hso
    have C3 := C2.below e3
    have cok3 := cok.below e3
    have x3g := x3 g8 hg8l
    generalize htb : tbsB (rungSay r u ks' ke') = tb at *
    have HT := Lib.hid htb
    have k1 : W3.cell? ⟨g8, 1, none⟩ = some c0.tbs.val := C3.cell (i := 1) rfl
    have f1 : W3.frozen? ⟨g8, 1, none⟩ = false := C3.frozen (i := 1) rfl
    have e3 := e2.trans (e3.mono e2.size)
    have x3n : ∀ g, g < wr.heap.size → Off A3 tb g := fun g hg => x3 g (Nat.lt_of_lt_of_le hg e2.size)
    clear htb C2 cok x3
    go_upto_region 8 with fail
    have C4 : Cut (W3.setCell ⟨g8, 1, none⟩ (.slice A3 tb.length c3)) g8 0 { c0 with tbs := ⟨A3, c3, tb⟩ : Crt }.cells := C3.set (i := 1) (v := c0.tbs.val) rfl (.slice A3 tb.length c3)
    have gr4 : W3.grownBy (W3.setCell ⟨g8, 1, none⟩ (.slice A3 tb.length c3)) (some g8) := only_set (only_refl _ _) (Or.inl rfl) _
    have e4 : Below wr.heap.size wr (W3.setCell ⟨g8, 1, none⟩ (.slice A3 tb.length c3)) := e3.setCell hg8r _
    have q4 := cok3.grown gr4 (fun g e => by cases e; exact coff)
    have r4 : Sl.ok (W3.setCell ⟨g8, 1, none⟩ (.slice A3 tb.length c3)) ⟨A3, c3, tb⟩ := ⟨r3.grown gr4 (fun g e => by cases e; exact x3g), tlim, n3, m3⟩
    have cok4 : Crt.ok (W3.setCell ⟨g8, 1, none⟩ (.slice A3 tb.length c3)) { c0 with tbs := ⟨A3, c3, tb⟩ : Crt } := ⟨q4.raw, r4, q4.issuer, q4.subject, q4.serial, q4.key, q4.sig, q4.frm, q4.til, q4.e⟩
    have coff4 : CrtOff { c0 with tbs := ⟨A3, c3, tb⟩ : Crt } g8 := fun s hs => by
     simp only [Crt.slices, List.mem_cons, List.not_mem_nil, or_false] at hs
     rcases hs with rfl | rfl | rfl | rfl | rfl | rfl | rfl
     ·exact coff _ (by simp [Crt.slices])
     ·exact x3g
     all_goals exact coff _ (by simp [Crt.slices])
    have cnew4 : CrtNew wr.heap.size { c0 with tbs := ⟨A3, c3, tb⟩ : Crt } := fun s hs g hg => by
     simp only [List.mem_cons, List.not_mem_nil, or_false] at hs
     rcases hs with rfl | rfl | rfl | rfl | rfl | rfl
     ·exact cnew _ (by simp) g hg
     ·exact x3n g hg
     all_goals exact cnew _ (by simp) g hg
    clear k1 f1 C3 cok3 gr4 q4 r3 e3
    generalize W3.setCell ⟨g8, 1, none⟩ (.slice A3 tb.length c3) = W4 at *
    have k4 : W4.cell? ⟨g8, 1, none⟩ = some (.slice A3 tb.length c3) := C4.cell (i := 1) rfl
    go_wp2_with fail
    refine (refSum_any A3 tb.length c3 tb W4 rfl (by omega) r4.rd tlim).mono ?_
    rintro r' W5 ⟨rfl, e5⟩
    have C5 := C4.below e5
    have cok5 := cok4.below e5
    have e5 := e4.trans (e5.mono e4.size)
    have w5s := e5.size
    have dl := digest_length tb
    have dlim := digest_lim tb
    clear k4 C4 cok4 r4
    go_wp2_with fail
    refine (for_any (digest tb) W5 dl dlim).mono ?_
    rintro r' W6 ⟨Ak, ck, As, csg, rfl, nk, mk, oK, ns, ms, oS, e6⟩
    unfold keyVal
    have C6 := C5.below e6
    have cok6 := cok5.below e6
    have hg8l5 := C5.lt
    have xk : ∀ g, g < W5.heap.size → Off Ak (forKey (digest tb)) g := fun g hg => off_of_own oK hg
    have xs6 : ∀ g, g < W5.heap.size → Off As (forSig (digest tb)) g := fun g hg => off_of_own oS hg
    have e6 := e5.trans (e6.mono e5.size)
    go_upto_region 9 with fail
    have f7 : Below W6.heap.size W6 (W6.alloc (.cells #[.slice Ak 256 ck, .int .u64 3] 28)) := (Below.refl _ _).alloc (Nat.le_refl _) _
    have K7 : Cut (W6.alloc (.cells #[.slice Ak 256 ck, .int .u64 3] 28)) W6.heap.size 0 [.slice Ak 256 ck, .int .u64 3] := Cut.of_heap (heap_alloc_new _ _) fun i v hv => by simpa using hv
    have C7 := C6.below f7
    have cok7 := cok6.below f7
    have okk7 : Sl.ok (W6.alloc (.cells #[.slice Ak 256 ck, .int .u64 3] 28)) ⟨Ak, ck, forKey (digest tb)⟩ := ⟨oK.rd.below f7, forKey_lim _, by show (forKey (digest tb)).length ≤ ck; rw [forKey_len]; exact nk, mk⟩
    have oks7 : Sl.ok (W6.alloc (.cells #[.slice Ak 256 ck, .int .u64 3] 28)) ⟨As, csg, forSig (digest tb)⟩ := ⟨oS.rd.below f7, forSig_lim _, by show (forSig (digest tb)).length ≤ csg; rw [forSig_len]; exact ns, ms⟩
    have e7 := e6.trans (f7.mono e6.size)
    have hg96 : g8 < W6.heap.size := C6.lt
    clear C5 cok5 C6 cok6 f7 oK oS
    generalize hg9 : W6.heap.size = g9 at *
    generalize W6.alloc (.cells #[.slice Ak 256 ck, .int .u64 3] 28) = W7 at *
    clear hg9
    by_cases hnext : i + 1 < rungs.length
    ·have z9 : (i : Int) + 1 < (rungs.length : Int) := by omega
     have k19 : W7.cell? ⟨g8, 19, none⟩ = some c0.sig.val := C7.cell (i := 19) rfl
     have f19 : W7.frozen? ⟨g8, 19, none⟩ = false := C7.frozen (i := 19) rfl
     go_upto_region 11 with fail
     have C8 : Cut (W7.setCell ⟨g8, 19, none⟩ (.slice As 256 csg)) g8 0 { c0 with tbs := ⟨A3, c3, tb⟩, sig := ⟨As, csg, forSig (digest tb)⟩ : Crt }.cells := by
      have q := C7.set (i := 19) (v := c0.sig.val) rfl (.slice As (forSig (digest tb)).length csg)
      rw [forSig_len] at q
      have e : { c0 with tbs := ⟨A3, c3, tb⟩, sig := ⟨As, csg, forSig (digest tb)⟩ : Crt }.cells = { c0 with tbs := ⟨A3, c3, tb⟩ : Crt }.cells.set 19 (.slice As (forSig (digest tb)).length csg) := rfl
      rw [e, forSig_len]
      exact q
     have gr8 : W7.grownBy (W7.setCell ⟨g8, 19, none⟩ (.slice As 256 csg)) (some g8) := only_set (only_refl _ _) (Or.inl rfl) _
     have e8 : Below wr.heap.size wr (W7.setCell ⟨g8, 19, none⟩ (.slice As 256 csg)) := e7.setCell hg8r _
     have q8 := cok7.grown gr8 (fun g e => by cases e; exact coff4)
     have cok8 : Crt.ok (W7.setCell ⟨g8, 19, none⟩ (.slice As 256 csg)) { c0 with tbs := ⟨A3, c3, tb⟩, sig := ⟨As, csg, forSig (digest tb)⟩ : Crt } := ⟨q8.raw, q8.tbs, q8.issuer, q8.subject, q8.serial, q8.key, oks7.grown gr8 (fun g e => by cases e; exact xs6 _ hg8l5), q8.frm, q8.til, q8.e⟩
     have K8 := K7.far (p := ⟨g8, 19, none⟩) (by show g9 ≠ g8; omega) (.slice As 256 csg)
     have okk8 := okk7.grown gr8 (fun g e => by cases e; exact xk _ hg8l5)
     have coff8 : CrtOff { c0 with tbs := ⟨A3, c3, tb⟩, sig := ⟨As, csg, forSig (digest tb)⟩ : Crt } g8 := fun s hs => by
      simp only [Crt.slices, List.mem_cons, List.not_mem_nil, or_false] at hs
      rcases hs with rfl | rfl | rfl | rfl | rfl | rfl | rfl
      all_goals first | exact xs6 _ hg8l5 | exact coff4 _ (by simp [Crt.slices])
     have cnew8 : CrtNew wr.heap.size { c0 with tbs := ⟨A3, c3, tb⟩, sig := ⟨As, csg, forSig (digest tb)⟩ : Crt } := fun s hs g hg => by
      simp only [List.mem_cons, List.not_mem_nil, or_false] at hs
      rcases hs with rfl | rfl | rfl | rfl | rfl | rfl
      all_goals first | exact xs6 g (Nat.lt_of_lt_of_le hg w5s) | exact cnew4 _ (by simp) g hg
     clear k19 f19 C7 cok7 gr8 q8 oks7 K7 okk7 coff4 cnew4
     generalize W7.setCell ⟨g8, 19, none⟩ (.slice As 256 csg) = W8 at *
     have ccb := certB_ok tlim cok8.sig.lim tl (by show (forSig (digest tb)).length ≤ 1000; rw [forSig_len]; omega)
     obtain ⟨cl1, cl2⟩ := ccb
     have k11 : W8.cell? ⟨g8, 1, none⟩ = some (.slice A3 tb.length c3) := C8.cell (i := 1) rfl
     have k19 : W8.cell? ⟨g8, 19, none⟩ = some (.slice As (forSig (digest tb)).length csg) := C8.cell (i := 19) rfl
     go_wp2_with fail
     have hcq := refCert_any A3 As tb.length (forSig (digest tb)).length c3 csg tb (forSig (digest tb)) W8 rfl rfl (by omega) (by rw [forSig_len]; omega) cok8.tbs.rd cok8.sig.rd
     refine hcq.mono ?_
     clear hcq
     rintro r' W9 ⟨A9, c9, rfl, n9, m9, o9, e9⟩
     have C9 := C8.below e9
     have cok9 := cok8.below e9
     have K9 := K8.below e9
     have okk9 := okk8.below e9
     have x9 : ∀ g, g < W8.heap.size → Off A9 (certB tb (forSig (digest tb))) g := fun g hg => off_of_own o9 hg
     have hg8l9 := C8.lt
     have o9 := o9.rd
     have e9 := e8.trans (e9.mono e8.size)
     have k0 : W9.cell? ⟨g8, 0, none⟩ = some c0.raw.val := C9.cell (i := 0) rfl
     have f0 : W9.frozen? ⟨g8, 0, none⟩ = false := C9.frozen (i := 0) rfl
     go_upto_region 12 with fail
     have C10 : Cut (W9.setCell ⟨g8, 0, none⟩ (.slice A9 (certB tb (forSig (digest tb))).length c9)) g8 0 { c0 with raw := ⟨A9, c9, certB tb (forSig (digest tb))⟩, tbs := ⟨A3, c3, tb⟩, sig := ⟨As, csg, forSig (digest tb)⟩ : Crt }.cells := C9.set (i := 0) (v := c0.raw.val) rfl (.slice A9 (certB tb (forSig (digest tb))).length c9)
     have gr10 : W9.grownBy (W9.setCell ⟨g8, 0, none⟩ (.slice A9 (certB tb (forSig (digest tb))).length c9)) (some g8) := only_set (only_refl _ _) (Or.inl rfl) _
     have e10 : Below wr.heap.size wr (W9.setCell ⟨g8, 0, none⟩ (.slice A9 (certB tb (forSig (digest tb))).length c9)) := e9.setCell hg8r _
     have q10 := cok9.grown gr10 (fun g e => by cases e; exact coff8)
     have cok10 : Crt.ok (W9.setCell ⟨g8, 0, none⟩ (.slice A9 (certB tb (forSig (digest tb))).length c9)) { c0 with raw := ⟨A9, c9, certB tb (forSig (digest tb))⟩, tbs := ⟨A3, c3, tb⟩, sig := ⟨As, csg, forSig (digest tb)⟩ : Crt } := ⟨⟨o9.grown gr10 (fun g e => by cases e; exact x9 _ hg8l9), cl2, n9, m9⟩, q10.tbs, q10.issuer, q10.subject, q10.serial, q10.key, q10.sig, q10.frm, q10.til, q10.e⟩
     have K10 := K9.far (p := ⟨g8, 0, none⟩) (by show g9 ≠ g8; omega) (.slice A9 (certB tb (forSig (digest tb))).length c9)
     have okk10 := okk9.grown gr10 (fun g e => by cases e; exact xk _ hg8l5)
     have cnew10 : CrtNew wr.heap.size { c0 with raw := ⟨A9, c9, certB tb (forSig (digest tb))⟩, tbs := ⟨A3, c3, tb⟩, sig := ⟨As, csg, forSig (digest tb)⟩ : Crt } := fun s hs g hg => by
      simp only [List.mem_cons, List.not_mem_nil, or_false] at hs
      rcases hs with rfl | rfl | rfl | rfl | rfl | rfl
      ·exact x9 g (Nat.lt_of_lt_of_le hg e8.size)
      all_goals exact cnew8 _ (by simp) g hg
     have HS : Hid ({ c0 with raw := ⟨A9, c9, certB tb (forSig (digest tb))⟩, tbs := ⟨A3, c3, tb⟩, sig := ⟨As, csg, forSig (digest tb)⟩ : Crt }.say = rungDone (rungSay r u ks' ke') true ∧ { c0 with raw := ⟨A9, c9, certB tb (forSig (digest tb))⟩, tbs := ⟨A3, c3, tb⟩, sig := ⟨As, csg, forSig (digest tb)⟩ : Crt }.key = ⟨kA', kc', ks'⟩) := by
      refine And.intro ?_ HC.out.2.1
      show { c0.say with raw := certB tb (forSig (digest tb)), tbs := tb, sig := (forSig (digest tb)) } = _
      rw [HC.out.1]
      unfold rungDone
      rw [HT.out]
      rfl
     clear k0 f0 k11 k19 C9 cok9 K9 okk9 gr10 q10 o9 coff8 cnew8 C8 cok8 K8 okk8
     generalize W9.setCell ⟨g8, 0, none⟩ (.slice A9 (certB tb (forSig (digest tb))).length c9) = W10 at *
     have KBx : Cut W10 w.heap.size 0 [.slice kA' ks'.length kc', .int .u64 (ke' : Int)] := KBr.below e10
     generalize { c0 with raw := ⟨A9, c9, certB tb (forSig (digest tb))⟩, tbs := ⟨A3, c3, tb⟩, sig := ⟨As, csg, forSig (digest tb)⟩ : Crt } = cx at *
     have hg8ne : g8 ≠ w.heap.size := by have := KBr.lt; omega
     go_upto_region 13 with (first
      | (refine wpList_load_mid rfl 28 (.tmp 9) rfl g9 0 rfl [.slice Ak 256 ck, .int .u64 3] _ K10.range Tryz.underlying28 rfl size_key ?_)
      | (refine wpList_store_cut rfl 28 (.tmp 3) (.tmp 88) rfl w.heap.size 0 [.slice Ak 256 ck, .int .u64 3] _ rfl rfl KBx rfl size_key (fun v hv => by simp at hv; rcases hv with rfl | rfl <;> rfl) ?_; intro W11 hst; have C11 := C10.grown hst.1 (by intro e; cases e; exact hg8ne rfl)))
     have zr := KBr.lt
     have zown : ∀ k, u5.ownBlock = some k → w1.heap.size ≤ k ∧ k < wr.heap.size := hown.lt
     have own11 : W11.ownsRow w1.heap.size 30 24 u5 i (crtCells cs) := by
      refine row_keep (row_keep hown fun k hk => e10.block k (zown k hk).2) fun k hk => ?_
      refine hst.1.block k (Nat.lt_of_lt_of_le (zown k hk).2 e10.size) ?_
      have zk := (zown k hk).1
      intro e
      injection e with e
      omega
     have f12 : Below W11.heap.size W11 (W11.alloc (.cells cx.cells.toArray 30)) := (Below.refl _ _).alloc (Nat.le_refl _) _
     have own12 := own11.alloc (.cells cx.cells.toArray 30)
     have zsz := hst.2.1
     have z10 := e10.size
     have zer := er.size
     have z12 := f12.size
     have bz12 : w1.heap.size ≤ (W11.alloc (.cells cx.cells.toArray 30)).heap.size := by omega
     go_wp2_with (first
      | (refine wpList_load_mid rfl 30 (.tmp 8) rfl g8 0 rfl cx.cells _ C11.range Tryz.underlying30 rfl sz_cert ?_)
      | (refine wpList_build_cert rfl (.tmp 90) rfl cx rfl ?_)
      | (at_builtin; (refine wpList_append_V rfl (.tmp 89) (.tmp 91) _ rfl w1.heap.size 30 (.agg Crt.none.cells.toArray) 24 224 Tryz.underlying31 info_cert rfl (by decide) u5 i (crtCells cs) rfl own12 ⟨W11.heap.size, 0, none⟩ 1 1 cx.cells rfl rfl new_at (crt_one cx) (by simp only [maxLen]; omega) (by omega) bz12 ?_; intro v13 W13 own13 g13 b13)))
     have zs5 : wr.heap.size ≤ W5.heap.size := w5s
     have koff : ∀ g, (g ≤ w.heap.size ∧ Off kA ks g) ∨ u5.ownBlock = some g → Off cx.key.A cx.key.xs g := fun g hg => by
      rw [HS.out.2]
      exact hkoff g hg
     have zlt : ∀ g, (g ≤ w.heap.size ∧ Off kA ks g) ∨ u5.ownBlock = some g → g < wr.heap.size := fun g hg => by
      rcases hg with h | h
      ·omega
      ·exact (zown g h).2
     have hKBo : (w.heap.size ≤ w.heap.size ∧ Off kA ks w.heap.size) ∨ u5.ownBlock = some w.heap.size := .inl ⟨Nat.le_refl _, hkO⟩
     have okc : ∀ c ∈ cs ++ [cx], Crt.ok (W11.alloc (.cells cx.cells.toArray 30)) c := fun c hc => by
      rcases List.mem_append.1 hc with hc | hc
      ·exact ((((hcok c hc).below e10).grown hst.1 (fun g e => by cases e; exact hcoff c hc _ hKBo)).below f12)
      ·obtain rfl : c = cx := by simpa using hc
       exact ((cok10.grown hst.1 (fun g e => by cases e; exact crt_off_of cnew10 (zlt _ hKBo) (koff _ hKBo))).below f12)
     have offc : ∀ c ∈ cs ++ [cx], ∀ g, (g ≤ w.heap.size ∧ Off kA ks g) ∨ u5.ownBlock = some g → CrtOff c g := fun c hc g hg => by
      rcases List.mem_append.1 hc with hc | hc
      ·exact hcoff c hc g hg
      ·obtain rfl : c = cx := by simpa using hc
       exact crt_off_of cnew10 (zlt g hg) (koff g hg)
     have okk12 := (okk10.grown hst.1 (fun g e => by cases e; exact xk _ (Nat.lt_of_lt_of_le (zlt _ hKBo) zs5))).below f12
     have KB12 := hst.2.2.1.below f12
     have e11 := er.trans (e10.mono er.size)
     have e12 := below_only e11 hst.1 e11.size (Nat.le_refl _)
     have e13 := (e12.trans (f12.mono e12.size)).grown g13 (e12.trans (f12.mono e12.size)).size (fun j hj => by have := (zown j hj).1; omega)
     have hKB13 := KB12.grown g13 (fun e => by have := (zown _ e).1; omega)
     have hfin : Hid ((cs ++ [cx]).map Crt.say ++ ladderB (rungs.drop (i + 1)) (forKey (digest tb)) 3 = ladderB rungs ks ke) := by
      show _ = _
      rw [← hsay.out, lad_more hr (by rw [show i + 1 = j by have := HJ.out; omega]; exact hu), List.map_append, List.append_assoc, ← HS.out.1, ← HT.out]
      rfl
     go_roundw
     case rel =>
      refine ⟨i + 1, cs ++ [cx], Ak, ck, 3, forKey (digest tb), by go_num, by omega, by rw [crtCells_snoc]; exact own13, by simp [hcl], hfin, fun c hc => (okc c hc).grown g13 fun g e => offc c hc g (.inr e), fun c hc g hg => ?_, by rw [forKey_len]; exact hKB13, okk12.grown g13 (fun g e => xk g (Nat.lt_of_lt_of_le (zown g e).2 zs5)), fun g hg => ?_, by rw [forKey_len]; omega, by omega, e13⟩
      ·rcases hg with hg | hg
       ·exact offc c hc g (.inl hg)
       ·rcases b13 with h | h
        ·rw [h] at hg
         exact offc c hc g (.inr hg)
        ·rw [h] at hg
         cases hg
         exact (okc c hc).off (Nat.le_refl _)
      ·rcases hg with hg | hg
       ·exact xk g (Nat.lt_of_lt_of_le (zlt g (.inl hg)) zs5)
       ·rcases b13 with h | h
        ·rw [h] at hg
         exact xk g (Nat.lt_of_lt_of_le (zlt g (.inr hg)) zs5)
        ·rw [h] at hg
         cases hg
         exact Off.new okk12.rd (Nat.le_refl _)
     case measure =>
      simp [intOf]
      omega
    ·have z9 : ¬ (i : Int) + 1 < (rungs.length : Int) := by omega
     go_upto_region 11 with fail
     have C8 := C7
     have e8 := e7
     have cok8 := cok7
     have K8 := K7
     have okk8 := okk7
     have coff8 := coff4
     have cnew8 := cnew4
     clear C7 e7 cok7 K7 okk7 coff4 cnew4 oks7
     generalize W7 = W8 at *
     have ccb := certB_ok tlim cok8.sig.lim tl (by show c0.sig.xs.length ≤ 1000; rw [HC.out.2.2]; decide)
     obtain ⟨cl1, cl2⟩ := ccb
     have k11 : W8.cell? ⟨g8, 1, none⟩ = some (.slice A3 tb.length c3) := C8.cell (i := 1) rfl
     have k19 : W8.cell? ⟨g8, 19, none⟩ = some (.slice c0.sig.A c0.sig.xs.length c0.sig.c) := C8.cell (i := 19) rfl
     go_wp2_with fail
     have hcq := refCert_any A3 c0.sig.A tb.length c0.sig.xs.length c3 c0.sig.c tb c0.sig.xs W8 rfl rfl (by omega) (by rw [HC.out.2.2]; decide) cok8.tbs.rd cok8.sig.rd
     refine hcq.mono ?_
     clear hcq
     rintro r' W9 ⟨A9, c9, rfl, n9, m9, o9, e9⟩
     have C9 := C8.below e9
     have cok9 := cok8.below e9
     have K9 := K8.below e9
     have okk9 := okk8.below e9
     have x9 : ∀ g, g < W8.heap.size → Off A9 (certB tb c0.sig.xs) g := fun g hg => off_of_own o9 hg
     have hg8l9 := C8.lt
     have o9 := o9.rd
     have e9 := e8.trans (e9.mono e8.size)
     have k0 : W9.cell? ⟨g8, 0, none⟩ = some c0.raw.val := C9.cell (i := 0) rfl
     have f0 : W9.frozen? ⟨g8, 0, none⟩ = false := C9.frozen (i := 0) rfl
     go_upto_region 12 with fail
     have C10 : Cut (W9.setCell ⟨g8, 0, none⟩ (.slice A9 (certB tb c0.sig.xs).length c9)) g8 0 { c0 with raw := ⟨A9, c9, certB tb c0.sig.xs⟩, tbs := ⟨A3, c3, tb⟩ : Crt }.cells := C9.set (i := 0) (v := c0.raw.val) rfl (.slice A9 (certB tb c0.sig.xs).length c9)
     have gr10 : W9.grownBy (W9.setCell ⟨g8, 0, none⟩ (.slice A9 (certB tb c0.sig.xs).length c9)) (some g8) := only_set (only_refl _ _) (Or.inl rfl) _
     have e10 : Below wr.heap.size wr (W9.setCell ⟨g8, 0, none⟩ (.slice A9 (certB tb c0.sig.xs).length c9)) := e9.setCell hg8r _
     have q10 := cok9.grown gr10 (fun g e => by cases e; exact coff8)
     have cok10 : Crt.ok (W9.setCell ⟨g8, 0, none⟩ (.slice A9 (certB tb c0.sig.xs).length c9)) { c0 with raw := ⟨A9, c9, certB tb c0.sig.xs⟩, tbs := ⟨A3, c3, tb⟩ : Crt } := ⟨⟨o9.grown gr10 (fun g e => by cases e; exact x9 _ hg8l9), cl2, n9, m9⟩, q10.tbs, q10.issuer, q10.subject, q10.serial, q10.key, q10.sig, q10.frm, q10.til, q10.e⟩
     have K10 := K9.far (p := ⟨g8, 0, none⟩) (by show g9 ≠ g8; omega) (.slice A9 (certB tb c0.sig.xs).length c9)
     have okk10 := okk9.grown gr10 (fun g e => by cases e; exact xk _ hg8l5)
     have cnew10 : CrtNew wr.heap.size { c0 with raw := ⟨A9, c9, certB tb c0.sig.xs⟩, tbs := ⟨A3, c3, tb⟩ : Crt } := fun s hs g hg => by
      simp only [List.mem_cons, List.not_mem_nil, or_false] at hs
      rcases hs with rfl | rfl | rfl | rfl | rfl | rfl
      ·exact x9 g (Nat.lt_of_lt_of_le hg e8.size)
      all_goals exact cnew8 _ (by simp) g hg
     have HS : Hid ({ c0 with raw := ⟨A9, c9, certB tb c0.sig.xs⟩, tbs := ⟨A3, c3, tb⟩ : Crt }.say = rungDone (rungSay r u ks' ke') false ∧ { c0 with raw := ⟨A9, c9, certB tb c0.sig.xs⟩, tbs := ⟨A3, c3, tb⟩ : Crt }.key = ⟨kA', kc', ks'⟩) := by
      refine And.intro ?_ HC.out.2.1
      show { c0.say with raw := certB tb c0.sig.xs, tbs := tb, sig := c0.sig.xs } = _
      rw [HC.out.1, HC.out.2.2]
      unfold rungDone
      rw [HT.out]
      rfl
     clear k0 f0 k11 k19 C9 cok9 K9 okk9 gr10 q10 o9 coff8 cnew8 C8 cok8 K8 okk8
     generalize W9.setCell ⟨g8, 0, none⟩ (.slice A9 (certB tb c0.sig.xs).length c9) = W10 at *
     have KBx : Cut W10 w.heap.size 0 [.slice kA' ks'.length kc', .int .u64 (ke' : Int)] := KBr.below e10
     generalize { c0 with raw := ⟨A9, c9, certB tb c0.sig.xs⟩, tbs := ⟨A3, c3, tb⟩ : Crt } = cx at *
     have hg8ne : g8 ≠ w.heap.size := by have := KBr.lt; omega
     go_upto_region 13 with (first
      | (refine wpList_load_mid rfl 28 (.tmp 9) rfl g9 0 rfl [.slice Ak 256 ck, .int .u64 3] _ K10.range Tryz.underlying28 rfl size_key ?_)
      | (refine wpList_store_cut rfl 28 (.tmp 3) (.tmp 88) rfl w.heap.size 0 [.slice Ak 256 ck, .int .u64 3] _ rfl rfl KBx rfl size_key (fun v hv => by simp at hv; rcases hv with rfl | rfl <;> rfl) ?_; intro W11 hst; have C11 := C10.grown hst.1 (by intro e; cases e; exact hg8ne rfl)))
     have zr := KBr.lt
     have zown : ∀ k, u5.ownBlock = some k → w1.heap.size ≤ k ∧ k < wr.heap.size := hown.lt
     have own11 : W11.ownsRow w1.heap.size 30 24 u5 i (crtCells cs) := by
      refine row_keep (row_keep hown fun k hk => e10.block k (zown k hk).2) fun k hk => ?_
      refine hst.1.block k (Nat.lt_of_lt_of_le (zown k hk).2 e10.size) ?_
      have zk := (zown k hk).1
      intro e
      injection e with e
      omega
     have f12 : Below W11.heap.size W11 (W11.alloc (.cells cx.cells.toArray 30)) := (Below.refl _ _).alloc (Nat.le_refl _) _
     have own12 := own11.alloc (.cells cx.cells.toArray 30)
     have zsz := hst.2.1
     have z10 := e10.size
     have zer := er.size
     have z12 := f12.size
     have bz12 : w1.heap.size ≤ (W11.alloc (.cells cx.cells.toArray 30)).heap.size := by omega
     go_wp2_with (first
      | (refine wpList_load_mid rfl 30 (.tmp 8) rfl g8 0 rfl cx.cells _ C11.range Tryz.underlying30 rfl sz_cert ?_)
      | (refine wpList_build_cert rfl (.tmp 90) rfl cx rfl ?_)
      | (at_builtin; (refine wpList_append_V rfl (.tmp 89) (.tmp 91) _ rfl w1.heap.size 30 (.agg Crt.none.cells.toArray) 24 224 Tryz.underlying31 info_cert rfl (by decide) u5 i (crtCells cs) rfl own12 ⟨W11.heap.size, 0, none⟩ 1 1 cx.cells rfl rfl new_at (crt_one cx) (by simp only [maxLen]; omega) (by omega) bz12 ?_; intro v13 W13 own13 g13 b13)))
     have zs5 : wr.heap.size ≤ W5.heap.size := w5s
     have koff : ∀ g, (g ≤ w.heap.size ∧ Off kA ks g) ∨ u5.ownBlock = some g → Off cx.key.A cx.key.xs g := fun g hg => by
      rw [HS.out.2]
      exact hkoff g hg
     have zlt : ∀ g, (g ≤ w.heap.size ∧ Off kA ks g) ∨ u5.ownBlock = some g → g < wr.heap.size := fun g hg => by
      rcases hg with h | h
      ·omega
      ·exact (zown g h).2
     have hKBo : (w.heap.size ≤ w.heap.size ∧ Off kA ks w.heap.size) ∨ u5.ownBlock = some w.heap.size := .inl ⟨Nat.le_refl _, hkO⟩
     have okc : ∀ c ∈ cs ++ [cx], Crt.ok (W11.alloc (.cells cx.cells.toArray 30)) c := fun c hc => by
      rcases List.mem_append.1 hc with hc | hc
      ·exact ((((hcok c hc).below e10).grown hst.1 (fun g e => by cases e; exact hcoff c hc _ hKBo)).below f12)
      ·obtain rfl : c = cx := by simpa using hc
       exact ((cok10.grown hst.1 (fun g e => by cases e; exact crt_off_of cnew10 (zlt _ hKBo) (koff _ hKBo))).below f12)
     have offc : ∀ c ∈ cs ++ [cx], ∀ g, (g ≤ w.heap.size ∧ Off kA ks g) ∨ u5.ownBlock = some g → CrtOff c g := fun c hc g hg => by
      rcases List.mem_append.1 hc with hc | hc
      ·exact hcoff c hc g hg
      ·obtain rfl : c = cx := by simpa using hc
       exact crt_off_of cnew10 (zlt g hg) (koff g hg)
     have okk12 := (okk10.grown hst.1 (fun g e => by cases e; exact xk _ (Nat.lt_of_lt_of_le (zlt _ hKBo) zs5))).below f12
     have KB12 := hst.2.2.1.below f12
     have e11 := er.trans (e10.mono er.size)
     have e12 := below_only e11 hst.1 e11.size (Nat.le_refl _)
     have e13 := (e12.trans (f12.mono e12.size)).grown g13 (e12.trans (f12.mono e12.size)).size (fun j hj => by have := (zown j hj).1; omega)
     have hKB13 := KB12.grown g13 (fun e => by have := (zown _ e).1; omega)
     have hfin : Hid ((cs ++ [cx]).map Crt.say ++ ladderB (rungs.drop (i + 1)) (forKey (digest tb)) 3 = ladderB rungs ks ke) := by
      show _ = _
      have hru : u = r := by
       have e : j = i := by have := HJ.out; omega
       rw [e, hr] at hu
       injection hu with hu
       exact hu.symm
      have hs1 := HS.out.1
      rw [hru] at hs1
      rw [← hsay.out, lad_last (r := r) (ks' := forKey (digest tb)) (ke' := 3) hr (by omega), List.map_append, List.append_assoc, ← hs1]
      rfl
     go_roundw
     case rel =>
      refine ⟨i + 1, cs ++ [cx], Ak, ck, 3, forKey (digest tb), by go_num, by omega, by rw [crtCells_snoc]; exact own13, by simp [hcl], hfin, fun c hc => (okc c hc).grown g13 fun g e => offc c hc g (.inr e), fun c hc g hg => ?_, by rw [forKey_len]; exact hKB13, okk12.grown g13 (fun g e => xk g (Nat.lt_of_lt_of_le (zown g e).2 zs5)), fun g hg => ?_, by rw [forKey_len]; omega, by omega, e13⟩
      ·rcases hg with hg | hg
       ·exact offc c hc g (.inl hg)
       ·rcases b13 with h | h
        ·rw [h] at hg
         exact offc c hc g (.inr hg)
        ·rw [h] at hg
         cases hg
         exact (okc c hc).off (Nat.le_refl _)
      ·rcases hg with hg | hg
       ·exact xk g (Nat.lt_of_lt_of_le (zlt g (.inl hg)) zs5)
       ·rcases b13 with h | h
        ·rw [h] at hg
         exact xk g (Nat.lt_of_lt_of_le (zlt g (.inr hg)) zs5)
        ·rw [h] at hg
         cases hg
         exact Off.new okk12.rd (Nat.le_refl _)
     case measure =>
      simp [intOf]
      omega
  ·obtain rfl : i = rungs.length := by omega
   have z9 : ¬ (rungs.length : Int) < (rungs.length : Int) := by omega
   go_wp2
   go_ret
   refine ⟨cs, u5, rfl, row_mono hown (by omega), hcl, ?_, hcok, fun c hc g hg => ?_, er⟩
   ·have h := hsay.out
    rw [List.drop_length, ladderB, List.append_nil] at h
    exact h
   ·rcases hg with ⟨h1, h2⟩ | h
    ·exact hcoff c hc g (.inl ⟨by omega, h2⟩)
    ·exact hcoff c hc g (.inr h)
theorem RungOk.toW {r : Rung} (h : RungOk r) : RungW r := ⟨h.name, h.serial, h.code, by rw [h.path]; decide, by rw [h.usage]; decide⟩
theorem ladder_any (gl ol n lc : Nat) (A : Option Addr) (rungs : List Rung) (kA : Option Addr) (kc ke : Nat) (ks : List Nat) (w : World) (hn : n = rungs.length) (hn20 : n ≤ 20) (hA : n = 0 ∨ A = some ⟨gl, ol, none⟩) (hR : Row w gl ol (rungCells rungs)) (hO : ∀ r ∈ rungs, RungOk r)
  (hk : Sl.ok w ⟨kA, kc, ks⟩) (hkl : ks.length ≤ 600) (he : ke < 18446744073709551616) :
  Calls Tryz.prog 68 #[.slice A n lc, .agg [.slice kA ks.length kc, .int .u64 (ke : Int)].toArray] w (LadPost rungs kA ks ke w) :=
 ladder_told gl ol n lc A rungs kA kc ke ks w hn hn20 hA hR (fun r hr => (hO r hr).toW) hk hkl he
end Go.Proofs.YtchaahnhpeoomaaGreat
