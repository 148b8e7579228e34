/-
 What chain.Find keeps while it goes on; laws at its operations.
-/
import Derived.Test.YtchaahnhpeoomaaGreatPChH
import Derived.Maps.RangeWalk
namespace Go.Proofs.YtchaahnhpeoomaaGreat
set_option linter.unusedVariables false
set_option linter.unusedSimpArgs false
set_option maxRecDepth 20000
open Go.RowKit
theorem wpList_store_one {ops : Array Oper} {rest : List Oper} {o : Oper} {a : Act} {w : World} {Q : Exit → Act → World → Prop} (hgd : o.guard = none) (ty : TypeId) (x y : Operand) (ho : o.op = .store ty x y) (g : Nat) (v u : Value) (hx : a.eval x = .pointer (some ⟨g, 0, none⟩)) (hy : a.eval y = v) (hc : Cut w g 0 [u])
  (hrun : ∀ W : World, W.cell? ⟨g, 0, none⟩ = some u → W.frozen? ⟨g, 0, none⟩ = false → (Instr.storeAt ty (.pointer (some ⟨g, 0, none⟩)) v).run Tryz.prog W = .ok () (W.setCell ⟨g, 0, none⟩ v))
  (h : ∀ w', w.grownBy w' (some g) → w'.heap.size = w.heap.size → Cut w' g 0 [v] → wpList Tryz.prog ops Q rest (a.put o.dst undef) w') : wpList Tryz.prog ops Q (o :: rest) a w := by
 refine wpList_plain hgd fun K hK => ?_
 have k := hc.cell (i := 0) rfl
 have f := hc.frozen (i := 0) rfl
 rw [Nat.zero_add] at k f
 unfold Oper.wp execOp
 simp only [ho, hx, hy, Sem.run_bind, Sem.run_pure, hrun w k f, Result.andThen_ok]
 have hs := hc.set (i := 0) rfl v
 rw [Nat.zero_add] at hs
 exact hK _ _ (h _ (only_set (only_refl w _) (.inl rfl) _) (by simp) hs)
theorem sto_ptr (g : Nat) (p : Option Addr) (u : Value) : ∀ W : World, W.cell? ⟨g, 0, none⟩ = some u → W.frozen? ⟨g, 0, none⟩ = false → (Instr.storeAt 95 (.pointer (some ⟨g, 0, none⟩)) (.pointer p)).run Tryz.prog W = .ok () (W.setCell ⟨g, 0, none⟩ (.pointer p)) := fun W k f => by go_simp
theorem sto_fn (g : Nat) (fn : Fn) (x y : Array Value) (u : Value) : ∀ W : World, W.cell? ⟨g, 0, none⟩ = some u → W.frozen? ⟨g, 0, none⟩ = false → (Instr.storeAt 90 (.pointer (some ⟨g, 0, none⟩)) (.func fn x y)).run Tryz.prog W = .ok () (W.setCell ⟨g, 0, none⟩ (.func fn x y)) := fun W k f => by
 go_simp
 rw [run_store _ _ _ _ _ rfl]
 simp [stored, k, f]
theorem zero_hp : (Tryz.prog.info? 95).map (fun i => i.zero) = some (some (.pointer none)) := by kernel_rfl
theorem zero_fn : (Tryz.prog.info? 90).map (fun i => i.zero) = some (some .nilFunc) := by kernel_rfl
theorem slice_lv (g : Nat) (W : World) : (Instr.sliceAt 98 (.pointer (some ⟨g, 0, none⟩)) none none none).run Tryz.prog W = .ok (.slice (some ⟨g, 0, none⟩) 8 8) W := by go_simp
theorem fn_nil (f : Nat) (x y : Array Value) (W : World) : (binOp .eql 41 (.func (.func f) x y) .nilFunc).run Tryz.prog W = .ok (.bool false) W := by kernel_rfl
theorem ia_lv0 (g k : Nat) (hk : k < 8) (W : World) : (Instr.indexAt 98 (.pointer (some ⟨g, 0, none⟩)) (.int .i64 (k : Int))).run Tryz.prog W = .ok (.pointer (some ⟨g, k, none⟩)) W := by
 have h1 : (0 : Int) ≤ (k : Int) ∧ (k : Int) < 8 := by omega
 have h2 : (k : Int) < 8 := by omega
 go_simp
theorem idxS_range (p : Nat → Bool) : idxS p (List.range 8) = match (List.range 8).find? p with | some i => (i : Int) | none => -1 := by
 have h : (List.range 8).findIdx? p = (List.range 8).find? p := by
  cases hf : (List.range 8).find? p with
  | none =>
   rw [List.findIdx?_eq_none_iff]
   intro x hx
   rw [List.find?_eq_none] at hf
   simpa using hf x hx
  | some i =>
   rw [List.find?_range_eq_some] at hf
   obtain ⟨h1, h2, h3⟩ := hf
   have h2 : i < 8 := by simpa using h2
   rw [List.findIdx?_eq_some_iff_getElem]
   exact ⟨by simpa using h2, by simpa using h1, fun j hj => by simpa using h3 j hj⟩
 unfold idxS
 rw [h]
 cases (List.range 8).find? p <;> rfl
def gdQ (lf : Crt) (cs : List Crt) (tr : Crt → Bool) (l : Nat) : Nat → Int → Bool
 | 0, i => tr (atC lf cs i)
 | d + 1, i => ((hse lf cs).good tr l d).any fun p => sgAt lf cs i p
def gdP (lf : Crt) (cs : List Crt) (tr : Crt → Bool) (l d ix : Nat) : List Int := (((hse lf cs).lvl (l - d)).take ix).filter (gdQ lf cs tr l d)
theorem gdP_all {lf : Crt} {cs : List Crt} {tr : Crt → Bool} {l d : Nat} : gdP lf cs tr l d ((hse lf cs).lvl (l - d)).length = (hse lf cs).good tr l d := by
 unfold gdP
 rw [List.take_length]
 cases d with
 | zero =>
  rw [Chn.House.good]
  rfl
 | succ d =>
  rw [Chn.House.good]
  rfl
theorem gdP_no {lf : Crt} {cs : List Crt} {tr : Crt → Bool} {l d ix : Nat} {i : Int} (h : ((hse lf cs).lvl (l - d))[ix]? = some i) (hq : gdQ lf cs tr l d i = false) : gdP lf cs tr l d (ix + 1) = gdP lf cs tr l d ix := by
 unfold gdP
 rw [List.take_add_one, h, List.filter_append]
 simp [hq]
theorem gdP_yes {lf : Crt} {cs : List Crt} {tr : Crt → Bool} {l d ix : Nat} {i : Int} (h : ((hse lf cs).lvl (l - d))[ix]? = some i) (hq : gdQ lf cs tr l d i = true) : gdP lf cs tr l d (ix + 1) = gdP lf cs tr l d ix ++ [i] := by
 unfold gdP
 rw [List.take_add_one, h, List.filter_append]
 simp [hq]
structure Ff (w0 : World) (lf : Crt) (cs : List Crt) (pA : Option Addr) (pc hb mb : Nat) (F : List (Nat × List Value)) (V : Nat → Value) (B : Nat) (U : World) : Prop where
 hm : Hm w0 lf cs pA pc hb mb U
 rows : ∀ q ∈ F, q.1 < B ∧ q.1 ≠ mb ∧ Row U q.1 0 q.2
 lv : ∀ j, j < 8 → ∃ A c, V j = .slice A ((hse lf cs).lvl j).length c ∧ ((hse lf cs).lvl j = [] ∨ ∃ b, A = some ⟨b, 0, none⟩ ∧ b < B ∧ b ≠ mb ∧ Row U b 0 (((hse lf cs).lvl j).map intV))
 hB : hb < B
 mB : mb < B
section
variable {w0 U U' : World} {lf : Crt} {cs : List Crt} {pA : Option Addr} {pc hb mb B : Nat} {F : List (Nat × List Value)} {V : Nat → Value}
theorem Ff.new (h : Ff w0 lf cs pA pc hb mb F V B U) {r : Option Nat} (g : U.grownBy U' r) (hr : ∀ b, r = some b → B ≤ b) : Ff w0 lf cs pA pc hb mb F V B U' := by
 have keep : ∀ {q : Nat} {vs : List Value}, q < B → Row U q 0 vs → Row U' q 0 vs := fun {q vs} hq hrow => hrow.keep g.size (g.block q hrow.1 (fun e => by have := hr q e.symm; omega))
 have h1 := h.hm.below
 have h2 := h.hm.hn
 refine ⟨⟨⟨g.os.trans h1.os, g.tape.trans h1.tape, g.output.trans h1.output, Nat.le_trans h1.size g.size, fun k hk => (g.block k (Nat.lt_of_lt_of_le hk h1.size) (fun e => by have := hr k e.symm; have := h.hB; omega)).trans (h1.block k hk)⟩, keep h.hB h.hm.row, h.hm.hn, h.hm.mn, h.hm.ne, h.hm.tbl.kept (g.block mb h.hm.tbl.lt (fun e => by have := hr mb e.symm; have := h.mB; omega))⟩, fun q hq => ?_, fun j hj => ?_, h.hB, h.mB⟩
 ·obtain ⟨a, b, c⟩ := h.rows q hq
  exact ⟨a, b, keep a c⟩
 ·obtain ⟨A, c, e, hl⟩ := h.lv j hj
  exact ⟨A, c, e, hl.imp id fun ⟨b, e1, e2, e3, e4⟩ => ⟨b, e1, e2, e3, keep e2 e4⟩⟩
theorem Ff.below (h : Ff w0 lf cs pA pc hb mb F V B U) (g : Below U.heap.size U U') : Ff w0 lf cs pA pc hb mb F V B U' := h.new (only_of_below g none) fun b e => by cases e
theorem Ff.clo (h : Ff w0 lf cs pA pc hb mb F V B U) (q : CloI (sgAt lf cs) mb U U') : Ff w0 lf cs pA pc hb mb F V B U' :=
 ⟨q.hm h.hm, fun x hx => ⟨(h.rows x hx).1, (h.rows x hx).2.1, q.row (h.rows x hx).2.2 (h.rows x hx).2.1⟩, fun j hj => by
  obtain ⟨A, c, e, hl⟩ := h.lv j hj
  exact ⟨A, c, e, hl.imp id fun ⟨b, e1, e2, e3, e4⟩ => ⟨b, e1, e2, e3, q.row e4 e3⟩⟩, h.hB, h.mB⟩
theorem Ff.get (h : Ff w0 lf cs pA pc hb mb F V B U) {g : Nat} {vs : List Value} (hq : (g, vs) ∈ F) : Row U g 0 vs := (h.rows _ hq).2.2
theorem Ff.ne (h : Ff w0 lf cs pA pc hb mb F V B U) {g : Nat} {vs : List Value} (hq : (g, vs) ∈ F) : g ≠ mb := (h.rows _ hq).2.1
theorem Ff.rdI (h : Ff w0 lf cs pA pc hb mb F V B U) {j : Nat} (hj : j < 8) : ∃ A c, V j = .slice A ((hse lf cs).lvl j).length c ∧ ∀ W, Ff w0 lf cs pA pc hb mb F V B W → RdI W A ((hse lf cs).lvl j) := by
 obtain ⟨A, c, e, hl⟩ := h.lv j hj
 refine ⟨A, c, e, fun W hW => ?_⟩
 obtain ⟨A', c', e', hl'⟩ := hW.lv j hj
 rw [e] at e'
 cases e'
 exact hl'.imp id fun ⟨b, e1, e2, e3, e4⟩ => ⟨b, 0, e1, e4⟩
end
def gdG (Fp : World → Prop) (B g2 g7 k : Nat) (i : Int) (V : Nat → Value) (L : Nat → List Int) (w9 : World) (d : Nat → Bool) (v : Nat → Value) (W : World) : Prop := match d 5, d 6, d 8 with
 | false, false, false => Below w9.heap.size w9 W ∧ W.heap.size = g7
 | true, false, false => Below w9.heap.size w9 W ∧ W.cell? ⟨g7, 0, none⟩ = some (.int .i64 i)
 | true, true, false => ∃ U, Below w9.heap.size w9 U ∧ W.ownsRow B 3 1 (v 6) (L k ++ [i]).length ((L k ++ [i]).map intV) ∧ U.grownBy W (V k).ownBlock ∧ ((v 6).ownBlock = (V k).ownBlock ∨ (v 6).ownBlock = some U.heap.size)
 | true, true, true => Lv W B g2 (put1 V k (v 6)) (put1 L k (L k ++ [i])) ∧ Fp W
 | _, _, _ => False
theorem gdG_g {Fp : World → Prop} {B g2 g7 k : Nat} {i : Int} {V : Nat → Value} {L : Nat → List Int} {w9 W : World} {d : Nat → Bool} {v : Nat → Value} (h6 : d 6 = false) (h : gdG Fp B g2 g7 k i V L w9 d v W) : Below w9.heap.size w9 W := by
 unfold gdG at h
 rw [h6] at h
 cases h5 : d 5 <;> cases h8 : d 8 <;> rw [h5, h8] at h
 ·exact h.1
 ·exact h.elim
 ·exact h.1
 ·exact h.elim
theorem gdG_f {Fp : World → Prop} {B g2 g7 k : Nat} {i : Int} {V : Nat → Value} {L : Nat → List Int} {w9 W : World} {d : Nat → Bool} {v : Nat → Value} (h5 : d 5 = false) (h : gdG Fp B g2 g7 k i V L w9 d v W) : Below w9.heap.size w9 W ∧ W.heap.size = g7 := by
 unfold gdG at h
 rw [h5] at h
 cases h6 : d 6 <;> cases h8 : d 8 <;> rw [h6, h8] at h
 ·exact h
 ·exact h.elim
 ·exact h.elim
 ·exact h.elim
def gdT (g2 g7 k : Nat) (i : Int) (vk : Value) : Nat → Tg
 | 0 => tv (.int .i64 (k : Int))
 | 1 => tv (.int .i64 (k : Int))
 | 2 => tv (.pointer (some ⟨g2, k, none⟩))
 | 3 => tv vk
 | 4 => tv (.int .i64 i)
 | 5 => tv (.slice (some ⟨g7, 0, none⟩) 1 1)
 | 7 => tv (.pointer (some ⟨g2, k, none⟩))
 | _ => fun _ _ => True
theorem stat_gd (g2 g7 k : Nat) (i : Int) (vk : Value) : Static (gdT g2 g7 k i vk) := fun j x W W' h => by
 unfold gdT at *
 split at h <;> exact h
end Go.Proofs.YtchaahnhpeoomaaGreat
