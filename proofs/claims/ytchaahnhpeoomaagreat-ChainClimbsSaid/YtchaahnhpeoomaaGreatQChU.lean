/-
  For the walks of Chain: Find, Reach, Same and Signed as steps of drawn regions, rows of certificates as tags.
-/
import Derived.Test.YtchaahnhpeoomaaGreatQChJ
namespace Go.Proofs.YtchaahnhpeoomaaGreat
set_option linter.unusedVariables false
set_option linter.unusedSimpArgs false
set_option maxRecDepth 20000
open Go.RowKit
theorem cf_same12 (vs : Array Value) (w : World) : (callFunc 34 vs).run Tryz.prog w = .ok (.enter 34 vs) w := by kernel_rfl
def Crs (W : World) (A : Option Addr) (cs : List Crt) : Prop := cs = [] ∨ ∃ g o, A = some ⟨g, o, none⟩ ∧ Row W g o (crtCells cs)
theorem Crs.below {W W' : World} {A : Option Addr} {cs : List Crt} (h : Crs W A cs) (hb : Below W.heap.size W W') : Crs W' A cs := h.imp id fun ⟨g, o, h1, h2⟩ => ⟨g, o, h1, h2.below hb⟩
def smT (ga oa gb ob n cA cB ix : Nat) (c d : Crt) (p : Bool) : Nat → Tg
 | 0 => tv (.slice (some ⟨ga, oa, none⟩) n cA)
 | 1 => tv (.int .i64 (ix : Int))
 | 2 => tv (.pointer (some ⟨ga, oa + ix * 24, none⟩))
 | 3 => tv (.agg c.cells.toArray)
 | 4 => tv (.slice (some ⟨gb, ob, none⟩) n cB)
 | 5 => tv (.int .i64 (ix : Int))
 | 6 => tv (.pointer (some ⟨gb, ob + ix * 24, none⟩))
 | 7 => tv (.agg d.cells.toArray)
 | 8 => tv (.bool p)
 | _ => tv (.bool !p)
theorem rg27 : List.range 27 = [0, 1, 2, 3, 4, 5, 6, 7, 8, 9, 10, 11, 12, 13, 14, 15, 16, 17, 18, 19, 20, 21, 22, 23, 24, 25, 26] := rfl
set_option maxRecDepth 100000 in
set_option maxHeartbeats 4000000 in
theorem same13_any {W : World} {A B : Option Addr} {cA cB : Nat} {cs ds : List Crt} (hA : Crs W A cs) (hB : Crs W B ds) (hcok : ∀ c ∈ cs, c.ok W) (hdok : ∀ c ∈ ds, c.ok W) (hl : cs.length ≤ 1000000) :
  Calls Tryz.prog 26 #[.slice A cs.length cA, .slice B ds.length cB] W (RetW (decide (cs.map Crt.say = ds.map Crt.say)) W) := by
 have hcl := hl
 by_cases hne : cs.length = ds.length
 case neg =>
  have hno : decide (cs.map Crt.say = ds.map Crt.say) = false := decide_eq_false fun h => hne (by have := congrArg List.length h; simpa using this)
  rw [hno]
  clear hno
  have z0 : ((cs.length : Int) == (ds.length : Int)) = false := by simp; omega
  have hne : ¬ cs.length = ds.length := hne
  go_enter Tryz.func26, Tryz.ntmps26
  go_wp2_with fail
  go_ret
  exact ⟨rfl, Below.refl _ _⟩
 obtain ⟨bs, hbs⟩ : ∃ b, b = decide (cs.map Crt.say = ds.map Crt.say) := ⟨_, rfl⟩
 rw [← hbs]
 replace hbs := Lib.hid hbs
 obtain ⟨m, hm⟩ : ∃ m, m = ds.length := ⟨_, rfl⟩
 rw [← hm] at hne ⊢
 subst hne
 replace hm := Lib.hid hm
 go_enter Tryz.func26, Tryz.ntmps26
 go_wp2_with fail
 go_loopw [5] (fun t wr => ∃ ix : Nat, t = .int .i64 (ix : Int) ∧ ix ≤ cs.length ∧ (cs.take ix).map Crt.say = (ds.take ix).map Crt.say ∧ Below W.heap.size W wr) (fun t _ => cs.length - (intOf t).toNat)
 case atStart => exact ⟨0, rfl, Nat.zero_le _, rfl, Below.refl _ _⟩
 case round =>
  obtain ⟨ix, rfl, hi, hno, er⟩ := hrel
  replace hno := Lib.hid hno
  have z6 : (ix : Int) ≤ 1000000 := by omega
  by_cases hlt : ix < cs.length
  ·have z1 : (ix : Int) < (cs.length : Int) := by omega
   have hld : ix < ds.length := by rw [← hm.out]; exact hlt
   obtain ⟨c, hc⟩ : ∃ c, cs[ix]? = some c := ⟨_, List.getElem?_eq_getElem hlt⟩
   obtain ⟨d, hd⟩ : ∃ d, ds[ix]? = some d := ⟨_, List.getElem?_eq_getElem hld⟩
   obtain ⟨ga, oa, rfl, Ra⟩ := hA.resolve_left (by rintro rfl; simp at hlt)
   obtain ⟨gb, ob, rfl, Rb⟩ := hB.resolve_left (by rintro rfl; simp at hld)
   have Rc := crt_row Ra hc
   have Rd' := crt_row Rb hd
   have co := hcok c (List.mem_of_getElem? hc)
   have do' := hdok d (List.mem_of_getElem? hd)
   go_upto_region 6 with fail
   obtain ⟨p, hp⟩ : ∃ p, p = decide (c.say = d.say) := ⟨_, rfl⟩
   replace hp := Lib.hid hp
   have hd0 : Below wr.heap.size wr wr.drew := below_drewN (Below.refl _ _) 1
   refine wp_region_steps (by kernel_rfl) (fun i => 17 + i) (fun i v W => Sp ((smT ga oa gb ob cs.length cA cB ix c d p) i) v W) (fun W => Below wr.heap.size wr W) (by kernel_rfl) (by kernel_rfl) ?inj ?lt (fun i v W W' h hs => h.mono hs) hd0 ⟨?s0, ?s1, ?s2, ?s3, ?s4, ?s5, ?s6, ?s7, ?s8, ?s9, trivial⟩ ?fin
   case inj =>
    intro i j hi hj h
    have h40 : i < 10 ∧ j < 10 := ⟨hi, hj⟩
    have h : 17 + i = 17 + j := h
    omega
   case lt =>
    intro i hi
    have h40 : i < 10 := hi
    show 17 + i < 27
    omega
   case s0 => exact (st_move rfl (.inl rfl) (src_base (fun i hi => by have hi : i < 10 := hi; show 17 + i ≠ _; omega) rfl))
   case s1 => exact (st_move rfl (.inl rfl) (src_base (fun i hi => by have hi : i < 10 := hi; show 17 + i ≠ _; omega) rfl))
   case s2 => exact (st_index rfl rfl rfl (src_dep (j := 0) (e := ⟨0, .data⟩) (by simp) rfl rfl rfl) (src_dep (j := 1) (e := ⟨1, .data⟩) (by simp) rfl rfl rfl) (fun W => ia_cert ga oa cs.length cA ix hlt W))
   case s3 => exact (st_loadR (b := ga) (off := (oa + ix * 24)) rfl rfl rfl (src_dep (j := 2) (e := ⟨2, .data⟩) (by simp) rfl rfl rfl) Tryz.underlying30 rfl (sz_crt _) (fun W h => (Rc.below (er.trans (h.mono er.size))).rng))
   case s4 => exact (st_move rfl (.inl rfl) (src_base (fun i hi => by have hi : i < 10 := hi; show 17 + i ≠ _; omega) rfl))
   case s5 => exact (st_move rfl (.inl rfl) (src_base (fun i hi => by have hi : i < 10 := hi; show 17 + i ≠ _; omega) rfl))
   case s6 => exact (st_index rfl rfl rfl (src_dep (j := 4) (e := ⟨4, .data⟩) (by simp) rfl rfl rfl) (src_dep (j := 5) (e := ⟨5, .data⟩) (by simp) rfl rfl rfl) (fun W => ia_cert gb ob cs.length cB ix hlt W))
   case s7 => exact (st_loadR (b := gb) (off := (ob + ix * 24)) rfl rfl rfl (src_dep (j := 6) (e := ⟨6, .data⟩) (by simp) rfl rfl rfl) Tryz.underlying30 rfl (sz_crt _) (fun W h => (Rd'.below (er.trans (h.mono er.size))).rng))
   case s8 => exact (st_call rfl (fun a W => run_call rfl cf_same12 a W) (fun a W hb hd h => by
     have h1 : a.eval (.tmp 20) = c.val := (hd ⟨3, .data⟩ (by simp) rfl).now
     have h2 : a.eval (.tmp 24) = d.val := (hd ⟨7, .data⟩ (by simp) rfl).now
     simp only [List.map_toArray, List.map_cons, List.map_nil, h1, h2]
     refine (sameC_any c d W (co.below (er.trans (h.mono er.size))) (do'.below (er.trans (h.mono er.size)))).mono ?_
     rintro e W' ⟨rfl, q⟩
     exact ⟨_, rfl, q, by rw [← hp.out]; exact Sp.tv rfl⟩))
   case s9 => exact (st_pure (V := .bool p) (U := .bool !p) rfl (src_dep (j := 8) (e := ⟨8, .data⟩) (by simp) rfl rfl rfl) (fun a h W => by
     have h : a.eval (.tmp 25) = .bool p := h
     unfold execOp
     simp only [h]
     rfl) (fun W hg => Sp.tv rfl))
   case fin =>
    intro a W2 h1 h2 h3 h4 h5
    have b26 : a.tmps.getD 26 undef = .bool !p := (h4 9 (by show 9 < 10; omega)).now
    have hz : a.tmps.size = 27 := h2
    have hdf : a.defers = [] := h1
    have b0 : a.tmps.getD 0 undef = .slice (some ⟨ga, oa, none⟩) cs.length cA := h3 0 (fun i (h : i < 10) => by show (17 + i) ≠ 0; omega)
    have b1 : a.tmps.getD 1 undef = .slice (some ⟨gb, ob, none⟩) cs.length cB := h3 1 (fun i (h : i < 10) => by show (17 + i) ≠ 1; omega)
    have b2 : a.tmps.getD 2 undef = undef := h3 2 (fun i (h : i < 10) => by show (17 + i) ≠ 2; omega)
    have b3 : a.tmps.getD 3 undef = undef := h3 3 (fun i (h : i < 10) => by show (17 + i) ≠ 3; omega)
    have b5 : a.tmps.getD 5 undef = .int .i64 (ix : Int) := h3 5 (fun i (h : i < 10) => by show (17 + i) ≠ 5; omega)
    have b6 : a.tmps.getD 6 undef = .slice (some ⟨ga, oa, none⟩) cs.length cA := h3 6 (fun i (h : i < 10) => by show (17 + i) ≠ 6; omega)
    have b7 : a.tmps.getD 7 undef = .int .i64 (cs.length : Int) := h3 7 (fun i (h : i < 10) => by show (17 + i) ≠ 7; omega)
    have b8 : a.tmps.getD 8 undef = .slice (some ⟨gb, ob, none⟩) cs.length cB := h3 8 (fun i (h : i < 10) => by show (17 + i) ≠ 8; omega)
    have b9 : a.tmps.getD 9 undef = .int .i64 (cs.length : Int) := h3 9 (fun i (h : i < 10) => by show (17 + i) ≠ 9; omega)
    have b10 : a.tmps.getD 10 undef = .bool false := h3 10 (fun i (h : i < 10) => by show (17 + i) ≠ 10; omega)
    rw [act_eq hz hdf]
    simp only [rg27, List.map_cons, List.map_nil, b0, b1, b2, b3, b5, b6, b7, b8, b9, b10, b26]
    clear b0 b1 b2 b3 b5 b6 b7 b8 b9 b10 b26 hz hdf h1 h2 h3 h4
    have er2 := er.trans (h5.mono er.size)
    have HT := Lib.hid (show cs.take (ix + 1) = cs.take ix ++ [c] by rw [List.take_add_one, hc]; rfl)
    have HU := Lib.hid (show ds.take (ix + 1) = ds.take ix ++ [d] by rw [List.take_add_one, hd]; rfl)
    cases p
    case true =>
     go_wp2_with fail
     go_roundw
     case rel => exact ⟨ix + 1, by go_num, by omega, by rw [HT.out, HU.out, List.map_append, List.map_append, hno.out]; simp [of_decide_eq_true hp.out.symm], er2⟩
     case measure =>
      simp [intOf]
      omega
    case false =>
     have hy : bs = false := by
      rw [hbs.out]
      refine decide_eq_false fun h => of_decide_eq_false hp.out.symm ?_
      have h1 := congrArg (fun l : List Say => l[ix]?) h
      simp [hc, hd] at h1
      exact h1
     replace hy := Lib.hid hy
     go_wp2_with fail
     go_ret
     exact ⟨by rw [hy.out]; rfl, er2⟩
  ·have z1 : ¬ (ix : Int) < (cs.length : Int) := by omega
   have hy : bs = true := by
    obtain rfl : ix = cs.length := by omega
    rw [hbs.out]
    refine decide_eq_true ?_
    have h := hno.out
    rwa [List.take_length, List.take_of_length_le (by rw [← hm.out]; exact Nat.le_refl _)] at h
   replace hy := Lib.hid hy
   go_wp2_with fail
   go_ret
   exact ⟨by rw [hy.out]; rfl, er⟩
theorem fresh_snoc (s l : List Int) (x : Int) : Chn.fresh s (l ++ [x]) = if x ∈ s ∨ x ∈ l then Chn.fresh s l else Chn.fresh s l ++ [x] := by
 induction l generalizing s with
 | nil =>
  simp only [List.nil_append, Chn.fresh, List.not_mem_nil, or_false]
 | cons a l ih =>
  rw [List.cons_append, Chn.fresh, Chn.fresh]
  by_cases ha : a ∈ s
  ·rw [if_pos ha, if_pos ha, ih]
   by_cases hx : x ∈ s ∨ x ∈ l
   ·rw [if_pos hx, if_pos (hx.imp id fun h => List.mem_cons_of_mem _ h)]
   ·rw [if_neg hx, if_neg]
    rintro (h | h)
    ·exact hx (.inl h)
    ·rcases List.mem_cons.1 h with rfl | h
     ·exact hx (.inl ha)
     ·exact hx (.inr h)
  ·rw [if_neg ha, if_neg ha, ih]
   by_cases hx : x ∈ a :: s ∨ x ∈ l
   ·rw [if_pos hx, if_pos]
    rcases hx with h | h
    ·rcases List.mem_cons.1 h with rfl | h
     ·exact .inr (by simp)
     ·exact .inl h
    ·exact .inr (List.mem_cons_of_mem _ h)
   ·rw [if_neg hx, if_neg]
    ·rfl
    ·rintro (h | h)
     ·exact hx (.inl (List.mem_cons_of_mem _ h))
     ·rcases List.mem_cons.1 h with rfl | h
      ·exact hx (.inl (by simp))
      ·exact hx (.inr h)
def LeftM (W : World) (b n : Nat) (S : Int → Bool) : Prop := ∃ D : DataW Unit, W.ownsMap Tryz.prog 3 unitElem b n D ∧ Maps.IsMap D ∧ ∀ i : Int, (Lit.int .i64 i).wf = true → Maps.has D (.int .i64 i) = S i
theorem int_und : Tryz.prog.underlying 3 = some (.int .i64) := by kernel_rfl
theorem left_und : Tryz.prog.underlying 108 = some (.map 3 109) := by kernel_rfl
theorem int_law : Maps.Keyed Tryz.prog 3 := Maps.int_keyed int_und
theorem zero_unit (W : World) : (zeroValue 109).run Tryz.prog W = .ok (.agg #[]) W := by kernel_rfl
section
variable {W W' : World} {b n : Nat} {S : Int → Bool}
theorem LeftM.lt (h : LeftM W b n S) : b < W.heap.size := by
 obtain ⟨D, h1, _⟩ := h
 exact h1.lt
theorem LeftM.kept (h : LeftM W b n S) {r : Option Nat} (g : W.grownBy W' r) (hr : some b ≠ r) : LeftM W' b n S := by
 obtain ⟨D, h1, h2, h3⟩ := h
 exact ⟨D, h1.kept g hr, h2, h3⟩
theorem LeftM.below (h : LeftM W b n S) (g : Below W.heap.size W W') : LeftM W' b n S := h.kept (only_of_below g none) (by simp)
theorem LeftM.made (W : World) : LeftM (W.alloc (.map #[] 0)) W.heap.size 0 (fun _ => false) := ⟨.map [], World.ownsMap_made _ _ _ _, Maps.isMap_empty, fun i _ => rfl⟩
theorem LeftM.ext (h : LeftM W b n S) {S' : Int → Bool} (hS : ∀ i, S i = S' i) : LeftM W b n S' := by
 obtain ⟨D, h1, h2, h3⟩ := h
 exact ⟨D, h1, h2, fun i hi => (h3 i hi).trans (hS i)⟩
end
section
variable {ops : Array Oper} {rest : List Oper} {o : Oper} {a : Act} {w : World} {Q : Exit → Act → World → Prop} {b n : Nat} {S : Int → Bool} {x : Int}
theorem wpList_left_put (hg : o.guard = none) (m k v : Operand) (hop : o.op = .mapUpdate 108 m k v) (hm : a.eval m = .map (some b)) (hk : a.eval k = .int .i64 x) (hv : a.eval v = .agg #[]) (h : LeftM w b n S) (hn : n ≤ 1000) (hx : (Lit.int .i64 x).wf = true)
  (hK : ∀ w', LeftM w' b (n + 1) (fun i => if i = x then true else S i) → w.grownBy w' (some b) → wpList Tryz.prog ops Q rest (a.put o.dst undef) w') : wpList Tryz.prog ops Q (o :: rest) a w := by
 obtain ⟨D, h1, h2, h3⟩ := h
 refine wpList_mapUpdate_own w hg m k v 108 hop 3 109 int_law left_und unitElem b n D hm h1 (by unfold maxLen; omega) (.int .i64 x) (.agg #[]) (.int .i64 x) hk hv (Maps.keyOf_int_mk int_und hx) (.agg []) [] unitElem_mk fun w' o1 g1 => hK w' ⟨_, o1, h2.put _ _, fun i hi => ?_⟩ g1
 dsimp only
 by_cases e : i = x
 ·subst e
  rw [if_pos rfl]
  exact Maps.has_put_same h2 (int_law.key (Maps.keyOf_int_mk int_und hx)) _
 ·rw [if_neg e, Maps.has_put_other (fun h => e (by simpa using h))]
  exact h3 i hi
theorem wpList_left_get (hg : o.guard = none) (m k : Operand) (hop : o.op = .lookup 108 m k true) (hm : a.eval m = .map (some b)) (hk : a.eval k = .int .i64 x) (h : LeftM w b n S) (hx : (Lit.int .i64 x).wf = true) (q : Bool) (hq : S x = q)
  (hK : wpList Tryz.prog ops Q rest (a.put o.dst (.tuple #[.agg #[], .bool q])) w) : wpList Tryz.prog ops Q (o :: rest) a w := by
 obtain ⟨D, h1, h2, h3⟩ := h
 refine wpList_lookup_own_unit w hg m k 108 hop 3 109 int_law left_und (zero_unit _) b n D hm h1 (.int .i64 x) (.int .i64 x) hk (Maps.keyOf_int_mk int_und hx) ?_
 rw [h3 x hx, hq]
 exact hK
theorem wpList_left_del (hg : o.guard = none) (m k : Operand) (hop : o.op = .call { callee := .builtin .delete, args := #[m, k], argTypes := #[108, 3] }) (hm : a.eval m = .map (some b)) (hk : a.eval k = .int .i64 x) (h : LeftM w b n S) (hx : (Lit.int .i64 x).wf = true)
  (hK : ∀ w', LeftM w' b n (fun i => if i = x then false else S i) → w.grownBy w' (some b) → wpList Tryz.prog ops Q rest (a.put o.dst (.tuple #[])) w') : wpList Tryz.prog ops Q (o :: rest) a w := by
 obtain ⟨D, h1, h2, h3⟩ := h
 refine wpList_delete_own w hg m k 108 3 hop 109 int_law left_und unitElem b n D hm h1 (.int .i64 x) (.int .i64 x) hk (Maps.keyOf_int_mk int_und hx) fun w' o1 g1 => hK w' ⟨_, o1, h2.del _, fun i hi => ?_⟩ g1.grown
 dsimp only
 by_cases e : i = x
 ·subst e
  rw [if_pos rfl]
  exact Maps.has_del_same
 ·rw [if_neg e, Maps.has_del_other (fun h => e (by simpa using h))]
  exact h3 i hi
end
theorem left_step (i : Int) (ix : Nat) : (if i = (ix : Int) then true else decide (0 ≤ i ∧ i < (ix : Int))) = decide (0 ≤ i ∧ i < ((ix + 1 : Nat) : Int)) := by
 by_cases h : i = (ix : Int)
 ·rw [if_pos h]
  exact (decide_eq_true (by omega)).symm
 ·rw [if_neg h]
  exact decide_eq_decide.2 (by omega)
def ReachPost (lf : Crt) (cs : List Crt) (w : World) (e : Ending) (W : World) : Prop := Below w.heap.size w W ∧ ∃ g c, e = .returned (.slice (some ⟨g, 0, none⟩) (hse lf cs).reach.length c) ∧ (hse lf cs).reach.length ≤ c ∧ c ≤ maxLen ∧ w.heap.size ≤ g ∧ Row W g 0 (crtCells (hse lf cs).reach)
structure Rs (w2 : World) (lf : Crt) (cs : List Crt) (mL b6 b7 : Nat) (V : Nat → Value) (Pre : List Int) (t6 : Value) (U : World) : Prop where
 below : Below w2.heap.size w2 U
 size : b7 ≤ U.heap.size
 lv : ∀ j, j < 8 → ∃ A c, V j = .slice A ((hse lf cs).lvl j).length c ∧ ((hse lf cs).lvl j = [] ∨ ∃ b, A = some ⟨b, 0, none⟩ ∧ b6 ≤ b ∧ b < b7 ∧ Row U b 0 (((hse lf cs).lvl j).map intV))
 left : LeftM U mL cs.length (fun i => decide (0 ≤ i ∧ i < (cs.length : Int)) && !Pre.contains i)
 out : U.ownsRow w2.heap.size 30 24 t6 (1 + (Chn.fresh [-1] Pre).length) (crtCells (lf :: (Chn.fresh [-1] Pre).map (hse lf cs).at))
 blk : ∀ b, t6.ownBlock = some b → b ≠ mL ∧ (b < b6 ∨ b7 ≤ b)
theorem fresh_len {cs : List Crt} (hl : cs.length ≤ 16) {Pre : List Int} (h : ∀ i ∈ Pre, Spot cs i) : (Chn.fresh [-1] Pre).length ≤ 16 := by
 refine Nat.le_trans (Chn.nodup_len (n := cs.length) Chn.fresh_nodup fun i hi => ?_) hl
 obtain ⟨h1, h2⟩ := Chn.mem_fresh.1 hi
 rcases h i h1 with rfl | h3
 ·simp at h2
 ·exact h3
section
variable {w2 : World} {lf : Crt} {cs : List Crt} {mL b6 b7 : Nat} {V : Nat → Value} {Pre : List Int} {t6 : Value} {U U' : World}
theorem Rs.grow (h : Rs w2 lf cs mL b6 b7 V Pre t6 U) (g : Below U.heap.size U U') : Rs w2 lf cs mL b6 b7 V Pre t6 U' :=
 ⟨h.below.trans (g.mono h.below.size), Nat.le_trans h.size g.size, fun j hj => by
  obtain ⟨A, c, e, hl⟩ := h.lv j hj
  exact ⟨A, c, e, hl.imp id fun ⟨b, e1, e2, e3, e4⟩ => ⟨b, e1, e2, e3, e4.below g⟩⟩, h.left.below g, h.out.kept (only_of_below g none) (own_none _), h.blk⟩
end
theorem Rs.skip {w2 : World} {lf : Crt} {cs : List Crt} {mL b6 b7 : Nat} {V : Nat → Value} {Pre : List Int} {t6 : Value} {U : World} {y : Int} (h : Rs w2 lf cs mL b6 b7 V Pre t6 U) (hys : Spot cs y) (hq : (decide (0 ≤ y ∧ y < (cs.length : Int)) && !Pre.contains y) = false) : Rs w2 lf cs mL b6 b7 V (Pre ++ [y]) t6 U := by
 have hy : y ∈ [(-1 : Int)] ∨ y ∈ Pre := by
  rcases hys with rfl | h3
  ·exact .inl (by simp)
  ·rw [decide_eq_true h3] at hq
   exact .inr (by simpa using hq)
 have hf : Chn.fresh [-1] (Pre ++ [y]) = Chn.fresh [-1] Pre := by rw [fresh_snoc, if_pos hy]
 refine ⟨h.below, h.size, h.lv, h.left.ext fun i => ?_, by rw [hf]; exact h.out, h.blk⟩
 by_cases e : i = y
 ·subst e
  rw [hq]
  simp
 ·simp [e]
theorem ix_lv0 (V : Nat → Value) (W : World) : (Instr.index 98 (.agg #[V 0, V 1, V 2, V 3, V 4, V 5, V 6, V 7]) (.int .i64 ((0 : Nat) : Int))).run Tryz.prog W = .ok (V 0) W := by kernel_rfl
theorem ix_lv1 (V : Nat → Value) (W : World) : (Instr.index 98 (.agg #[V 0, V 1, V 2, V 3, V 4, V 5, V 6, V 7]) (.int .i64 ((1 : Nat) : Int))).run Tryz.prog W = .ok (V 1) W := by kernel_rfl
theorem ix_lv2 (V : Nat → Value) (W : World) : (Instr.index 98 (.agg #[V 0, V 1, V 2, V 3, V 4, V 5, V 6, V 7]) (.int .i64 ((2 : Nat) : Int))).run Tryz.prog W = .ok (V 2) W := by kernel_rfl
theorem ix_lv3 (V : Nat → Value) (W : World) : (Instr.index 98 (.agg #[V 0, V 1, V 2, V 3, V 4, V 5, V 6, V 7]) (.int .i64 ((3 : Nat) : Int))).run Tryz.prog W = .ok (V 3) W := by kernel_rfl
theorem ix_lv4 (V : Nat → Value) (W : World) : (Instr.index 98 (.agg #[V 0, V 1, V 2, V 3, V 4, V 5, V 6, V 7]) (.int .i64 ((4 : Nat) : Int))).run Tryz.prog W = .ok (V 4) W := by kernel_rfl
theorem ix_lv5 (V : Nat → Value) (W : World) : (Instr.index 98 (.agg #[V 0, V 1, V 2, V 3, V 4, V 5, V 6, V 7]) (.int .i64 ((5 : Nat) : Int))).run Tryz.prog W = .ok (V 5) W := by kernel_rfl
theorem ix_lv6 (V : Nat → Value) (W : World) : (Instr.index 98 (.agg #[V 0, V 1, V 2, V 3, V 4, V 5, V 6, V 7]) (.int .i64 ((6 : Nat) : Int))).run Tryz.prog W = .ok (V 6) W := by kernel_rfl
theorem ix_lv7 (V : Nat → Value) (W : World) : (Instr.index 98 (.agg #[V 0, V 1, V 2, V 3, V 4, V 5, V 6, V 7]) (.int .i64 ((7 : Nat) : Int))).run Tryz.prog W = .ok (V 7) W := by kernel_rfl
theorem ix_lv (V : Nat → Value) (k : Nat) (hk : k < 8) (W : World) : (Instr.index 98 (.agg #[V 0, V 1, V 2, V 3, V 4, V 5, V 6, V 7]) (.int .i64 (k : Int))).run Tryz.prog W = .ok (V k) W := by
 have h : k = 0 ∨ k = 1 ∨ k = 2 ∨ k = 3 ∨ k = 4 ∨ k = 5 ∨ k = 6 ∨ k = 7 := by omega
 rcases h with rfl | rfl | rfl | rfl | rfl | rfl | rfl | rfl
 ·exact ix_lv0 V W
 ·exact ix_lv1 V W
 ·exact ix_lv2 V W
 ·exact ix_lv3 V W
 ·exact ix_lv4 V W
 ·exact ix_lv5 V W
 ·exact ix_lv6 V W
 ·exact ix_lv7 V W
set_option maxRecDepth 100000 in
set_option maxHeartbeats 8000000 in
theorem reach_any {w : World} {lf : Crt} {cs : List Crt} {pA : Option Addr} {pc gp op : Nat} (P : Pool w lf cs pA pc gp op) :
  Calls Tryz.prog 25 #[lf.val, .slice pA cs.length pc] w (ReachPost lf cs w) := by
 obtain ⟨w2, hw2⟩ : ∃ u, u = w.alloc (.cells lf.cells.toArray 30) := ⟨_, rfl⟩
 obtain ⟨g2, hg2⟩ : ∃ g, g = w.heap.size := ⟨_, rfl⟩
 have e2 : Below w.heap.size w w2 := by rw [hw2]; exact (Below.refl _ _).alloc (Nat.le_refl _) _
 have R2 : Row w2 g2 0 lf.cells := by rw [hw2, hg2]; exact row_new _
 replace P := P.below e2
 have hlen := P.len
 have hmm := @run_makeMap Tryz.prog
 replace hg2 := Lib.hid hg2
 unfold Crt.val
 go_enter Tryz.func25, Tryz.ntmps25
 go_upto_region 1 with fail
 refine wp_world (W' := w2) (by rw [hw2]) ?_
 rw [← hg2.out]
 clear hw2
 go_wp2_with ((with_reducible refine wpList_load_mid ?_ 30 (.tmp 2) ?_ g2 0 ?_ lf.cells _ R2.rng Tryz.underlying30 ?_ (sz_crt _) ?_); (· rfl); (· rfl); (· rfl); (· rfl))
 refine (chOpen_any P).mono ?_
 rintro e w3 ⟨hb, mb, rfl, H3⟩
 have R23 := R2.below H3.below
 have hbl := H3.row.1
 have hml := H3.tbl.lt
 have hs3 := H3.below.size
 go_upto_region 3 with (first
  | ((with_reducible refine wpList_load_mid ?_ 30 (.tmp 2) ?_ g2 0 ?_ lf.cells _ R23.rng Tryz.underlying30 ?_ (sz_crt _) ?_); (· rfl); (· rfl); (· rfl); (· rfl))
  | (refine wpList_build_certO rfl (.tmp 18) rfl lf rfl ?_; intro g4 w4 hg4 o4 e4))
 obtain ⟨w5, hw5⟩ : ∃ u, u = w4.alloc (.map #[] 0) := ⟨_, rfl⟩
 obtain ⟨mL, hmL⟩ : ∃ m, m = w4.heap.size := ⟨_, rfl⟩
 refine wp_world hw5 ?_
 rw [← hmL]
 have e5 : Below w4.heap.size w4 w5 := by rw [hw5]; exact (Below.refl _ _).alloc (Nat.le_refl _) _
 have l5 : LeftM w5 mL 0 (fun _ => false) := by rw [hw5, hmL]; exact LeftM.made w4
 clear hw5
 have H5 : Hm w2 lf cs pA pc hb mb w5 := (H3.grow e4).grow e5
 have o5 : w5.ownsRow w3.heap.size 30 24 (.slice (some ⟨g4, 0, none⟩) 1 1) 1 (crtCells [lf]) := o4.kept (only_of_below e5 none) (own_none _)
 have hg4' := hg4.out
 have hs4 := e4.size
 have n4 : g4 < mL := by rw [hmL]; exact (o4.lt g4 rfl).2
 replace hmL := Lib.hid hmL
 replace hg4' := Lib.hid hg4'
 clear H3 R23 o4 e4 e5 hg4 R2
 go_wp2_with fail
 go_loopw [23] (fun t wr => ∃ ix : Nat, t = .int .i64 (ix : Int) ∧ ix ≤ cs.length ∧ LeftM wr mL ix (fun i => decide (0 ≤ i ∧ i < (ix : Int))) ∧ w5.grownBy wr (some mL)) (fun t _ => cs.length - (intOf t).toNat)
 case atStart => exact ⟨0, rfl, Nat.zero_le _, l5.ext fun i => by simp, only_refl _ _⟩
 case round =>
  obtain ⟨ix, rfl, hi, lm, gr⟩ := hrel
  have z8 : (ix : Int) ≤ 16 := by omega
  by_cases hix : ix < cs.length
  ·have z9 : (ix : Int) < (cs.length : Int) := by omega
   have hwf : (Lit.int .i64 (ix : Int)).wf = true := spot_wf P (.inr ⟨by omega, z9⟩)
   go_wp2_with (first
    | (refine wpList_build_at rfl 109 _ rfl [] (by kernel_rfl) ?_)
    | (refine wpList_left_put rfl (.tmp 26) (.tmp 27) (.tmp 28) rfl rfl rfl rfl lm (by omega) hwf ?_; intro w6 lm6 gr6))
   go_roundw
   case rel => exact ⟨ix + 1, by go_num, by omega, lm6.ext fun i => left_step i ix, only_trans gr gr6⟩
   case measure =>
    simp [intOf]
    omega
  ·have z9 : ¬ (ix : Int) < (cs.length : Int) := by omega
   obtain rfl : ix = cs.length := by omega
   have hmL' := hmL.out
   have Hw : Hm w2 lf cs pA pc hb mb wr := H5.new gr (fun b e => by cases e; omega)
   have ow := o5.kept gr (.inr (by show some g4 ≠ some mL; simp; omega))
   have hmlt := lm.lt
   clear hmL'
   go_wp2_with fail
   refine (levels_any P Hw).mono ?_
   rintro e w7 ⟨V, rfl, gr7, t7, own7⟩
   have lm7 := lm.kept gr7 (by have := hg4'.out; simp; omega)
   have o7 := ow.kept gr7 (.inr (by have := hg4'.out; show some g4 ≠ some mb; simp; omega))
   have h7b : Below w2.heap.size w2 w7 := (Hw.step gr7 t7).below
   have rs : Rs w2 lf cs mL wr.heap.size w7.heap.size V [] (.slice (some ⟨g4, 0, none⟩) 1 1) w7 := by
    refine ⟨h7b, Nat.le_refl _, fun j hj => ?_, lm7.ext fun i => by simp, own_base o7 hs3, fun b e => ?_⟩
    ·obtain ⟨A', c', e', hl'⟩ := own_row (own7 j hj)
     exact ⟨A', c', e', hl'.imp id fun ⟨b, h1, h2, h3⟩ => ⟨b, h1, h2, h3.1, h3⟩⟩
    ·have e : g4 = b := Option.some.inj e
     subst e
     exact ⟨by omega, .inl (by omega)⟩
   clear l5 o5 H5 gr Hw ow lm7 o7 gr7 t7 own7 lm
   obtain ⟨b6, hb6⟩ : ∃ b, b = wr.heap.size := ⟨_, rfl⟩
   obtain ⟨b7, hb7⟩ : ∃ b, b = w7.heap.size := ⟨_, rfl⟩
   rw [← hb6, ← hb7] at rs
   have hLb : mL < b6 := by rw [hb6]; exact hmlt
   replace hb6 := Lib.hid hb6
   replace hb7 := Lib.hid hb7
   clear hmlt h7b
   go_wp2_with fail
   go_loopw [6, 32] (fun t6 t32 wr => ∃ k : Nat, t32 = .int .i64 (k : Int) ∧ k ≤ 8 ∧ Rs w2 lf cs mL b6 b7 V ((List.range k).flatMap (hse lf cs).lvl) t6 wr) (fun _ t _ => 8 - (intOf t).toNat)
   case atStart => exact ⟨0, rfl, by omega, rs⟩
   case round =>
    clear rs
    obtain ⟨k, rfl, hk, rs⟩ := hrel
    have zk : (k : Int) ≤ 8 := by omega
    by_cases hk8 : k < 8
    ·have z8 : (k : Int) < 8 := by omega
     obtain ⟨A', c', hV, hrow⟩ := rs.lv k hk8
     have hll := lvl_len lf cs hlen k
     obtain ⟨xs, hxs⟩ : ∃ xs, xs = (hse lf cs).lvl k := ⟨_, rfl⟩
     rw [← hxs] at hV hrow hll
     replace hxs := Lib.hid hxs
     have hix := ix_lv V k hk8
     rw [hV] at hix
     go_wp2_with fail
     clear hix
     go_loopw [6, 37] (fun t6 t37 wr => ∃ ix : Nat, t37 = .int .i64 (ix : Int) ∧ ix ≤ xs.length ∧ Rs w2 lf cs mL b6 b7 V ((List.range k).flatMap (hse lf cs).lvl ++ xs.take ix) t6 wr) (fun _ t _ => xs.length - (intOf t).toNat)
     case atStart => exact ⟨0, rfl, Nat.zero_le _, by rw [List.take_zero, List.append_nil]; exact rs⟩
     case round =>
      clear rs hrow
      obtain ⟨ix, rfl, hi, rs⟩ := hrel
      have z16 : (ix : Int) ≤ 16 := by omega
      by_cases hix : ix < xs.length
      ·have z9 : (ix : Int) < (xs.length : Int) := by omega
       obtain ⟨y, hy⟩ : ∃ y, xs[ix]? = some y := ⟨_, List.getElem?_eq_getElem hix⟩
       have hys : Spot cs y := spot_lvl (k := k) (by rw [← hxs.out]; exact List.mem_of_getElem? hy)
       have hyw := spot_wf P hys
       obtain ⟨A2, c2, hV2, hrow2⟩ := rs.lv k hk8
       rw [← hxs.out, hV] at hV2
       rw [← hxs.out] at hrow2
       cases hV2
       obtain ⟨bb, hAb, hb1, hb2, hrr⟩ := hrow2.resolve_left (by rintro h; rw [h] at hix; simp at hix)
       subst hAb
       have ky : wr.cell? ⟨bb, ix, none⟩ = some (.int .i64 y) := by
        have h1 := hrr.2 ix (.int .i64 y) (by simp [hy, intV])
        rwa [Nat.zero_add] at h1
       obtain ⟨Pre, hPre⟩ : ∃ p, p = (List.range k).flatMap (hse lf cs).lvl ++ xs.take ix := ⟨_, rfl⟩
       rw [← hPre] at rs
       have hPs : (List.range k).flatMap (hse lf cs).lvl ++ xs.take (ix + 1) = Pre ++ [y] := by rw [hPre, List.take_add_one, hy, List.append_assoc]; rfl
       have hPin : ∀ i ∈ Pre, Spot cs i := fun i hi' => by
        rw [hPre, List.mem_append, List.mem_flatMap] at hi'
        rcases hi' with ⟨j, _, h⟩ | h
        ·exact spot_lvl h
        ·exact spot_lvl (k := k) (by rw [← hxs.out]; exact List.mem_of_mem_take h)
       have hfl := fresh_len hlen hPin
       replace hPs := Lib.hid hPs
       clear hPre hrr
       obtain ⟨q, hq⟩ : ∃ q, (decide (0 ≤ y ∧ y < (cs.length : Int)) && !Pre.contains y) = q := ⟨_, rfl⟩
       go_upto_region 15 with (at_lookup; refine wpList_left_get rfl (.tmp 42) (.tmp 43) rfl rfl rfl rs.left hyw q hq ?_)
       obtain ⟨w9, hw9⟩ : ∃ u, u = wr.alloc (.cells #[] 109) := ⟨_, rfl⟩
       refine wp_world hw9 ?_
       have e9 : Below wr.heap.size wr w9 := by rw [hw9]; exact (Below.refl _ _).alloc (Nat.le_refl _) _
       have rs9 := rs.grow e9
       clear hw9 rs ky
       replace hq := Lib.hid hq
       cases q
       case false =>
        go_wp2_with fail
        go_roundw
        case rel => exact ⟨ix + 1, by go_num, by omega, by rw [hPs.out]; exact rs9.skip hys hq.out⟩
        case measure =>
         simp [intOf]
         omega
       case true =>
        have hq2 := hq.out
        simp only [Bool.and_eq_true, decide_eq_true_eq, Bool.not_eq_true'] at hq2
        obtain ⟨⟨hy0, hy1⟩, hy2⟩ := hq2
        obtain ⟨j, rfl⟩ : ∃ j : Nat, y = (j : Int) := ⟨y.toNat, by omega⟩
        have hj : j < cs.length := by omega
        obtain ⟨c, hc⟩ : ∃ c, cs[j]? = some c := ⟨_, List.getElem?_eq_getElem hj⟩
        have hA := P.A.resolve_left (by rintro rfl; simp at hj)
        subst hA
        have hmL9 := rs9.left
        go_upto_region 17 with (at_delete; refine wpList_left_del rfl (.tmp 48) (.tmp 49) rfl rfl rfl hmL9 hyw ?_; intro w10 lm10 gr10)
        go_frame
        have e10 : Below w2.heap.size w2 w10 := below_only rs9.below gr10 rs9.below.size (by have := hmL.out; have := hg4'.out; omega)
        have hmLw : mL < w9.heap.size := hmL9.lt
        have o10 := rs9.out.kept gr10 (by
         cases e : u6.ownBlock with
         | none => exact .inl rfl
         | some b => exact .inr (by simpa using (rs9.blk b e).1))
        have Rc := crt_row (P.row.below e10) hc
        have zj : (j : Int) < (cs.length : Int) := by omega
        have hn10 : u6.ownBlock ≠ some mL := fun e => (rs9.blk mL e).1 rfl
        have hsz10 := gr10.size
        have hs72 := rs9.size
        go_wp2_with (first
         | ((with_reducible refine wpList_load_mid ?_ 30 (.tmp 53) ?_ gp (op + j * 24) ?_ c.cells _ Rc.rng Tryz.underlying30 ?_ (sz_crt _) ?_); (· rfl); (· rfl); (· rfl); (· rfl))
         | (refine wpList_build_certO rfl (.tmp 54) rfl c rfl ?_; intro g26 w26 hg26 o26 e26)
         | (at_builtin; refine wpList_append_crtG rfl (.tmp 50) (.tmp 55) rfl w2.heap.size u6 (lf :: (Chn.fresh [-1] Pre).map (hse lf cs).at) _ rfl (by simp; omega) (o10.kept (only_of_below e26 none) (own_none u6)) g26 c rfl o26 (by omega) (Nat.le_trans e10.size e26.size) ?_; intro v27 w27 o27 gr27 loc27))
        have s26 := e26.size
        have r27n : ∀ b, u6.ownBlock = some b → b ≠ mL ∧ (b < b6 ∨ b7 ≤ b) ∧ w2.heap.size ≤ b := fun b e => ⟨(rs9.blk b e).1, (rs9.blk b e).2, (rs9.out.lt b e).1⟩
        have hf : Chn.fresh [-1] (Pre ++ [(j : Int)]) = Chn.fresh [-1] Pre ++ [(j : Int)] := by
         rw [fresh_snoc, if_neg]
         rintro (h | h)
         ·have := List.mem_singleton.1 h
          omega
         ·rw [List.contains_iff_mem.2 h] at hy2
          cases hy2
        have hat : (hse lf cs).at (j : Int) = c := by
         rw [hse_at]
         unfold atC
         rw [if_neg (by omega), Int.toNat_natCast, hc]
         rfl
        have rs27 : Rs w2 lf cs mL b6 b7 V (Pre ++ [(j : Int)]) v27 w27 := by
         refine ⟨?_, by have := gr27.size; omega, fun q hq' => ?_, ?_, ?_, fun b e => ?_⟩
         ·have h1 := e10.trans (e26.mono e10.size)
          exact ⟨gr27.os.trans h1.os, gr27.tape.trans h1.tape, gr27.output.trans h1.output, Nat.le_trans h1.size gr27.size, fun k hk => (gr27.block k (Nat.lt_of_lt_of_le hk h1.size) (fun e => by have := (r27n k e.symm).2.2; omega)).trans (h1.block k hk)⟩
         ·obtain ⟨A3, c3, h3, h4⟩ := rs9.lv q hq'
          refine ⟨A3, c3, h3, h4.imp id fun ⟨b, f1, f2, f3, f4⟩ => ⟨b, f1, f2, f3, ?_⟩⟩
          have f5 : Row w10 b 0 _ := f4.keep gr10.size (gr10.block b f4.1 (fun e => by have := Option.some.inj e; omega))
          have f6 := f5.below e26
          exact f6.keep gr27.size (gr27.block b f6.1 (fun e => by have := (r27n b e.symm).2.1; omega))
         ·refine ((lm10.below e26).kept gr27 (fun e => (r27n mL e.symm).1 rfl)).ext fun i => ?_
          by_cases e : i = (j : Int)
          ·subst e
           simp
          ·simp [e]
         ·rw [hf, List.map_append, List.length_append]
          have h1 : 1 + ((Chn.fresh [-1] Pre).length + [(j : Int)].length) = 1 + (Chn.fresh [-1] Pre).length + 1 := by simp; omega
          rw [h1, show List.map (hse lf cs).at [(j : Int)] = [c] by rw [List.map_cons, hat]; rfl]
          exact o27
         ·rcases loc27 with h1 | h1
          ·rw [h1] at e
           exact ⟨(r27n b e).1, (r27n b e).2.1⟩
          ·rw [h1] at e
           have e := Option.some.inj e
           exact ⟨by omega, .inr (by omega)⟩
        clear o27 gr27 loc27 o10 gr10 lm10 e26 o26
        go_roundw
        case rel => exact ⟨ix + 1, by go_num, by omega, by rw [hPs.out]; exact rs27⟩
        case measure =>
         simp [intOf]
         omega
      ·obtain rfl : ix = xs.length := by omega
       have z9 : ¬ (xs.length : Int) < (xs.length : Int) := by omega
       go_wp2_with fail
       go_roundw
       case rel => exact ⟨k + 1, by go_num, by omega, by rw [List.range_succ, List.flatMap_append]; rw [List.take_length, hxs.out] at rs; simpa using rs⟩
       case measure =>
        simp [intOf]
        omega
    ·obtain rfl : k = 8 := by omega
     have hsp : ∀ i ∈ (List.range 8).flatMap (hse lf cs).lvl, Spot cs i := fun i hi' => by
      obtain ⟨j, _, h⟩ := List.mem_flatMap.1 hi'
      exact spot_lvl h
     have hR : (hse lf cs).reach = lf :: (Chn.fresh [-1] ((List.range 8).flatMap (hse lf cs).lvl)).map (hse lf cs).at := rfl
     have o8 := rs.out
     rw [← hR] at o8
     have hRl : (hse lf cs).reach.length = 1 + (Chn.fresh [-1] ((List.range 8).flatMap (hse lf cs).lvl)).length := by rw [hR]; simp; omega
     rw [← hRl] at o8
     obtain ⟨gR, cR, rfl, hcR, hmR, hbR, rowR⟩ := own_crt o8 (by omega)
     have hbel := rs.below
     have hs2 := e2.size
     replace hR := Lib.hid hR
     replace hRl := Lib.hid hRl
     clear rs o8
     go_wp2_with fail
     go_ret
     exact ⟨e2.trans (hbel.mono e2.size), gR, cR, rfl, hcR, hmR, by omega, rowR⟩
abbrev CIn := Crt × Sls3 Crt × Sls3 Sl
def plainOf (x : Nat) : Rung := ⟨[x], 0, true, true, -1, -1⟩
def rungs3 : List Rung := [plainOf 97, plainOf 98, plainOf 99]
theorem rungs3_ok : ∀ r ∈ rungs3, RungOk r := fun r hr => by
 simp only [rungs3, List.mem_cons, List.not_mem_nil, or_false] at hr
 rcases hr with rfl | rfl | rfl <;> exact ⟨⟨by decide, fun x hx => by simp [plainOf] at hx; omega⟩, by decide, rfl, rfl, rfl⟩
theorem bstr_a : bstr [97] = ⟨#[97]⟩ := by kernel_rfl
theorem bstr_b : bstr [98] = ⟨#[98]⟩ := by kernel_rfl
theorem bstr_c : bstr [99] = ⟨#[99]⟩ := by kernel_rfl
theorem fill_rung3 (c d e : Rung) (z : Array Value) (hz : z = #[.string ⟨#[]⟩, .int .u8 0, .bool false, .bool false, .int .i64 0, .int .i64 0]) : Instr.fill (fun i => some (i * 6, 6)) ((Array.range (3 * 6)).map (z[· % z.size]!)) [(0, .agg c.cells.toArray), (1, .agg d.cells.toArray), (2, .agg e.cells.toArray)] = some (c.cells ++ d.cells ++ e.cells).toArray := by
 subst hz
 kernel_rfl
theorem wpList_build_rung3 {w : World} {ops : Array Oper} {rest : List Oper} {o : Oper} {a : Act} {Q : Exit → Act → World → Prop} (hgd : o.guard = none) (x y z : Operand) (ho : o.op = .buildSlice 123 3 #[(0, x), (1, y), (2, z)]) (c d e : Rung) (hx : a.eval x = .agg c.cells.toArray) (hy : a.eval y = .agg d.cells.toArray) (hz : a.eval z = .agg e.cells.toArray)
  (h : ∀ g w', Hid (g = w.heap.size) → Row w' g 0 (rungCells [c, d, e]) → w'.heap.size = w.heap.size + 1 → Below w.heap.size w w' → wpList Tryz.prog ops Q rest (a.put o.dst (.slice (some ⟨g, 0, none⟩) 3 3)) w') : wpList Tryz.prog ops Q (o :: rest) a w := by
 obtain ⟨i, hi, hzz⟩ := Option.map_eq_some_iff.1 info_rung
 simp only [Prod.mk.injEq] at hzz
 obtain ⟨hz0, hs1, hb⟩ := hzz
 refine wpList_buildSlice hgd 123 125 3 #[(0, x), (1, y), (2, z)] ho (c.cells ++ d.cells ++ e.cells).toArray i (.agg #[.string ⟨#[]⟩, .int .u8 0, .bool false, .bool false, .int .i64 0, .int .i64 0]) Tryz.underlying123 hi hz0 (by rw [hs1]; decide) (by rw [hs1]; decide) ?_ (h w.heap.size _ rfl ?_ (by simp) ((Below.refl _ _).alloc (Nat.le_refl _) _))
 ·rw [hs1]
  simp only [List.map_toArray, List.map_cons, List.map_nil, hx, hy, hz]
  exact fill_rung3 c d e _ rfl
 ·refine Row.of_cut (Cut.of_heap (heap_alloc_new _ _) fun i v hv => ?_)
  simpa [rungCells] using hv
def Lad13Post (w : World) (e : Ending) (w' : World) : Prop := ∃ (cs : List Crt) (v : Value), e = .returned v ∧ w'.ownsRow w.heap.size 30 24 v 3 (crtCells cs) ∧ cs.length = 3 ∧ cs.map Crt.say = ladderB rungs3 [1] 3 ∧ (∀ c ∈ cs, c.ok w') ∧ Below w.heap.size w w'
set_option maxRecDepth 100000 in
set_option maxHeartbeats 4000000 in
theorem ladder13_any (w : World) : Calls Tryz.prog 45 #[] w (Lad13Post w) := by
 have p1 := fun W => plain_any [97] W
 have p2 := fun W => plain_any [98] W
 have p3 := fun W => plain_any [99] W
 simp only [bstr_a] at p1
 simp only [bstr_b] at p2
 simp only [bstr_c] at p3
 go_enter Tryz.func45, Tryz.ntmps45
 go_wp2_with fail
 refine (p1 w).mono ?_
 rintro r1 w1 ⟨rfl, e1⟩
 go_wp2_with fail
 refine (p2 w1).mono ?_
 rintro r2 w2 ⟨rfl, e2⟩
 go_wp2_with fail
 refine (p3 w2).mono ?_
 rintro r3 w3 ⟨rfl, e3⟩
 clear p1 p2 p3
 have e13 := e1.trans ((e2.trans (e3.mono e2.size)).mono e1.size)
 go_wp2_with (refine wpList_build_rung3 rfl (.tmp 1) (.tmp 2) (.tmp 3) rfl (plainOf 97) (plainOf 98) (plainOf 99) rfl rfl rfl ?_; intro g4 w4 hg4 R4 z4 e4)
 have hk1 := rd_1 w4
 have z4' : w4.heap.size = w3.heap.size + 1 := z4
 rw [z4'] at hk1
 obtain ⟨w5, hw5⟩ : ∃ u, u = w4.alloc (.cells #[.int .u8 1] 5) := ⟨_, rfl⟩
 have e5 : Below w4.heap.size w4 w5 := by rw [hw5]; exact (Below.refl _ _).alloc (Nat.le_refl _) _
 rw [← hw5] at hk1 ⊢
 clear hw5
 have hq := ladder_any g4 0 3 3 (some ⟨g4, 0, none⟩) rungs3 (some ⟨w3.heap.size + 1, 0, none⟩) 1 3 [1] w5 rfl (by decide) (.inr rfl) (R4.below e5) rungs3_ok hk1 (by decide) (by decide)
 refine Calls.mono hq ?_
 clear hq
 rintro r6 w6 ⟨cs, v, rfl, own, hl, hsay, hok, -, e6⟩
 have s13 := e13.size
 have s4 := e4.size
 have s5 := e5.size
 have eAll : Below w.heap.size w w6 := ((e13.trans (e4.mono s13)).trans (e5.mono (by omega))).trans (e6.mono (by omega))
 have own' := own_base own (B' := w.heap.size) (by omega)
 clear e1 e2 e3 e13 e4 e5 e6 own hk1 R4 z4 z4'
 go_wp2_with fail
 go_ret
 exact ⟨cs, v, rfl, own', hl, hsay, hok, eAll⟩
theorem wr_inj {t : Nat} {x y r s : List Nat} (ht : t % 32 ≠ 31) (hx : x.length < 4294967296) (hy : y.length < 4294967296) (h : wr t x ++ r = wr t y ++ s) : x = y ∧ r = s := by
 have h1 := elem_wr (ys := r) ht hx
 have h2 := elem_wr (ys := s) ht hy
 rw [h, h2] at h1
 simp only [Option.some.injEq, Prod.mk.injEq] at h1
 have hl := h1.2
 unfold wr at h
 simp only [List.cons_append, List.append_assoc, List.cons.injEq, true_and] at h
 rw [hl] at h
 have h3 := List.append_cancel_left h
 exact List.append_inj h3 hl.symm
theorem ladder_at : ∀ (l : List Rung) (ks : List Nat) (ke i : Nat) (r : Rung), l[i]? = some r → ∃ K E, (ladderB l ks ke)[i]? = some (rungDone (rungSay r ((l[i + 1]?).getD r) K E) (decide (i + 1 < l.length))) ∧ (i = 0 → K = ks ∧ E = ke) ∧
  ∀ j q, i = j + 1 → (ladderB l ks ke)[j]? = some q → K = forKey (digest q.tbs) ∧ E = 3
 | [], ks, ke, i, r, h => by simp at h
 | [r0], ks, ke, 0, r, h => by
  obtain rfl : r0 = r := by simpa using h
  exact ⟨ks, ke, by simp [ladderB], fun _ => ⟨rfl, rfl⟩, fun j q hj => by omega⟩
 | [r0], ks, ke, i + 1, r, h => by simp at h
 | r0 :: a :: l, ks, ke, 0, r, h => by
  obtain rfl : r0 = r := by simpa using h
  exact ⟨ks, ke, by simp [ladderB], fun _ => ⟨rfl, rfl⟩, fun j q hj => by omega⟩
 | r0 :: a :: l, ks, ke, i + 1, r, h => by
  obtain ⟨K, E, h1, h2, h3⟩ := ladder_at (a :: l) (forKey (digest (tbsB (rungSay r0 a ks ke)))) 3 i r h
  refine ⟨K, E, ?_, fun h => by omega, ?_⟩
  ·have hi : decide (i + 1 + 1 < (r0 :: a :: l).length) = decide (i + 1 < (a :: l).length) := by simp
   rw [ladderB, List.getElem?_cons_succ, h1, hi]
   rfl
  ·intro j q hj hq
   obtain rfl : i = j := by omega
   cases i with
   | zero =>
    rw [ladderB] at hq
    obtain rfl := Option.some.inj hq
    exact h2 rfl
   | succ i =>
    refine h3 i q rfl ?_
    rw [ladderB, List.getElem?_cons_succ] at hq
    exact hq
theorem nameB_one {x y : Nat} (h : nameB [x] = nameB [y]) : x = y := by
 simp [nameB, seqB, wr, derLen] at h
 exact h
def Letters (l : List Rung) : Prop := ∀ i r, l[i]? = some r → r.name = [97 + i]
section
variable {l : List Rung} {cs : List Crt} {ks : List Nat} {ke : Nat}
theorem lad_len (hs : cs.map Crt.say = ladderB l ks ke) : ∀ i c, cs[i]? = some c → ∃ r K E, l[i]? = some r ∧ c.say = rungDone (rungSay r ((l[i + 1]?).getD r) K E) (decide (i + 1 < l.length)) ∧ (i = 0 → K = ks ∧ E = ke) ∧
  ∀ j q, i = j + 1 → cs[j]? = some q → K = forKey (digest q.tbs.xs) ∧ E = 3 := by
 intro i c hc
 have hsc : (ladderB l ks ke)[i]? = some c.say := by rw [← hs]; simp [hc]
 have hlen : ∀ (l : List Rung) (ks : List Nat) (ke : Nat), (ladderB l ks ke).length = l.length := by
  intro l
  induction l with
  | nil => intro ks ke; rfl
  | cons r l ih =>
   intro ks ke
   cases l with
   | nil => rfl
   | cons a l =>
    rw [ladderB, List.length_cons, ih]
    rfl
 obtain ⟨r, hr⟩ : ∃ r, l[i]? = some r := ⟨_, List.getElem?_eq_getElem (by rw [← hlen l ks ke]; exact (List.getElem?_eq_some_iff.1 hsc).1)⟩
 obtain ⟨K, E, h1, h2, h3⟩ := ladder_at l ks ke i r hr
 rw [h1] at hsc
 refine ⟨r, K, E, hr, (Option.some.inj hsc).symm, h2, fun j q hj hq => ?_⟩
 have := h3 j q.say hj (by rw [← hs]; simp [hq])
 exact this
theorem lad_sg (hs : cs.map Crt.say = ladderB l ks ke) (hk : ks ≠ []) (hn : Letters l) {i j : Nat} {c d : Crt} (hc : cs[i]? = some c) (hd : cs[j]? = some d) : sgB c d = (decide (j = i + 1) && mayC d) := by
 obtain ⟨r, K, E, hr, hcs, h0, h1⟩ := lad_len hs i c hc
 obtain ⟨r', K', E', hr', hds, h0', h1'⟩ := lad_len hs j d hd
 have ci : c.issuer.xs = nameB ((l[i + 1]?).getD r).name := congrArg Say.issuer hcs
 have cg : c.sig.xs = if decide (i + 1 < l.length) = true then forSig (digest (tbsB (rungSay r ((l[i + 1]?).getD r) K E))) else [] := congrArg Say.sig hcs
 have ct : c.tbs.xs = tbsB (rungSay r ((l[i + 1]?).getD r) K E) := congrArg Say.tbs hcs
 have dk : d.key.xs = K' := congrArg Say.key hds
 have de : d.e = E' := congrArg Say.e hds
 have du : d.subject.xs = nameB r'.name := congrArg Say.subject hds
 unfold sgB
 by_cases hi : i + 1 < l.length
 ·obtain ⟨u, hu⟩ : ∃ u, l[i + 1]? = some u := ⟨_, List.getElem?_eq_getElem hi⟩
  rw [hu] at ci
  by_cases hj : j = i + 1
  ·obtain ⟨q1, q2⟩ := h1' i c hj hc
   have hur : u = r' := by rw [← hj] at hu; exact Option.some.inj (hu.symm.trans hr')
   rw [cg, if_pos (decide_eq_true hi), dk, de, q1, q2, ← ct, ver_for (digest_length _) (digest_lim _), ci, du, ← hur]
   simp [hj]
  ·have hne : c.issuer.xs ≠ d.subject.xs := by
    rw [ci, du, hn _ _ hr', show ((some u).getD r) = u from rfl, hn _ _ hu]
    intro h
    have := nameB_one h
    omega
   simp [hj, hne]
 ·have hj : ¬ j = i + 1 := by
   have := (List.getElem?_eq_some_iff.1 hr').1
   omega
  have hv : verB d.key.xs d.e (digest c.tbs.xs) c.sig.xs = false := by
   refine verB_len ?_
   rw [cg, if_neg (by simpa using hi), dk]
   cases j with
   | zero =>
    rw [(h0' rfl).1]
    intro h
    exact hk (List.eq_nil_of_length_eq_zero h.symm)
   | succ j =>
    obtain ⟨q, hq⟩ : ∃ q, cs[j]? = some q := ⟨_, List.getElem?_eq_getElem (by have := (List.getElem?_eq_some_iff.1 hd).1; omega)⟩
    rw [(h1' j q rfl hq).1, forKey_len]
    decide
  rw [hv]
  simp [hj]
theorem tbsB_open (s : Say) : ∃ R, tbsB s = wr 48 (verB12 ++ (wr 2 s.serial ++ (signAlgB ++ (s.issuer ++ (seqB [genB s.frm, genB s.til] ++ (s.subject ++ R)))))) := by
 unfold tbsB
 generalize (if extsB s = [] then [] else wr 163 (seqB (extsB s))) = X
 generalize seqB [keyAlgB, wr 3 (0 :: keyB s.key s.e)] = Y
 generalize seqB [genB s.frm, genB s.til] = T
 generalize wr 2 s.serial = Z
 refine ⟨Y ++ (X ++ []), ?_⟩
 unfold seqB
 simp only [List.flatten_cons, List.flatten_nil]
theorem wr_le (t : Nat) (b : List Nat) : b.length ≤ (wr t b).length := by
 unfold wr
 simp
 omega
theorem tbs_peel {S S' I I' T U U' R R' Y Y' : List Nat} (h1 : (wr 48 (verB12 ++ (wr 2 S ++ (signAlgB ++ (wr 48 I ++ (T ++ (wr 48 U ++ R))))))).length ≤ 100000) (h2 : (wr 48 (verB12 ++ (wr 2 S' ++ (signAlgB ++ (wr 48 I' ++ (T ++ (wr 48 U' ++ R'))))))).length ≤ 100000)
  (h : wr 48 (verB12 ++ (wr 2 S ++ (signAlgB ++ (wr 48 I ++ (T ++ (wr 48 U ++ R)))))) ++ Y = wr 48 (verB12 ++ (wr 2 S' ++ (signAlgB ++ (wr 48 I' ++ (T ++ (wr 48 U' ++ R')))))) ++ Y') : U = U' := by
 have l1 := Nat.le_trans (wr_le _ _) h1
 have l2 := Nat.le_trans (wr_le _ _) h2
 have p2 := (wr_inj (by decide) (by omega) (by omega) h).1
 clear h h1 h2
 simp only [List.length_append] at l1 l2
 have a1 := wr_le 2 S
 have a2 := wr_le 2 S'
 have a3 := wr_le 48 I
 have a4 := wr_le 48 I'
 have a5 := wr_le 48 U
 have a6 := wr_le 48 U'
 have p3 := List.append_cancel_left p2
 have p4 := (wr_inj (by decide) (by omega) (by omega) p3).2
 have p5 := List.append_cancel_left p4
 have p6 := (wr_inj (by decide) (by omega) (by omega) p5).2
 have p7 := List.append_cancel_left p6
 exact (wr_inj (by decide) (by omega) (by omega) p7).1
theorem name_of_raw {r u r' u' : Rung} {K K' : List Nat} {E E' x y : Nat} {b b' : Bool} (n : r.name = [x]) (n' : r'.name = [y]) (h1 : (tbsB (rungSay r u K E)).length ≤ 100000) (h2 : (tbsB (rungSay r' u' K' E')).length ≤ 100000)
  (h : (rungDone (rungSay r u K E) b).raw = (rungDone (rungSay r' u' K' E') b').raw) : x = y := by
 have hraw : ∀ (s : Say) (b : Bool), ∃ sg : List Nat, sg.length ≤ 256 ∧ (rungDone s b).raw = certB (tbsB s) sg := fun s b => by
  refine ⟨if b then forSig (digest (tbsB s)) else [], ?_, rfl⟩
  cases b
  ·simp
  ·rw [if_pos rfl, forSig_len]
   exact Nat.le_refl _
 obtain ⟨sg, g1, g2⟩ := hraw (rungSay r u K E) b
 obtain ⟨sg', g1', g2'⟩ := hraw (rungSay r' u' K' E') b'
 rw [g2, g2'] at h
 clear g2 g2' hraw
 obtain ⟨R, hR⟩ := tbsB_open (rungSay r u K E)
 obtain ⟨R', hR'⟩ := tbsB_open (rungSay r' u' K' E')
 have hw : ∀ sg : List Nat, sg.length ≤ 256 → (wr 3 (0 :: sg)).length ≤ 300 := fun sg h => Nat.le_trans (wr_len (by simp; omega)) (by simp; omega)
 have w1 := hw sg g1
 have w2 := hw sg' g1'
 have sl : signAlgB.length ≤ 100 := by decide
 obtain ⟨s1, e1⟩ : ∃ s, s = (rungSay r u K E).serial := ⟨_, rfl⟩
 obtain ⟨s2, e2⟩ : ∃ s, s = (rungSay r' u' K' E').serial := ⟨_, rfl⟩
 rw [← e1] at hR
 rw [← e2] at hR'
 have q2 : (rungSay r u K E).issuer = nameB u.name := rfl
 have q3 : (rungSay r' u' K' E').issuer = nameB u'.name := rfl
 have q4 : (rungSay r u K E).subject = nameB [x] := by rw [← n]; rfl
 have q5 : (rungSay r' u' K' E').subject = nameB [y] := by rw [← n']; rfl
 have q6 : (rungSay r u K E).frm = t2020 := rfl
 have q7 : (rungSay r u K E).til = t2060 := rfl
 have q8 : (rungSay r' u' K' E').frm = t2020 := rfl
 have q9 : (rungSay r' u' K' E').til = t2060 := rfl
 rw [q2, q4, q6, q7] at hR
 rw [q3, q5, q8, q9] at hR'
 generalize tbsB (rungSay r u K E) = t1 at *
 generalize tbsB (rungSay r' u' K' E') = t2 at *
 generalize seqB [genB t2020, genB t2060] = T at *
 have p1 : t1 ++ (signAlgB ++ (wr 3 (0 :: sg) ++ [])) = t2 ++ (signAlgB ++ (wr 3 (0 :: sg') ++ [])) := by
  have hh : wr 48 [t1, signAlgB, wr 3 (0 :: sg)].flatten ++ [] = wr 48 [t2, signAlgB, wr 3 (0 :: sg')].flatten ++ [] := by rw [List.append_nil, List.append_nil]; exact h
  exact (wr_inj (by decide) (by simp; omega) (by simp; omega) hh).1
 rw [hR] at h1 p1
 rw [hR'] at h2 p1
 unfold nameB seqB at h1 h2 p1
 have hU := tbs_peel h1 h2 p1
 refine nameB_one ?_
 unfold nameB seqB
 rw [hU]
theorem lad_raw (hs : cs.map Crt.say = ladderB l ks ke) (hn : Letters l) (hb : ∀ c ∈ cs, c.tbs.xs.length ≤ 100000) {i j : Nat} {c d : Crt} (hc : cs[i]? = some c) (hd : cs[j]? = some d) (h : c.raw.xs = d.raw.xs) : i = j := by
 obtain ⟨r, K, E, hr, hcs, h0, h1⟩ := lad_len hs i c hc
 obtain ⟨r', K', E', hr', hds, h0', h1'⟩ := lad_len hs j d hd
 have cr : c.raw.xs = _ := congrArg Say.raw hcs
 have dr : d.raw.xs = _ := congrArg Say.raw hds
 have ct : c.tbs.xs = tbsB (rungSay r ((l[i + 1]?).getD r) K E) := congrArg Say.tbs hcs
 have dt : d.tbs.xs = tbsB (rungSay r' ((l[j + 1]?).getD r') K' E') := congrArg Say.tbs hds
 have := name_of_raw (hn _ _ hr) (hn _ _ hr') (by rw [← ct]; exact hb c (List.mem_of_getElem? hc)) (by rw [← dt]; exact hb d (List.mem_of_getElem? hd)) (cr.symm.trans (h.trans dr))
 omega
theorem lad_short (hs : cs.map Crt.say = ladderB l ks ke) (hl : ∀ r ∈ l, RungOk r) (hk : ks.length ≤ 1000 ∧ Lim 256 ks) : ∀ c ∈ cs, c.tbs.xs.length ≤ 8000 ∧ c.key.xs.length ≤ 1000 := by
 intro c hc
 obtain ⟨i, hi⟩ := List.mem_iff_getElem?.1 hc
 obtain ⟨r, K, E, hr, hcs, h0, h1⟩ := lad_len hs i c hi
 have ct : c.tbs.xs = tbsB (rungSay r ((l[i + 1]?).getD r) K E) := congrArg Say.tbs hcs
 have ck : c.key.xs = K := congrArg Say.key hcs
 have hK : K.length ≤ 1000 ∧ Lim 256 K := by
  cases i with
  | zero => rw [(h0 rfl).1]; exact hk
  | succ j =>
   obtain ⟨q, hq⟩ : ∃ q, cs[j]? = some q := ⟨_, List.getElem?_eq_getElem (by have := (List.getElem?_eq_some_iff.1 hi).1; omega)⟩
   rw [(h1 j q rfl hq).1]
   exact ⟨by rw [forKey_len]; decide, forKey_lim _⟩
 have rO := hl r (List.mem_of_getElem? hr)
 have uO : RungOk ((l[i + 1]?).getD r) := by
  cases hu : l[i + 1]? with
  | none => exact rO
  | some u => exact hl u (List.mem_of_getElem? hu)
 generalize (l[i + 1]?).getD r = u at *
 have hserL : Lim 256 [1, r.serial] := fun x hx => by
  have := rO.serial
  simp at hx
  omega
 have hso : SayOk (rungSay r u K E) := ⟨rO.code, by show r.path < 0; rw [rO.path]; decide, by show r.usage < 0; rw [rO.usage]; decide, ⟨by show 2 ≤ 1000; omega, hserL⟩, ⟨Nat.le_trans (nameB_len (by have := uO.name.1; omega)) (by omega), nameB_lim uO.name.2 (by have := uO.name.1; omega)⟩, ⟨Nat.le_trans (nameB_len (by have := rO.name.1; omega)) (by omega), nameB_lim rO.name.2 (by have := rO.name.1; omega)⟩, hK, t2020_ok, t2060_ok⟩
 exact ⟨by rw [ct]; exact (tbsB_plain hso).1, by rw [ck]; exact hK.1⟩
end
theorem Crs.sub {W W' : World} {A : Option Addr} {cs : List Crt} (h : Crs W A cs) (hs : Sub W W') : Crs W' A cs := h.imp id fun ⟨g, o, h1, h2⟩ => ⟨g, o, h1, h2.sub hs⟩
def tCr (L : List Crt) : Tg := fun v W => ∃ A c, v = .slice A L.length c ∧ L.length ≤ c ∧ c ≤ maxLen ∧ Crs W A L
theorem Sp.tCr {L : List Crt} {A : Option Addr} {c : Nat} {w : World} (h1 : L.length ≤ c) (h2 : c ≤ maxLen) (h3 : Crs w A L) : Sp (tCr L) (.slice A L.length c) w := fun w' hs => ⟨A, c, rfl, h1, h2, h3.sub hs⟩
def tFnd (r : Option (List Crt)) : Tg := fun v W => ∃ u, v = .tuple #[u, .bool r.isSome] ∧ tCr (r.getD []) u W
structure PoolOk (w0 : World) (lf : Crt) (cs : List Crt) : Prop where
 pos : 0 < w0.heap.size
 ok : ∀ c ∈ lf :: cs, c.ok w0
 tbs : ∀ c ∈ lf :: cs, c.tbs.xs.length ≤ 1099511627776
 key : ∀ c ∈ lf :: cs, c.key.xs.length ≤ 70000
 len : cs.length ≤ 16
theorem PoolOk.below {w w' : World} {lf : Crt} {cs : List Crt} (h : PoolOk w lf cs) (hb : Below w.heap.size w w') : PoolOk w' lf cs :=
 ⟨Nat.lt_of_lt_of_le h.pos hb.size, fun c hc => (h.ok c hc).below hb, h.tbs, h.key, h.len⟩
theorem PoolOk.pool {w : World} {lf : Crt} {cs : List Crt} {A : Option Addr} {c : Nat} (h : PoolOk w lf cs) (hA : Crs w A cs) : ∃ gp op, Pool w lf cs A c gp op := by
 rcases hA with rfl | ⟨g, o, rfl, R⟩
 ·exact ⟨0, 0, .inl rfl, ⟨h.pos, fun i v hv => by simp [crtCells] at hv⟩, h.ok, h.tbs, h.key, h.len⟩
 ·exact ⟨g, o, .inr rfl, R, h.ok, h.tbs, h.key, h.len⟩
def FndP (r : Option (List Crt)) (w : World) (e : Ending) (W : World) : Prop := Below w.heap.size w W ∧ ∃ A c, e = .returned (.tuple #[.slice A (r.getD []).length c, .bool r.isSome]) ∧ (r.getD []).length ≤ c ∧ c ≤ maxLen ∧ Crs W A (r.getD [])
theorem find_go {w : World} {lf : Crt} {cs : List Crt} {pA : Option Addr} {pc f : Nat} {fst : Array Value} {tr : Crt → Bool} (P : PoolOk w lf cs) (hA : Crs w pA cs) (A : Anc w f fst tr) :
  Calls Tryz.prog 23 #[lf.val, .slice pA cs.length pc, .func (.func f) fst #[]] w (FndP ((hse lf cs).find tr) w) := by
 obtain ⟨gp, op, P'⟩ := P.pool (c := pc) hA
 refine (find_any P' A).mono ?_
 rintro e W ⟨q, hm⟩
 refine ⟨q, ?_⟩
 cases hr : (hse lf cs).find tr with
 | none =>
  rw [hr] at hm
  exact ⟨none, 0, hm, Nat.le_refl _, Nat.zero_le _, .inl rfl⟩
 | some r =>
  rw [hr] at hm
  obtain ⟨g, c, h1, h2, h3, h4, h5⟩ := hm
  exact ⟨_, c, h1, h2, h3, .inr ⟨g, 0, rfl, h5⟩⟩
def RchP (L : List Crt) (w : World) (e : Ending) (W : World) : Prop := Below w.heap.size w W ∧ ∃ g c, e = .returned (.slice (some ⟨g, 0, none⟩) L.length c) ∧ L.length ≤ c ∧ c ≤ maxLen ∧ Row W g 0 (crtCells L)
theorem reach_go {w : World} {lf : Crt} {cs : List Crt} {pA : Option Addr} {pc : Nat} (P : PoolOk w lf cs) (hA : Crs w pA cs) :
  Calls Tryz.prog 25 #[lf.val, .slice pA cs.length pc] w (RchP (hse lf cs).reach w) := by
 obtain ⟨gp, op, P'⟩ := P.pool (c := pc) hA
 refine (reach_any P').mono ?_
 rintro e W ⟨q, g, c, h1, h2, h3, h4, h5⟩
 exact ⟨q, g, c, h1, h2, h3, h5⟩
theorem cf_find (vs : Array Value) (w : World) : (callFunc 23 vs).run Tryz.prog w = .ok (.enter 23 vs) w := by kernel_rfl
theorem cf_reach (vs : Array Value) (w : World) : (callFunc 25 vs).run Tryz.prog w = .ok (.enter 25 vs) w := by kernel_rfl
theorem cf_same13 (vs : Array Value) (w : World) : (callFunc 26 vs).run Tryz.prog w = .ok (.enter 26 vs) w := by kernel_rfl
theorem cf_signed (vs : Array Value) (w : World) : (callFunc 42 vs).run Tryz.prog w = .ok (.enter 42 vs) w := by kernel_rfl
theorem cf_is (vs : Array Value) (w : World) : (callFunc 24 vs).run Tryz.prog w = .ok (.enter 24 vs) w := by kernel_rfl
theorem anc_is {W : World} {gt ot : Nat} {t : Sls3 Sl} (hT : W.cell? ⟨gt, ot, none⟩ = some t.val) (hR : RowsIn 1 (fun s : Sl => [s.val]) (fun s => s.ok W) W t) : Anc W 24 #[.pointer (some ⟨gt, ot, none⟩)] (trB t.l) :=
 ⟨cf_is, fun U c hb hc => is_any ((hb.cell (lt_cell hT)).trans hT) (hR.below hb (Q' := fun s => s.ok U) fun _ h => h.below hb) hc⟩
section
variable {ops : Array Oper} {Q : Exit → Act → World → Prop} {Base : Act → Prop} {dst : Nat → Nat} {tags : Nat → Tg} {w0 : World} {i : Nat} {o : Oper}
theorem st_find {lf : Crt} {cs : List Crt} {f : Nat} {fst : Array Value} {tr : Crt → Bool} (hgd : o.guard = none) (x y z : Operand) (tys : Array TypeId) (ho : o.op = .call { callee := .value (.func 23), args := #[x, y, z], argTypes := tys }) (ht : tags i = tFnd ((hse lf cs).find tr))
  (hx : Src o Base dst tags (fun w => Below w0.heap.size w0 w) x (tv lf.val)) (hy : Src o Base dst tags (fun w => Below w0.heap.size w0 w) y (tCr cs)) (hz : Src o Base dst tags (fun w => Below w0.heap.size w0 w) z (tv (.func (.func f) fst #[]))) (A : Anc w0 f fst tr) (P : PoolOk w0 lf cs) :
  StepOk Tryz.prog ops Q Base dst (fun i v w => Sp (tags i) v w) (fun w => Below w0.heap.size w0 w) i o :=
 st_call hgd (fun a W => run_call ho cf_find a W) fun a W hb hd hg => by
  have h1 : a.eval x = lf.val := (hx a W hb hd hg).now
  obtain ⟨B, c, h2, h3, h4, h5⟩ := (hy a W hb hd hg).now
  have h6 : a.eval z = .func (.func f) fst #[] := (hz a W hb hd hg).now
  simp only [List.map_toArray, List.map_cons, List.map_nil, h1, h2, h6]
  refine (find_go (P.below hg) h5 (A.below hg)).mono ?_
  rintro e W' ⟨q, B', c', h7, h8, h9, h10⟩
  exact ⟨_, h7, q, by rw [ht]; exact fun w' hs => ⟨_, rfl, B', c', rfl, h8, h9, h10.sub hs⟩⟩
theorem st_reach {lf : Crt} {cs : List Crt} (hgd : o.guard = none) (x y : Operand) (tys : Array TypeId) (ho : o.op = .call { callee := .value (.func 25), args := #[x, y], argTypes := tys }) (ht : tags i = tCr (hse lf cs).reach)
  (hx : Src o Base dst tags (fun w => Below w0.heap.size w0 w) x (tv lf.val)) (hy : Src o Base dst tags (fun w => Below w0.heap.size w0 w) y (tCr cs)) (P : PoolOk w0 lf cs) :
  StepOk Tryz.prog ops Q Base dst (fun i v w => Sp (tags i) v w) (fun w => Below w0.heap.size w0 w) i o :=
 st_call hgd (fun a W => run_call ho cf_reach a W) fun a W hb hd hg => by
  have h1 : a.eval x = lf.val := (hx a W hb hd hg).now
  obtain ⟨B, c, h2, h3, h4, h5⟩ := (hy a W hb hd hg).now
  simp only [List.map_toArray, List.map_cons, List.map_nil, h1, h2]
  refine (reach_go (P.below hg) h5).mono ?_
  rintro e W' ⟨q, g, c', h7, h8, h9, h10⟩
  exact ⟨_, h7, q, by rw [ht]; exact Sp.tCr h8 h9 (.inr ⟨g, 0, rfl, h10⟩)⟩
theorem st_same {cs ds : List Crt} (hgd : o.guard = none) (x y : Operand) (tys : Array TypeId) (ho : o.op = .call { callee := .value (.func 26), args := #[x, y], argTypes := tys }) (b : Bool) (hb : decide (cs.map Crt.say = ds.map Crt.say) = b) (ht : tags i = tv (.bool b))
  (hx : Src o Base dst tags (fun w => Below w0.heap.size w0 w) x (tCr cs)) (hy : Src o Base dst tags (fun w => Below w0.heap.size w0 w) y (tCr ds)) (hc : ∀ c ∈ cs, c.ok w0) (hd : ∀ c ∈ ds, c.ok w0) (hl : cs.length ≤ 1000000) :
  StepOk Tryz.prog ops Q Base dst (fun i v w => Sp (tags i) v w) (fun w => Below w0.heap.size w0 w) i o :=
 st_call hgd (fun a W => run_call ho cf_same13 a W) fun a W hba hdp hg => by
  obtain ⟨B, c, h2, h3, h4, h5⟩ := (hx a W hba hdp hg).now
  obtain ⟨B', c', h2', h3', h4', h5'⟩ := (hy a W hba hdp hg).now
  simp only [List.map_toArray, List.map_cons, List.map_nil, h2, h2']
  refine (same13_any h5 h5' (fun c h => (hc c h).below hg) (fun c h => (hd c h).below hg) hl).mono ?_
  rintro e W' ⟨rfl, q⟩
  exact ⟨_, rfl, q, by rw [ht, hb]; exact Sp.tv rfl⟩
theorem st_signed {c d : Crt} (hgd : o.guard = none) (x y : Operand) (tys : Array TypeId) (ho : o.op = .call { callee := .value (.func 42), args := #[x, y], argTypes := tys }) (b : Bool) (hb : sgB c d = b) (ht : tags i = tv (.bool b))
  (hx : Src o Base dst tags (fun w => Below w0.heap.size w0 w) x (tv c.val)) (hy : Src o Base dst tags (fun w => Below w0.heap.size w0 w) y (tv d.val)) (hc : c.ok w0) (hd : d.ok w0) (hl : c.tbs.xs.length ≤ 1099511627776) (hk : d.key.xs.length ≤ 70000) :
  StepOk Tryz.prog ops Q Base dst (fun i v w => Sp (tags i) v w) (fun w => Below w0.heap.size w0 w) i o :=
 st_call hgd (fun a W => run_call ho cf_signed a W) fun a W hba hdp hg => by
  have h1 : a.eval x = c.val := (hx a W hba hdp hg).now
  have h2 : a.eval y = d.val := (hy a W hba hdp hg).now
  simp only [List.map_toArray, List.map_cons, List.map_nil, h1, h2]
  refine (chSigned_any c d W (hc.below hg) (hd.below hg) hl hk).mono ?_
  rintro e W' ⟨rfl, q⟩
  exact ⟨_, rfl, q, by rw [ht, hb]; exact Sp.tv rfl⟩
theorem fill_crt2 (c d : Crt) (z : Array Value) (hz : z = Crt.none.cells.toArray) : Instr.fill (fun i => some (i * 24, 24)) ((Array.range (2 * 24)).map (z[· % z.size]!)) [(0, .agg c.cells.toArray), (1, .agg d.cells.toArray)] = some (c.cells ++ d.cells).toArray := by
 subst hz
 kernel_rfl
theorem st_cert2 {c d : Crt} (hgd : o.guard = none) (x y : Operand) (ho : o.op = .buildSlice 31 2 #[(0, x), (1, y)]) (ht : tags i = tCr [c, d]) (hx : Src o Base dst tags (fun w => Below w0.heap.size w0 w) x (tv c.val)) (hy : Src o Base dst tags (fun w => Below w0.heap.size w0 w) y (tv d.val)) :
  StepOk Tryz.prog ops Q Base dst (fun i v w => Sp (tags i) v w) (fun w => Below w0.heap.size w0 w) i o := by
 obtain ⟨ie, hie, hzz⟩ := Option.map_eq_some_iff.1 info_crt
 simp only [Prod.mk.injEq] at hzz
 obtain ⟨hz0, hs1, hb⟩ := hzz
 refine st_slice (e := 30) (ie := ie) (z := .agg Crt.none.cells.toArray) hgd ho Tryz.underlying31 hie hz0 (by rw [hs1]; decide) (by rw [hs1]; decide) fun a W hba hdp hg => ?_
 have h1 : a.eval x = c.val := (hx a W hba hdp hg).now
 have h2 : a.eval y = d.val := (hy a W hba hdp hg).now
 refine ⟨(c.cells ++ d.cells).toArray, ?_, ?_⟩
 ·rw [hs1]
  simp only [List.map_toArray, List.map_cons, List.map_nil, h1, h2]
  exact fill_crt2 c d _ rfl
 ·rw [ht]
  exact Sp.tCr (L := [c, d]) (Nat.le_refl _) (by decide) (.inr ⟨_, 0, rfl, by simpa [crtCells] using row_new (c.cells ++ d.cells)⟩)
theorem st_ext0 {r : Option (List Crt)} {G : World → Prop} (hgd : o.guard = none) (x : Operand) (ho : o.op = .extract x 0) (ht : tags i = tCr (r.getD [])) (hx : Src o Base dst tags G x (tFnd r)) : StepOk Tryz.prog ops Q Base dst (fun i v w => Sp (tags i) v w) G i o :=
 st_run hgd fun a w hb hd hg => by
  have hS := hx a w hb hd hg
  obtain ⟨u, h1, A, c, rfl, h3, h4, h5⟩ := hS.now
  refine ⟨_, w, ?_, Sub.refl w, hg, by rw [ht]; exact Sp.tCr h3 h4 h5⟩
  unfold execOp
  simp only [ho, h1]
  go_simp
theorem st_ext1 {r : Option (List Crt)} {G : World → Prop} (hgd : o.guard = none) (x : Operand) (ho : o.op = .extract x 1) (b : Bool) (hb : r.isSome = b) (ht : tags i = tv (.bool b)) (hx : Src o Base dst tags G x (tFnd r)) : StepOk Tryz.prog ops Q Base dst (fun i v w => Sp (tags i) v w) G i o :=
 st_run hgd fun a w hba hd hg => by
  obtain ⟨u, h1, _⟩ := (hx a w hba hd hg).now
  refine ⟨.bool r.isSome, w, ?_, Sub.refl w, hg, by rw [ht, hb]; exact Sp.tv rfl⟩
  unfold execOp
  simp only [ho, h1]
  go_simp
theorem st_bound {G : World → Prop} {f : Nat} {p : Value} (hgd : o.guard = none) (x : Operand) (ho : o.op = .makeFunc (.func f) #[x] #[]) (ht : tags i = tv (.func (.func f) #[p] #[])) (hx : Src o Base dst tags G x (tv p)) : StepOk Tryz.prog ops Q Base dst (fun i v w => Sp (tags i) v w) G i o :=
 st_run hgd fun a w hba hd hg => by
  have h1 : a.eval x = p := (hx a w hba hd hg).now
  refine ⟨.func (.func f) #[p] #[], w, ?_, Sub.refl w, hg, by rw [ht]; exact Sp.tv rfl⟩
  have h3 : (#[x] : Array Operand).map a.eval = #[p] := by simp only [List.map_toArray, List.map_cons, List.map_nil, h1]
  unfold execOp
  simp only [ho, h3]
  first | rfl | go_simp
theorem st_len {L : List Crt} {G : World → Prop} (hgd : o.guard = none) (x : Operand) (ho : o.op = .call { callee := .builtin .len, args := #[x], argTypes := #[31] }) (n : Int) (hn : (L.length : Int) = n) (ht : tags i = tv (.int .i64 n)) (hx : Src o Base dst tags G x (tCr L)) : StepOk Tryz.prog ops Q Base dst (fun i v w => Sp (tags i) v w) G i o :=
 st_run hgd fun a w hba hd hg => by
  obtain ⟨A, c, h1, _⟩ := (hx a w hba hd hg).now
  refine ⟨.int .i64 (L.length : Int), w, ?_, Sub.refl w, hg, by rw [ht, hn]; exact Sp.tv rfl⟩
  have h3 : (#[x] : Array Operand).map a.eval = #[.slice A L.length c] := by simp only [List.map_toArray, List.map_cons, List.map_nil, h1]
  unfold execOp
  simp only [ho, h3]
  go_simp
theorem Src.cr {L : List Crt} {x : Operand} {A : Option Addr} {c : Nat} (h : Src o Base dst tags (fun w => Below w0.heap.size w0 w) x (tv (.slice A L.length c))) (h1 : L.length ≤ c) (h2 : c ≤ maxLen) (hc : Crs w0 A L) : Src o Base dst tags (fun w => Below w0.heap.size w0 w) x (tCr L) := fun a w hb hd hg => by
 have h3 : a.eval x = _ := (h a w hb hd hg).now
 rw [h3]
 exact Sp.tCr h1 h2 (hc.below hg)
end
end Go.Proofs.YtchaahnhpeoomaaGreat
