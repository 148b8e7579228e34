/-
  For the walks of the statements on signers: parts of rows, places of fields, arrays compared, what operations of a drawn region yield.
-/
import Derived.Test.YtchaahnhpeoomaaGreatGRgt
import Derived.Test.YtchaahnhpeoomaaGreatOpn
namespace Go.Proofs.YtchaahnhpeoomaaGreat
set_option linter.unusedVariables false
set_option linter.unusedSimpArgs false
set_option maxRecDepth 20000
open Go.RowKit

theorem fa_two0 (g off : Nat) (W : World) : (Instr.fieldAt 78 (.pointer (some ⟨g, off, none⟩)) 0).run Tryz.prog W = .ok (.pointer (some ⟨g, off, none⟩)) W := by go_simp
theorem Row.split {w : World} {g o : Nat} {a b : List Value} (h : Row w g o (a ++ b)) : Row w g o a ∧ Row w g (o + a.length) b := by
  refine ⟨⟨h.1, fun i v hv => ?_⟩, ⟨h.1, fun i v hv => ?_⟩⟩
  · exact h.2 i v (by rw [List.getElem?_append_left (List.getElem?_eq_some_iff.1 hv).1]; exact hv)
  · have := h.2 (a.length + i) v (by rw [List.getElem?_append_right (by omega), show a.length + i - a.length = i by omega]; exact hv)
    rwa [← Nat.add_assoc] at this
theorem Row.at_ {w : World} {g o o' i : Nat} {v : Value} {vs : List Value} (h : Row w g o vs) (hv : vs[i]? = some v) (ho : o' = o + i) : w.cell? ⟨g, o', none⟩ = some v := by subst ho; exact h.2 i v hv
theorem Row.move {w : World} {g o o' : Nat} {vs : List Value} (h : Row w g o vs) (ho : o = o') : Row w g o' vs := ho ▸ h
theorem eqItems_decS (xs ys : List Nat) (w : World) : ∀ is : List Nat, (∀ i ∈ is, i < xs.length) → (∀ i ∈ is, i < ys.length) → (Op.eqItems 9999 5 (Tryz.prog.cellsOf 5) (ints .u8 xs).toArray (ints .u8 ys).toArray is).run Tryz.prog w = .ok (is.all fun i => decide (xs[i]? = ys[i]?)) w
  | [], _, _ => by simp [Op.eqItems]
  | i :: is, h, h' => by
    have hi := h i (by simp)
    have hi' := h' i (by simp)
    have ih := eqItems_decS xs ys w is (fun j hj => h j (by simp [hj])) (fun j hj => h' j (by simp [hj]))
    have hc : Tryz.prog.cellsOf 5 = 1 := by kernel_rfl
    have h4 : ∀ w, (isAgg 5).run Tryz.prog w = .ok false w := fun w => by kernel_rfl
    have hp : ∀ (zs : List Nat) (hz : i < zs.length), (Go.part 5 (ints .u8 zs).toArray (i * Tryz.prog.cellsOf 5)).run Tryz.prog w = .ok (.int .u8 (zs[i] : Int)) w := fun zs hz => by
      have h5 := ints_get (k := .u8) (List.getElem?_eq_getElem hz)
      rw [hc, Nat.mul_one]
      simp [Go.part, Sem.run_bind, h4, Result.andThen, h5]
    have he : (Op.equalIn 9999 5 (.int .u8 (xs[i] : Int)) (.int .u8 (ys[i] : Int))).run Tryz.prog w = .ok (decide (xs[i]? = ys[i]?)) w := by
      have := run_equalIn_int (P := Tryz.prog) (w := w) 9998 5 .u8 .u8 (xs[i] : Int) (ys[i] : Int) Tryz.underlying5
      rw [show decide (xs[i]? = ys[i]?) = ((xs[i] : Int) == (ys[i] : Int)) from by
        rw [Bool.eq_iff_iff]
        simp [List.getElem?_eq_getElem hi, List.getElem?_eq_getElem hi']
        omega]
      exact this
    simp only [Op.eqItems, Sem.run_bind, hp xs hi, hp ys hi', he, Result.andThen_ok]
    by_cases hx : xs[i]? = ys[i]?
    · simpa [hx] using ih
    · simp [hx]
theorem all_eqS {xs ys : List Nat} {n : Nat} (hx : xs.length = n) (hy : ys.length = n) : ((List.range n).all fun i => decide (xs[i]? = ys[i]?)) = decide (xs = ys) := by
  rw [Bool.eq_iff_iff, List.all_eq_true, decide_eq_true_eq]
  constructor
  · intro h
    apply List.ext_getElem?
    intro i
    by_cases hi : i < n
    · simpa using h i (by simpa using hi)
    · rw [List.getElem?_eq_none (by omega), List.getElem?_eq_none (by omega)]
  · rintro rfl i _
    simp
theorem eql_decS (xs ys : List Nat) (hl : xs.length = 32) (hl' : ys.length = 32) (w : World) : (binOp .eql 49 (.agg (ints .u8 xs).toArray) (.agg (ints .u8 ys).toArray)).run Tryz.prog w = .ok (.bool (decide (xs = ys))) w := by
  obtain ⟨i, hi⟩ : ∃ i, Tryz.prog.info? 5 = some i := info_of_underlying Tryz.underlying5
  have h := run_equalIn_array (P := Tryz.prog) (w := w) 9999 (ints .u8 xs).toArray (ints .u8 ys).toArray Tryz.underlying49 hi
  rw [eqItems_decS xs ys w _ (fun j hj => by rw [hl]; simpa using hj) (fun j hj => by rw [hl']; simpa using hj), all_eqS hl hl'] at h
  rw [run_eql_struct, h]
  rfl
/-- Two arrays of 32 bytes compared. -/
theorem wpList_eql_arr {ops : Array Oper} {rest : List Oper} {op : Oper} {a : Act} {w : World} {Q : Exit → Act → World → Prop} (x y : Operand) (ho : op.op = .binOp .eql 49 x y 49) (xs ys : List Nat) (hl : xs.length = 32) (hl' : ys.length = 32)
    (hx : a.eval x = .agg (ints .u8 xs).toArray) (hy : a.eval y = .agg (ints .u8 ys).toArray) (hgd : Region.wanted op (yielded ops a.tmps) = true)
    (h : wpList Tryz.prog ops Q rest (a.put op.dst (.bool (decide (xs = ys)))) w) : wpList Tryz.prog ops Q (op :: rest) a w :=
  wpList_step fun K hK => by
    rw [if_pos hgd]
    unfold Oper.wp execOp
    simp only [ho, hx, hy, Sem.run_bind, arr_guard, Result.andThen_ok, eql_decS xs ys hl hl', Sem.run_pure]
    exact hK _ _ h
theorem sz_crt (c : Crt) : (Tryz.prog.info? 30).map (·.size) = some c.cells.length := sz_cert
theorem sz_sgn (s : Sgn) : (Tryz.prog.info? 67).map (·.size) = some s.cells.length := sz_sgr
theorem sz_sg (s : Sgd) : (Tryz.prog.info? 48).map (·.size) = some s.cells.length := sz_sgd
theorem sz_arr {xs : List Nat} (h : Hid (xs.length = 32)) : (Tryz.prog.info? 49).map (·.size) = some (ints .u8 xs).length := by rw [ints_length, h.out]; exact size_32u8
theorem Sgn.ok.sub {w w' : World} {s : Sgn} (h : s.ok w) (hs : Sub w w') : s.ok w' := ⟨h.issuer.sub hs, h.serial.sub hs, h.attrs.sub hs, h.kind.sub hs, h.digest.sub hs, h.sig.sub hs⟩
theorem SMem.sub {G : Sgd} {cs : List Crt} {ss : List Sgn} {gc oc gs os : Nat} {w w' : World} (h : SMem G cs ss gc oc gs os w) (hs : Sub w w') : SMem G cs ss gc oc gs os w' :=
  ⟨h.kind.sub hs, h.content.sub hs, h.cn, h.cl, h.cA, h.cR.sub hs, fun c hc => (h.cok c hc).sub hs, h.ck, h.sn, h.sl, h.sA, fun i s hi => (h.sR i s hi).sub hs, fun s hs' => (h.sok s hs').sub hs, h.sa⟩
theorem zero_key : (Tryz.prog.info? 28).map (fun i => i.zero) = some (some (.agg [.slice none 0 0, .int .u64 0].toArray)) := by kernel_rfl
def sgn0 : List Value := [.slice none 0 0, .slice none 0 0, .slice none 0 0, .slice none 0 0, .slice none 0 0, .slice none 0 0]
theorem zero_sgn0 : (Tryz.prog.info? 67).map (fun i => i.zero) = some (some (.agg sgn0.toArray)) := by kernel_rfl
/-- A row of its own that does not lie below. -/
def trow (B n : Nat) (cells : List Value) : Tg := fun v W => ∃ g, v = .slice (some ⟨g, 0, none⟩) n n ∧ Row W g 0 cells ∧ B ≤ g
theorem info_crt : (Tryz.prog.info? 30).map (fun i => (i.zero, i.size, i.bytes)) = some (some (.agg Crt.none.cells.toArray), 24, 224) := by kernel_rfl
theorem fill_crt (c : Crt) (z : Array Value) (hz : z = Crt.none.cells.toArray) : Instr.fill (fun i => some (i * 24, 24)) ((Array.range (1 * 24)).map (z[· % z.size]!)) [(0, .agg c.cells.toArray)] = some c.cells.toArray := by
  subst hz
  kernel_rfl
theorem off_sgd0 {w : World} {g : Nat} {A : Option Addr} {xs : List Nat} {t : TypeId} (h : Rd .u8 w A xs) (hh : w.heap[g]? = some (.cells (Value.agg sgd0.toArray).cells t (0, 0))) : Off A xs g := by
  cases xs with
  | nil => exact Off.nil _ _
  | cons x xs =>
    obtain ⟨b, o, rfl, hb, hc⟩ := h.pos (i := 0) (x := x) rfl
    refine Off.of_ne ?_
    rintro rfl
    have h1 := hc 0 x rfl
    rw [Nat.add_zero, cell_of_row w b o _ t (0, 0) hh] at h1
    have h2 : sgd0[o]? = some (.int .u8 (x : Int)) := by simpa [Value.cells] using h1
    have h3 := List.mem_of_getElem? h2
    simp [sgd0] at h3
theorem row_sgd0 {w w' : World} {g b o i : Nat} {t : TypeId} {vs : List Value} {v : Value} (h : Row w b o vs) (hh : w.heap[g]? = some (.cells (Value.agg sgd0.toArray).cells t (0, 0))) (hg : w.grownBy w' (some g)) (hv : vs[i]? = some v) (hbad : ¬ sgd0[o + i]? = some v) : Row w' b o vs := by
  refine h.keep hg.size (hg.block b h.1 fun e => ?_)
  have e : b = g := Option.some.inj e
  subst e
  have h1 := h.2 i v hv
  rw [cell_of_row w b (o + i) _ t (0, 0) hh] at h1
  exact hbad (by simpa [Value.cells] using h1)
theorem SMem.grownS {G : Sgd} {c : Crt} {s : Sgn} {gc gs g : Nat} {w w' : World} {t : TypeId} (h : SMem G [c] [s] gc 0 gs 0 w) (hh : w.heap[g]? = some (.cells (Value.agg sgd0.toArray).cells t (0, 0))) (hg : w.grownBy w' (some g)) (hc : c.ok w') : SMem G [c] [s] gc 0 gs 0 w' := by
  have ok : ∀ {x : Sl}, x.ok w → x.ok w' := fun {x} hx => hx.grown hg fun g' e => by cases e; exact off_sgd0 hx.rd hh
  refine ⟨ok h.kind, ok h.content, h.cn, h.cl, h.cA, ?_, fun d hd => by rw [List.mem_singleton.1 hd]; exact hc, h.ck, h.sn, h.sl, h.sA, fun i d hi => ?_, fun d hd => ?_, h.sa⟩
  · exact row_sgd0 (i := 20) (v := .bool c.ca) h.cR hh hg (by simp [crtCells, Crt.cells, Tm.cells]) (by simp [sgd0])
  · rcases i with _ | i
    · exact row_sgd0 (i := 5) (v := d.sig.val) (h.sR 0 d hi) hh hg rfl (by simp [sgd0])
    · simp at hi
  · have q := h.sok d hd
    exact ⟨ok q.issuer, ok q.serial, ok q.attrs, ok q.kind, ok q.digest, ok q.sig⟩
section
variable {P : Program} {ops : Array Oper} {Q : Exit → Act → World → Prop} {Base : Act → Prop} {dst : Nat → Nat} {tags : Nat → Tg} {w0 : World} {i : Nat} {o : Oper}
theorem row_alloc (w : World) (cs : List Value) (t : TypeId) : Row (w.alloc (.cells cs.toArray t)) w.heap.size 0 cs := row_new cs
/-- A literal of one certificate. -/
theorem st_crt1 {x : Operand} {c : Crt} (hgd : o.guard = none) (ho : o.op = .buildSlice 31 1 #[(0, x)]) (ht : tags i = trow w0.heap.size 1 c.cells) (hx : Src o Base dst tags (fun w => Below w0.heap.size w0 w) x (tv (.agg c.cells.toArray))) :
    StepOk Tryz.prog ops Q Base dst (fun i v w => Sp (tags i) v w) (fun w => Below w0.heap.size w0 w) i o := by
  obtain ⟨ie, hi, hzz⟩ := Option.map_eq_some_iff.1 info_crt
  simp only [Prod.mk.injEq] at hzz
  obtain ⟨hz, hs1, hb⟩ := hzz
  refine st_slice hgd ho Tryz.underlying31 hi hz (by rw [hs1]; decide) (by rw [hs1]; decide) fun a w hb hd hg => ⟨c.cells.toArray, ?_, ?_⟩
  · have h1 : a.eval x = _ := (hx a w hb hd hg).now
    rw [hs1]
    simp only [List.map_toArray, List.map_cons, List.map_nil, h1]
    exact fill_crt c _ rfl
  · rw [ht]
    exact fun w' hs => ⟨w.heap.size, rfl, (row_alloc w _ _).sub hs, hg.size⟩
theorem st_sgr1 {x : Operand} {T : Sgn → Tg} (hgd : o.guard = none) (ho : o.op = .buildSlice 46 1 #[(0, x)])
    (h : ∀ a w, Base a → Deps o dst tags a w → Below w0.heap.size w0 w → ∃ s : Sgn, a.eval x = .agg s.cells.toArray ∧ Sp (tags i) (.slice (some ⟨w.heap.size, 0, none⟩) 1 1) (w.alloc (.cells s.cells.toArray 67))) :
    StepOk Tryz.prog ops Q Base dst (fun i v w => Sp (tags i) v w) (fun w => Below w0.heap.size w0 w) i o := by
  obtain ⟨ie, hi, hzz⟩ := Option.map_eq_some_iff.1 info_sgr
  simp only [Prod.mk.injEq] at hzz
  obtain ⟨hz, hs1, hb⟩ := hzz
  refine st_slice hgd ho Tryz.underlying46 hi hz (by rw [hs1]; decide) (by rw [hs1]; decide) fun a w hb hd hg => ?_
  obtain ⟨s, h1, h2⟩ := h a w hb hd hg
  refine ⟨s.cells.toArray, ?_, h2⟩
  rw [hs1]
  simp only [List.map_toArray, List.map_cons, List.map_nil, h1]
  exact fill_sgr s _ rfl
end
theorem case_set (KA : Option Addr) (kn kc oth : Nat) (ds : List Nat) (at_ : Bool) (hd : ds.length = 32) : (caseCells KA kn kc ds at_ oth).set 33 (.bool true) = caseCells KA kn kc ds true oth := by
  unfold caseCells
  rw [List.set_append_right _ _ (by simp [ints_length]; omega)]
  simp [ints_length, hd]
/-- Made, of any case. -/
theorem made_case {K : Option Addr × Nat × List Nat} {ds : List Nat} {at_ : Bool} {oth : Nat} {w : World} (q : SqOk w K) (hd : ds.length = 32) (ld : Lim 256 ds) (ho : oth < 256) :
    Calls Tryz.prog 35 #[.agg (caseCells K.1 K.2.2.length K.2.1 ds at_ oth).toArray] w fun e w' =>
      ∃ (G : Sgd) (cs : List Crt) (s : Sgn) (c : Crt) (sum : List Nat) (gA gz : Nat), e = .returned G.val ∧ SMem G cs [s] gA 0 gz 0 w' ∧ G.kind.xs = kindB K.2.2 ∧ G.content.xs = wr 4 ds ∧ MadeD ds (kindB K.2.2) at_ (oth % 3) cs s c sum ∧ Below w.heap.size w w' := by
  obtain ⟨k1, k2, k3⟩ := kindB_ok K.2.2
  exact (sMade_any K.1 K.2.2.length K.2.1 oth ds (kindB K.2.2) at_ w hd ld ho k1 k2 k3 (fun W hb => kind_any K.1 _ K.2.1 K.2.2 W rfl q.small (q.rd.below hb) q.lim)).mono fun e w' h => made_mem h k2 hd
theorem kind_sl {K : Option Addr × Nat × List Nat} {w : World} (q : SqOk w K) : Calls Tryz.prog 36 #[.slice K.1 K.2.2.length K.2.1] w (Gives .u8 (kindB K.2.2) w) := kind_any K.1 _ K.2.1 K.2.2 w rfl q.small q.rd q.lim
theorem SqOk.below {w w' : World} {K : Option Addr × Nat × List Nat} (q : SqOk w K) (hb : Below w.heap.size w w') : SqOk w' K := ⟨q.cap, q.max, q.rd.below hb, q.lim, q.small⟩
theorem Row.far {w : World} {g o : Nat} {vs : List Value} (h : Row w g o vs) {p : Addr} (hp : g ≠ p.block) (u : Value) : Row (w.setCell p u) g o vs := h.keep (by simp) (Below.heap_setCell w p u g hp)
theorem Sl.ok.far {w : World} {s : Sl} (h : s.ok w) {p : Addr} (hp : Off s.A s.xs p.block) (u : Value) : s.ok (w.setCell p u) := by
  refine ⟨h.rd.keep (by simp) ?_, h.lim, h.cap, h.max⟩
  rcases hp with hx | hx
  · exact .inl hx
  · exact .inr fun ad e _ => Below.heap_setCell w p u _ (hx ad e)
theorem Row.rd {w : World} {g o : Nat} {xs : List Nat} (h : Row w g o (ints .u8 xs)) : Rd .u8 w (some ⟨g, o, none⟩) xs := .inr ⟨g, o, rfl, h.1, fun i x hx => h.2 i _ (ints_get hx)⟩
section
variable {w : World} {ops : Array Oper} {rest : List Oper} {o : Oper} {a : Act} {Q : Exit → Act → World → Prop}
theorem wpList_build_sgrV (hgd : o.guard = none) (x : Operand) (ho : o.op = .buildSlice 46 1 #[(0, x)]) (c : Sgn) (hx : a.eval x = .agg c.cells.toArray)
    (h : ∀ g w', Hid (g = w.heap.size) → Row w' g 0 c.cells → Below w.heap.size w w' → wpList Tryz.prog ops Q rest (a.put o.dst (.slice (some ⟨g, 0, none⟩) 1 1)) w') : wpList Tryz.prog ops Q (o :: rest) a w :=
  wpList_build_sgr hgd x ho c hx (h _ _ rfl (row_new _) ((Below.refl _ _).alloc (Nat.le_refl _) _))
theorem wpList_build_certV (hgd : o.guard = none) (x : Operand) (ho : o.op = .buildSlice 31 1 #[(0, x)]) (c : Crt) (hx : a.eval x = .agg c.cells.toArray)
    (h : ∀ g w', Hid (g = w.heap.size) → Row w' g 0 c.cells → Below w.heap.size w w' → wpList Tryz.prog ops Q rest (a.put o.dst (.slice (some ⟨g, 0, none⟩) 1 1)) w') : wpList Tryz.prog ops Q (o :: rest) a w :=
  wpList_build_cert hgd x ho c hx (h _ _ rfl (row_new _) ((Below.refl _ _).alloc (Nat.le_refl _) _))
end
/-- Other signers in signed data. -/
theorem SMem.signers {G : Sgd} {cs : List Crt} {ss ss' : List Sgn} {gc oc gs os g c n : Nat} {w : World} (h : SMem G cs ss gc oc gs os w) (hn : n = ss'.length) (hl : ss'.length ≤ 1000000) (hr : ∀ i s, ss'[i]? = some s → Row w g (0 + i * 6) s.cells) (ho : ∀ s ∈ ss', s.ok w) (ha : ∀ s ∈ ss', s.attrs.xs.length ≤ 1099511627776) :
    SMem { G with SA := some ⟨g, 0, none⟩, sn := n, sc := c } cs ss' gc oc g 0 w := ⟨h.kind, h.content, h.cn, h.cl, h.cA, h.cR, h.cok, h.ck, hn, hl, .inr rfl, hr, ho, ha⟩
theorem SMem.signer1 {G : Sgd} {cs : List Crt} {ss : List Sgn} {s : Sgn} {gc oc gs os g c : Nat} {w : World} (h : SMem G cs ss gc oc gs os w) (hr : Row w g 0 s.cells) (ho : s.ok w) (ha : s.attrs.xs.length ≤ 1099511627776) :
    SMem { G with SA := some ⟨g, 0, none⟩, sn := 1, sc := c } cs [s] gc oc g 0 w := h.signers rfl (by simp) (fun i d hi => by
      rcases i with _ | i
      · have e1 : s = d := by simpa using hi
        rw [← e1]
        simpa using hr
      · simp at hi) (fun d hd => by rw [List.mem_singleton.1 hd]; exact ho) (fun d hd => by rw [List.mem_singleton.1 hd]; exact ha)
/-- What a signer of certificates that are made answers, whatever its attributes tell. -/
theorem made_tells {ds kb : List Nat} {n : Nat} {cs : List Crt} {s : Sgn} {c : Crt} {sum : List Nat} (D : MadeD ds kb true n cs s c sum) (x y : Sl) (kd ask : List Nat) :
    rightAt cs [{ s with digest := x, kind := y }] 0 kd ask = if (decide (y.xs = kd) && decide (x.xs = ask)) = true then some c else none := by
  have hf : cs.find? (fitsB { s with digest := x, kind := y }) = some c := D.find
  have ha : s.attrs.xs = attrsB kb ds := D.sat
  have hy : sgYes { s with digest := x, kind := y } kd ask c = (decide (y.xs = kd) && decide (x.xs = ask)) := by
    unfold sgYes
    have h1 : ({ s with digest := x, kind := y } : Sgn).attrs.xs ≠ [] := by
      show s.attrs.xs ≠ []
      rw [ha]
      exact attrsB_ne _ _
    rw [if_neg h1]
    have h2 : verB c.key.xs c.e (digest s.attrs.xs) s.sig.xs = true := by
      rw [D.key, D.ke, D.ssg, ver_for D.sl D.sm, ha, D.sumq]
      simp
    show (decide (y.xs = kd) && decide (x.xs = ask) && verB c.key.xs c.e (digest s.attrs.xs) s.sig.xs) = _
    rw [h2, Bool.and_true]
  unfold rightAt rightOf
  simp [hf, Option.filter, hy]
theorem ex_rem_u8 {x : Operand} {a : Act} {n : Nat} {o : Oper} (ho : o.op = .binOp .rem 5 x (.const (.int .u8 3)) 5) (h : a.eval x = .int .u8 (n : Int)) (W : World) : (execOp a.eval o).run Tryz.prog W = .ok (.value (.int .u8 ((n % 3 : Nat) : Int))) W := by
  have hc : a.eval (.const (.int .u8 3)) = .int .u8 3 := rfl
  have ht : (n : Int).tmod 3 = (n : Int) % 3 := Int.tmod_eq_emod_of_nonneg (by omega)
  unfold execOp
  simp only [ho, h, hc]
  go_simp
theorem ex_conv_u8 {x : Operand} {a : Act} {n : Nat} {o : Oper} (hn : n < 256) (ho : o.op = .convert 5 3 x) (h : a.eval x = .int .u8 (n : Int)) (W : World) : (execOp a.eval o).run Tryz.prog W = .ok (.value (.int .i64 (n : Int))) W := by
  have hc : IntKind.i64.wrap (n : Int) = (n : Int) := IntWalk.i64_in _ (by omega)
  unfold execOp
  simp only [ho, h]
  go_simp
theorem cf_right (vs : Array Value) (W : World) : (callFunc 30 vs).run Tryz.prog W = .ok (.enter 30 vs) W := by go_simp
theorem cf_eqb (vs : Array Value) (W : World) : (callFunc 37 vs).run Tryz.prog W = .ok (.enter 37 vs) W := by go_simp
theorem addr_addC (bk off i : Nat) : (⟨bk, off, none⟩ : Addr).add i = ⟨bk, off + i, none⟩ := by unfold Addr.add; split <;> simp_all
/-- append of certificates onto a row of the call's own. -/
theorem wpList_append_crt {P : Program} {w : World} {ops : Array Oper} {rest : List Oper} {o : Oper} {a : Act} {Q : Exit → Act → World → Prop} (hu : P = Tryz.prog) (hgd : o.guard = none) (s x : Operand) (ho : o.op = .call { callee := .builtin .append, args := #[s, x], argTypes := #[31, 31] })
    (B : Nat) (v : Value) (l : List Crt) (n : Nat) (hs : a.eval s = v) (hn : n = l.length) (hown : w.ownsRow B 30 24 v n (crtCells l)) (g off c m : Nat) (news : List Crt) (hx : a.eval x = .slice (some ⟨g, off, none⟩) m c) (hm : m = news.length) (hR : Row w g off (crtCells news)) (hsm : n + m ≤ 1000000) (hB : B ≤ w.heap.size)
    (h : ∀ v' w', w'.ownsRow B 30 24 v' (n + m) (crtCells (l ++ news)) → (∀ A, Below B A w → Below B A w') → wpList P ops Q rest (a.put o.dst v') w') : wpList P ops Q (o :: rest) a w := by
  subst hu hn hm
  refine wpList_append_V hgd s x _ ho B 30 (.agg Crt.none.cells.toArray) 24 224 Tryz.underlying31 info_cert rfl (by decide) v l.length (crtCells l) hs hown ⟨g, off, none⟩ news.length c (crtCells news) hx (crtCells_length news) (fun j u hj => by rw [addr_addC]; exact hR.2 j u hj) (crtCells_one news) (by simp only [maxLen]; omega) (by omega) hB (fun v' w' o1 g1 b1 => ?_)
  rw [← crtCells_append] at o1
  refine h v' w' o1 fun A hA => hA.grown g1 hB fun k hk => ?_
  exact (hown.lt k hk).1
/-- The same slot by slot: how a certificate's key is overwritten. -/
theorem crt_split (c : Crt) : c.cells = ([c.raw.val, c.tbs.val, c.issuer.val, c.subject.val, c.serial.val] ++ c.frm.cells ++ c.til.cells) ++ ([c.key.val, .int .u64 (c.e : Int)] ++ [c.sig.val, .bool c.ca, .int .i64 c.path, .int .i64 c.usage, .bool c.code]) := by simp [Crt.cells]
theorem Cut.split {w : World} {g o : Nat} {a b : List Value} (h : Cut w g o (a ++ b)) : Cut w g o a ∧ Cut w g (o + a.length) b := by
  refine ⟨⟨h.1, fun i v hv => ?_⟩, ⟨h.1, fun i v hv => ?_⟩⟩
  · exact h.2 i v (by rw [List.getElem?_append_left (List.getElem?_eq_some_iff.1 hv).1]; exact hv)
  · have := h.2 (a.length + i) v (by rw [List.getElem?_append_right (by omega), show a.length + i - a.length = i by omega]; exact hv)
    rwa [← Nat.add_assoc] at this
theorem Cut.join {w : World} {g o : Nat} {a b : List Value} (h : Cut w g o a) (k : Cut w g (o + a.length) b) : Cut w g o (a ++ b) := by
  refine ⟨h.1, fun i v hv => ?_⟩
  by_cases hi : i < a.length
  · exact h.2 i v (by rwa [List.getElem?_append_left hi] at hv)
  · rw [List.getElem?_append_right (by omega)] at hv
    have := k.2 (i - a.length) v hv
    rwa [show o + a.length + (i - a.length) = o + i by omega] at this
theorem key_cut17 {w : World} {g : Nat} {c : Crt} (h : Cut w g 0 c.cells) : Cut w g 17 [c.key.val, .int .u64 (c.e : Int)] := by
  rw [crt_split] at h
  have q := h.split.2.split.1
  simpa [Tm.cells] using q
theorem key_stored {w w' : World} {g e : Nat} {c : Crt} {k : Sl} (h : Cut w g 0 c.cells) (hs : Stored w g 17 [k.val, .int .u64 (e : Int)] w') : Row w' g 0 ({ c with key := k, e := e } : Crt).cells := by
  rw [crt_split] at h ⊢
  obtain ⟨h1, h2⟩ := h.split
  obtain ⟨h2, h3⟩ := h2.split
  have e1 : ([c.raw.val, c.tbs.val, c.issuer.val, c.subject.val, c.serial.val] ++ c.frm.cells ++ c.til.cells).length = 17 := rfl
  rw [e1] at h2 h3
  have q1 := hs.2.2.2 _ _ h1 (.inl (by rw [e1]; exact Nat.le_refl _))
  have q3 := hs.2.2.2 _ _ h3 (.inr (by show 17 + 2 ≤ 0 + 17 + 2; omega))
  refine Row.of_cut (q1.join ?_)
  show Cut w' g (0 + 17) _
  exact Cut.join (a := [k.val, .int .u64 (e : Int)]) hs.2.2.1 q3
/-- Other certificates in signed data. -/
theorem SMem.certs {G : Sgd} {cs cs' : List Crt} {ss : List Sgn} {gc oc gs os g c n : Nat} {w : World} (h : SMem G cs ss gc oc gs os w) (hn : n = cs'.length) (hl : cs'.length ≤ 1000000) (hr : Row w g 0 (crtCells cs')) (ho : ∀ s ∈ cs', s.ok w) (ha : ∀ s ∈ cs', s.key.xs.length ≤ 70000) :
    SMem { G with CA := some ⟨g, 0, none⟩, cn := n, cc := c } cs' ss g 0 gs os w := ⟨h.kind, h.content, hn, hl, .inr rfl, hr, ho, ha, h.sn, h.sl, h.sA, h.sR, h.sok, h.sa⟩
theorem made_first {ds kb : List Nat} {at_ : Bool} {n : Nat} {cs : List Crt} {s : Sgn} {c : Crt} {sum : List Nat} (D : MadeD ds kb at_ n cs s c sum) (k : Sl) (e : Nat) (hk : k.xs.length ≤ 200) (kd ask : List Nat) :
    rightAt ({ c with key := k, e := e } :: cs) [s] 0 kd ask = none := by
  have hf : fitsB s { c with key := k, e := e } = true := by
    unfold fitsB
    rw [← D.hi, ← D.hs]
    simp
  have hl : s.sig.xs.length ≠ k.xs.length := by rw [D.ssg, forSig_len]; omega
  have hy : sgYes s kd ask { c with key := k, e := e } = false := by
    unfold sgYes
    split
    · exact verB_len hl
    · rw [verB_len hl, Bool.and_false]
  unfold rightAt rightOf
  simp [hf, Option.filter, hy]
theorem made_last {ds kb : List Nat} {at_ : Bool} {n : Nat} {cs : List Crt} {s : Sgn} {c : Crt} {sum : List Nat} (D : MadeD ds kb at_ n cs s c sum) (more : List Crt) :
    rightAt (cs ++ more) [s] 0 kb ds = some c := by
  have hf : (cs ++ more).find? (fitsB s) = some c := by rw [List.find?_append, D.find]; rfl
  have h2 : rightOf cs s kb ds = some c := by rw [D.right]; simp
  have hy : (some c).filter (sgYes s kb ds) = some c := by unfold rightOf at h2; rwa [D.find] at h2
  unfold rightAt rightOf
  simp only [show ¬ ((0 : Int) < 0) by omega, if_false]
  show (some s).bind _ = _
  simp only [Option.bind_some, hf, hy]
/-! ### Signers in a row -/
def sgnCells (l : List Sgn) : List Value := (l.map Sgn.cells).flatten
theorem sgnCells_length (l : List Sgn) : (sgnCells l).length = l.length * 6 := by
  induction l with
  | nil => rfl
  | cons c l ih => simp [sgnCells] at ih ⊢; rw [ih]; simp [Sgn.cells]; omega
theorem sgnCells_append (a b : List Sgn) : sgnCells (a ++ b) = sgnCells a ++ sgnCells b := by simp [sgnCells]
theorem sgnCells_one (l : List Sgn) : ∀ u ∈ sgnCells l, u.oneCell' = true := fun u hu => by
  simp only [sgnCells, List.mem_flatten, List.mem_map] at hu
  obtain ⟨x, ⟨c, _, rfl⟩, hu⟩ := hu
  exact sgn_one c u hu
theorem sgn_row {w : World} {g o i : Nat} {l : List Sgn} {c : Sgn} (h : Row w g o (sgnCells l)) (hi : l[i]? = some c) : Row w g (o + i * 6) c.cells :=
  Row.part (n := 6) h (fun x hx => by obtain ⟨r, _, rfl⟩ := List.mem_map.1 hx; rfl) (by simp [hi])
theorem wpList_append_sgr {P : Program} {w : World} {ops : Array Oper} {rest : List Oper} {o : Oper} {a : Act} {Q : Exit → Act → World → Prop} (hu : P = Tryz.prog) (hgd : o.guard = none) (s x : Operand) (ho : o.op = .call { callee := .builtin .append, args := #[s, x], argTypes := #[46, 46] })
    (B : Nat) (v : Value) (l : List Sgn) (n : Nat) (hs : a.eval s = v) (hn : n = l.length) (hown : w.ownsRow B 67 6 v n (sgnCells l)) (g off c m : Nat) (news : List Sgn) (hx : a.eval x = .slice (some ⟨g, off, none⟩) m c) (hm : m = news.length) (hR : Row w g off (sgnCells news)) (hsm : n + m ≤ 1000000) (hB : B ≤ w.heap.size)
    (h : ∀ v' w', w'.ownsRow B 67 6 v' (n + m) (sgnCells (l ++ news)) → (∀ A, Below B A w → Below B A w') → wpList P ops Q rest (a.put o.dst v') w') : wpList P ops Q (o :: rest) a w := by
  subst hu hn hm
  refine wpList_append_V hgd s x _ ho B 67 (.agg #[.slice none 0 0, .slice none 0 0, .slice none 0 0, .slice none 0 0, .slice none 0 0, .slice none 0 0]) 6 144 Tryz.underlying46 info_sgr rfl (by decide) v l.length (sgnCells l) hs hown ⟨g, off, none⟩ news.length c (sgnCells news) hx (sgnCells_length news) (fun j u hj => by rw [addr_addC]; exact hR.2 j u hj) (sgnCells_one news) (by simp only [maxLen]; omega) (by omega) hB (fun v' w' o1 g1 b1 => ?_)
  rw [← sgnCells_append] at o1
  refine h v' w' o1 fun A hA => hA.grown g1 hB fun k hk => ?_
  exact (hown.lt k hk).1
/-- A signer without a signature is right for nothing; among several each is asked by itself. -/
def placed (s : Sgn) (r n : Nat) : List Sgn := (List.range n).map fun j => if j = r then s else { s with sig := Sl.nil }
theorem placed_succ (s : Sgn) (r n : Nat) : placed s r (n + 1) = placed s r n ++ [if n = r then s else { s with sig := Sl.nil }] := by simp [placed, List.range_succ]
theorem placed_length (s : Sgn) (r n : Nat) : (placed s r n).length = n := by simp [placed]
theorem placed_right {ds kb : List Nat} {at_ : Bool} {m : Nat} {cs : List Crt} {s : Sgn} {c : Crt} {sum : List Nat} (D : MadeD ds kb at_ m cs s c sum) (r n i : Nat) (hi : i < n) :
    rightAt cs (placed s r n) (i : Int) kb ds = if i = r then some c else none := by
  have h1 : (placed s r n)[i]? = some (if i = r then s else { s with sig := Sl.nil }) := by simp [placed, hi]
  have h2 : rightOf cs s kb ds = some c := by rw [D.right]; simp
  unfold rightAt
  rw [if_neg (by omega), Int.toNat_natCast, h1]
  show rightOf cs (if i = r then s else { s with sig := Sl.nil }) kb ds = _
  split
  · exact h2
  · have hf : cs.find? (fitsB { s with sig := Sl.nil }) = some c := D.find
    have hl : ({ s with sig := Sl.nil } : Sgn).sig.xs.length ≠ c.key.xs.length := by rw [D.key, forKey_len]; exact (by decide : (0 : Nat) ≠ 256)
    have hy : sgYes { s with sig := Sl.nil } kb ds c = false := by
      unfold sgYes
      split
      · exact verB_len hl
      · rw [verB_len hl, Bool.and_false]
    unfold rightOf
    simp [hf, Option.filter, hy]
theorem Cut.belowB {B : Nat} {w w' : World} {g o : Nat} {vs : List Value} (h : Cut w g o vs) (hb : Below B w w') (hg : g < B) : Cut w' g o vs := h.keep hb.size (hb.block g hg)
theorem case_parts {w : World} {g kn kc oth : Nat} {KA : Option Addr} {ds : List Nat} {at_ : Bool} (h : Row w g 0 (caseCells KA kn kc ds at_ oth)) (hd : ds.length = 32) : Row w g 1 (ints .u8 ds) ∧ Row w g 34 [.int .u8 (oth : Int)] := by
  have q : Row w g 0 ([.slice KA kn kc] ++ (ints .u8 ds ++ [.bool at_, .int .u8 (oth : Int)])) := by simpa [caseCells] using h
  refine ⟨q.split.2.split.1, h.1, fun i v hv => ?_⟩
  rcases i with _ | i
  · have hv : Value.int .u8 (oth : Int) = v := by simpa using hv
    rw [← hv]
    refine q.at_ (i := 34) ?_ rfl
    rw [List.singleton_append, List.getElem?_cons_succ, List.getElem?_append_right (by rw [ints_length, hd]; omega), ints_length, hd]
    rfl
  · simp at hv
/-- The law of append as one step of a region that draws its order. -/
theorem step_append_crt {P : Program} {w : World} {ops : Array Oper} {o : Oper} {a : Act} {K : Act → World → Prop} {Q : Exit → Act → World → Prop} {E : Prop} (hu : P = Tryz.prog) (hgd : o.guard = none) (s x : Operand) (ho : o.op = .call { callee := .builtin .append, args := #[s, x], argTypes := #[31, 31] })
    (B : Nat) (v : Value) (l : List Crt) (n : Nat) (hs : a.eval s = v) (hn : n = l.length) (hown : w.ownsRow B 30 24 v n (crtCells l)) (g off c m : Nat) (news : List Crt) (hx : a.eval x = .slice (some ⟨g, off, none⟩) m c) (hm : m = news.length) (hR : Row w g off (crtCells news)) (hsm : n + m ≤ 1000000) (hB : B ≤ w.heap.size)
    (h : ∀ v' w', w'.ownsRow B 30 24 v' (n + m) (crtCells (l ++ news)) → (∀ A, Below B A w → Below B A w') → K (a.put o.dst v') w') :
    if Region.wanted o (yielded ops a.tmps) = true then Oper.wp P o a w K Q else E := by
  have hw : Region.wanted o (yielded ops a.tmps) = true := by simp [Region.wanted, hgd]
  rw [if_pos hw]
  subst hu hn hm
  obtain ⟨i, hi, hzz⟩ := Option.map_eq_some_iff.1 info_cert
  simp only [Prod.mk.injEq] at hzz
  obtain ⟨hz, hs1, hb⟩ := hzz
  obtain ⟨v', w', hrun, o1, g1, _, _⟩ := run_append_own_at (P := Tryz.prog) w B 31 o.type 30 i (.agg Crt.none.cells.toArray) 24 224 Tryz.underlying31 hi hz hs1 hb rfl (by decide) v l.length (crtCells l) hown ⟨g, off, none⟩ news.length c (crtCells news) (crtCells_length news) (fun j u hj => by rw [addr_addC]; exact hR.2 j u hj) (crtCells_one news) (by simp only [maxLen]; omega) (by omega) hB
  unfold Oper.wp execOp
  simp only [ho, resolve, invoke, builtin, Sem.run_bind, Sem.run_pure, Result.andThen_ok, List.map_toArray, List.map_cons, List.map_nil, hs, hx, hrun]
  rw [← crtCells_append] at o1
  exact h v' w' o1 fun A hA => hA.grown g1 hB fun k hk => (hown.lt k hk).1
theorem fill_sgr2 (c d : Sgn) (z : Array Value) (hz : z = #[.slice none 0 0, .slice none 0 0, .slice none 0 0, .slice none 0 0, .slice none 0 0, .slice none 0 0]) : Instr.fill (fun i => some (i * 6, 6)) ((Array.range (2 * 6)).map (z[· % z.size]!)) [(0, .agg c.cells.toArray), (1, .agg d.cells.toArray)] = some (c.cells ++ d.cells).toArray := by
  subst hz
  kernel_rfl
theorem wpList_build_sgr2V {w : World} {ops : Array Oper} {rest : List Oper} {o : Oper} {a : Act} {Q : Exit → Act → World → Prop} (hgd : o.guard = none) (x y : Operand) (ho : o.op = .buildSlice 46 2 #[(0, x), (1, y)]) (c d : Sgn) (hx : a.eval x = .agg c.cells.toArray) (hy : a.eval y = .agg d.cells.toArray)
    (h : ∀ g w', Hid (g = w.heap.size) → Row w' g 0 (sgnCells [c, d]) → Below w.heap.size w w' → wpList Tryz.prog ops Q rest (a.put o.dst (.slice (some ⟨g, 0, none⟩) 2 2)) w') : wpList Tryz.prog ops Q (o :: rest) a w := by
  obtain ⟨i, hi, hzz⟩ := Option.map_eq_some_iff.1 info_sgr
  simp only [Prod.mk.injEq] at hzz
  obtain ⟨hz, hs1, hb⟩ := hzz
  refine wpList_buildSlice hgd 46 67 2 #[(0, x), (1, y)] ho (c.cells ++ d.cells).toArray i (.agg #[.slice none 0 0, .slice none 0 0, .slice none 0 0, .slice none 0 0, .slice none 0 0, .slice none 0 0]) Tryz.underlying46 hi hz (by rw [hs1]; decide) (by rw [hs1]; decide) ?_ (h _ _ rfl (by have q := row_new (w := w) (t := 67) (c.cells ++ d.cells); simpa [sgnCells] using q) ((Below.refl _ _).alloc (Nat.le_refl _) _))
  rw [hs1]
  simp only [List.map_toArray, List.map_cons, List.map_nil, hx, hy]
  exact fill_sgr2 c d _ rfl
theorem find_without {cs : List Crt} {s : Sgn} {c : Crt} (h : fitsB s c = false) (n : Nat) : ((cs.take n ++ [c]) ++ cs.drop n).find? (fitsB s) = cs.find? (fitsB s) := by
  have e : cs.find? (fitsB s) = (cs.take n ++ cs.drop n).find? (fitsB s) := by rw [List.take_append_drop]
  rw [e, List.find?_append, List.find?_append, List.find?_append]
  simp [h]
theorem Row.rng {w : World} {g o : Nat} {vs : List Value} (h : Row w g o vs) : w.rangeAt g o vs := h.2
theorem sz_ke (a : Option Addr) (n c e : Nat) : (Tryz.prog.info? 28).map (·.size) = some [Value.slice a n c, .int .u64 (e : Int)].length := size_key
end Go.Proofs.YtchaahnhpeoomaaGreat
