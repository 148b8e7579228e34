/-
 For the walks of Chain: Find, Reach, Same and Signed as steps of drawn regions, rows of certificates as tags.
-/
import Derived.Test.YtchaahnhpeoomaaGreatPChQ
namespace Go.Proofs.YtchaahnhpeoomaaGreat
set_option linter.unusedVariables false
set_option linter.unusedSimpArgs false
set_option maxRecDepth 20000
open Go.RowKit
theorem Crs.sub {W W' : World} {A : Option Addr} {cs : List Crt} (h : Crs W A cs) (hs : Sub W W') : Crs W' A cs := h.imp id fun ⟨g, o, h1, h2⟩ => ⟨g, o, h1, h2.sub hs⟩
def tCr (L : List Crt) : Tg := fun v W => ∃ A c, v = .slice A L.length c ∧ L.length ≤ c ∧ c ≤ maxLen ∧ Crs W A L
theorem Sp.tCr {L : List Crt} {A : Option Addr} {c : Nat} {w : World} (h1 : L.length ≤ c) (h2 : c ≤ maxLen) (h3 : Crs w A L) : Sp (tCr L) (.slice A L.length c) w := fun w' hs => ⟨A, c, rfl, h1, h2, h3.sub hs⟩
def tFnd (r : Option (List Crt)) : Tg := fun v W => ∃ u, v = .tuple #[u, .bool r.isSome] ∧ tCr (r.getD []) u W
structure PoolOk (w0 : World) (lf : Crt) (cs : List Crt) : Prop where
 pos : 0 < w0.heap.size
 ok : ∀ c ∈ lf :: cs, c.ok w0
 tbs : ∀ c ∈ lf :: cs, c.tbs.xs.length ≤ 1099511627776
 key : ∀ c ∈ lf :: cs, c.key.xs.length ≤ 70000
 len : cs.length ≤ 16
theorem PoolOk.below {w w' : World} {lf : Crt} {cs : List Crt} (h : PoolOk w lf cs) (hb : Below w.heap.size w w') : PoolOk w' lf cs :=
 ⟨Nat.lt_of_lt_of_le h.pos hb.size, fun c hc => (h.ok c hc).below hb, h.tbs, h.key, h.len⟩
theorem PoolOk.pool {w : World} {lf : Crt} {cs : List Crt} {A : Option Addr} {c : Nat} (h : PoolOk w lf cs) (hA : Crs w A cs) : ∃ gp op, Pool w lf cs A c gp op := by
 rcases hA with rfl | ⟨g, o, rfl, R⟩
 ·exact ⟨0, 0, .inl rfl, ⟨h.pos, fun i v hv => by simp [crtCells] at hv⟩, h.ok, h.tbs, h.key, h.len⟩
 ·exact ⟨g, o, .inr rfl, R, h.ok, h.tbs, h.key, h.len⟩
def FndP (r : Option (List Crt)) (w : World) (e : Ending) (W : World) : Prop := Below w.heap.size w W ∧ ∃ A c, e = .returned (.tuple #[.slice A (r.getD []).length c, .bool r.isSome]) ∧ (r.getD []).length ≤ c ∧ c ≤ maxLen ∧ Crs W A (r.getD [])
theorem find_go {w : World} {lf : Crt} {cs : List Crt} {pA : Option Addr} {pc f : Nat} {fst : Array Value} {tr : Crt → Bool} (P : PoolOk w lf cs) (hA : Crs w pA cs) (A : Anc w f fst tr) :
  Calls Tryz.prog 23 #[lf.val, .slice pA cs.length pc, .func (.func f) fst #[]] w (FndP ((hse lf cs).find tr) w) := by
 obtain ⟨gp, op, P'⟩ := P.pool (c := pc) hA
 refine (find_any P' A).mono ?_
 rintro e W ⟨q, hm⟩
 refine ⟨q, ?_⟩
 cases hr : (hse lf cs).find tr with
 | none =>
  rw [hr] at hm
  exact ⟨none, 0, hm, Nat.le_refl _, Nat.zero_le _, .inl rfl⟩
 | some r =>
  rw [hr] at hm
  obtain ⟨g, c, h1, h2, h3, h4, h5⟩ := hm
  exact ⟨_, c, h1, h2, h3, .inr ⟨g, 0, rfl, h5⟩⟩
def RchP (L : List Crt) (w : World) (e : Ending) (W : World) : Prop := Below w.heap.size w W ∧ ∃ g c, e = .returned (.slice (some ⟨g, 0, none⟩) L.length c) ∧ L.length ≤ c ∧ c ≤ maxLen ∧ Row W g 0 (crtCells L)
theorem reach_go {w : World} {lf : Crt} {cs : List Crt} {pA : Option Addr} {pc : Nat} (P : PoolOk w lf cs) (hA : Crs w pA cs) :
  Calls Tryz.prog 25 #[lf.val, .slice pA cs.length pc] w (RchP (hse lf cs).reach w) := by
 obtain ⟨gp, op, P'⟩ := P.pool (c := pc) hA
 refine (reach_any P').mono ?_
 rintro e W ⟨q, g, c, h1, h2, h3, h4, h5⟩
 exact ⟨q, g, c, h1, h2, h3, h5⟩
theorem cf_find (vs : Array Value) (w : World) : (callFunc 23 vs).run Tryz.prog w = .ok (.enter 23 vs) w := by kernel_rfl
theorem cf_reach (vs : Array Value) (w : World) : (callFunc 25 vs).run Tryz.prog w = .ok (.enter 25 vs) w := by kernel_rfl
theorem cf_same13 (vs : Array Value) (w : World) : (callFunc 26 vs).run Tryz.prog w = .ok (.enter 26 vs) w := by kernel_rfl
theorem cf_signed (vs : Array Value) (w : World) : (callFunc 42 vs).run Tryz.prog w = .ok (.enter 42 vs) w := by kernel_rfl
theorem cf_is (vs : Array Value) (w : World) : (callFunc 24 vs).run Tryz.prog w = .ok (.enter 24 vs) w := by kernel_rfl
theorem anc_is {W : World} {gt ot : Nat} {t : Sls3 Sl} (hT : W.cell? ⟨gt, ot, none⟩ = some t.val) (hR : RowsIn 1 (fun s : Sl => [s.val]) (fun s => s.ok W) W t) : Anc W 24 #[.pointer (some ⟨gt, ot, none⟩)] (trB t.l) :=
 ⟨cf_is, fun U c hb hc => is_any ((hb.cell (lt_cell hT)).trans hT) (hR.below hb (Q' := fun s => s.ok U) fun _ h => h.below hb) hc⟩
section
variable {ops : Array Oper} {Q : Exit → Act → World → Prop} {Base : Act → Prop} {dst : Nat → Nat} {tags : Nat → Tg} {w0 : World} {i : Nat} {o : Oper}
theorem st_find {lf : Crt} {cs : List Crt} {f : Nat} {fst : Array Value} {tr : Crt → Bool} (hgd : o.guard = none) (x y z : Operand) (tys : Array TypeId) (ho : o.op = .call { callee := .value (.func 23), args := #[x, y, z], argTypes := tys }) (ht : tags i = tFnd ((hse lf cs).find tr))
  (hx : Src o Base dst tags (fun w => Below w0.heap.size w0 w) x (tv lf.val)) (hy : Src o Base dst tags (fun w => Below w0.heap.size w0 w) y (tCr cs)) (hz : Src o Base dst tags (fun w => Below w0.heap.size w0 w) z (tv (.func (.func f) fst #[]))) (A : Anc w0 f fst tr) (P : PoolOk w0 lf cs) :
  StepOk Tryz.prog ops Q Base dst (fun i v w => Sp (tags i) v w) (fun w => Below w0.heap.size w0 w) i o :=
 st_call hgd (fun a W => run_call ho cf_find a W) fun a W hb hd hg => by
  have h1 : a.eval x = lf.val := (hx a W hb hd hg).now
  obtain ⟨B, c, h2, h3, h4, h5⟩ := (hy a W hb hd hg).now
  have h6 : a.eval z = .func (.func f) fst #[] := (hz a W hb hd hg).now
  simp only [List.map_toArray, List.map_cons, List.map_nil, h1, h2, h6]
  refine (find_go (P.below hg) h5 (A.below hg)).mono ?_
  rintro e W' ⟨q, B', c', h7, h8, h9, h10⟩
  exact ⟨_, h7, q, by rw [ht]; exact fun w' hs => ⟨_, rfl, B', c', rfl, h8, h9, h10.sub hs⟩⟩
theorem st_reach {lf : Crt} {cs : List Crt} (hgd : o.guard = none) (x y : Operand) (tys : Array TypeId) (ho : o.op = .call { callee := .value (.func 25), args := #[x, y], argTypes := tys }) (ht : tags i = tCr (hse lf cs).reach)
  (hx : Src o Base dst tags (fun w => Below w0.heap.size w0 w) x (tv lf.val)) (hy : Src o Base dst tags (fun w => Below w0.heap.size w0 w) y (tCr cs)) (P : PoolOk w0 lf cs) :
  StepOk Tryz.prog ops Q Base dst (fun i v w => Sp (tags i) v w) (fun w => Below w0.heap.size w0 w) i o :=
 st_call hgd (fun a W => run_call ho cf_reach a W) fun a W hb hd hg => by
  have h1 : a.eval x = lf.val := (hx a W hb hd hg).now
  obtain ⟨B, c, h2, h3, h4, h5⟩ := (hy a W hb hd hg).now
  simp only [List.map_toArray, List.map_cons, List.map_nil, h1, h2]
  refine (reach_go (P.below hg) h5).mono ?_
  rintro e W' ⟨q, g, c', h7, h8, h9, h10⟩
  exact ⟨_, h7, q, by rw [ht]; exact Sp.tCr h8 h9 (.inr ⟨g, 0, rfl, h10⟩)⟩
theorem st_same {cs ds : List Crt} (hgd : o.guard = none) (x y : Operand) (tys : Array TypeId) (ho : o.op = .call { callee := .value (.func 26), args := #[x, y], argTypes := tys }) (b : Bool) (hb : decide (cs.map Crt.say = ds.map Crt.say) = b) (ht : tags i = tv (.bool b))
  (hx : Src o Base dst tags (fun w => Below w0.heap.size w0 w) x (tCr cs)) (hy : Src o Base dst tags (fun w => Below w0.heap.size w0 w) y (tCr ds)) (hc : ∀ c ∈ cs, c.ok w0) (hd : ∀ c ∈ ds, c.ok w0) (hl : cs.length ≤ 1000000) :
  StepOk Tryz.prog ops Q Base dst (fun i v w => Sp (tags i) v w) (fun w => Below w0.heap.size w0 w) i o :=
 st_call hgd (fun a W => run_call ho cf_same13 a W) fun a W hba hdp hg => by
  obtain ⟨B, c, h2, h3, h4, h5⟩ := (hx a W hba hdp hg).now
  obtain ⟨B', c', h2', h3', h4', h5'⟩ := (hy a W hba hdp hg).now
  simp only [List.map_toArray, List.map_cons, List.map_nil, h2, h2']
  refine (same13_any h5 h5' (fun c h => (hc c h).below hg) (fun c h => (hd c h).below hg) hl).mono ?_
  rintro e W' ⟨rfl, q⟩
  exact ⟨_, rfl, q, by rw [ht, hb]; exact Sp.tv rfl⟩
theorem st_signed {c d : Crt} (hgd : o.guard = none) (x y : Operand) (tys : Array TypeId) (ho : o.op = .call { callee := .value (.func 42), args := #[x, y], argTypes := tys }) (b : Bool) (hb : sgB c d = b) (ht : tags i = tv (.bool b))
  (hx : Src o Base dst tags (fun w => Below w0.heap.size w0 w) x (tv c.val)) (hy : Src o Base dst tags (fun w => Below w0.heap.size w0 w) y (tv d.val)) (hc : c.ok w0) (hd : d.ok w0) (hl : c.tbs.xs.length ≤ 1099511627776) (hk : d.key.xs.length ≤ 70000) :
  StepOk Tryz.prog ops Q Base dst (fun i v w => Sp (tags i) v w) (fun w => Below w0.heap.size w0 w) i o :=
 st_call hgd (fun a W => run_call ho cf_signed a W) fun a W hba hdp hg => by
  have h1 : a.eval x = c.val := (hx a W hba hdp hg).now
  have h2 : a.eval y = d.val := (hy a W hba hdp hg).now
  simp only [List.map_toArray, List.map_cons, List.map_nil, h1, h2]
  refine (chSigned_any c d W (hc.below hg) (hd.below hg) hl hk).mono ?_
  rintro e W' ⟨rfl, q⟩
  exact ⟨_, rfl, q, by rw [ht, hb]; exact Sp.tv rfl⟩
theorem st_cert1 {c : Crt} (hgd : o.guard = none) (x : Operand) (ho : o.op = .buildSlice 31 1 #[(0, x)]) (ht : tags i = tCr [c]) (hx : Src o Base dst tags (fun w => Below w0.heap.size w0 w) x (tv c.val)) :
  StepOk Tryz.prog ops Q Base dst (fun i v w => Sp (tags i) v w) (fun w => Below w0.heap.size w0 w) i o := by
 obtain ⟨ie, hie, hzz⟩ := Option.map_eq_some_iff.1 info_crt
 simp only [Prod.mk.injEq] at hzz
 obtain ⟨hz0, hs1, hb⟩ := hzz
 refine st_slice (e := 30) (ie := ie) (z := .agg Crt.none.cells.toArray) hgd ho Tryz.underlying31 hie hz0 (by rw [hs1]; decide) (by rw [hs1]; decide) fun a W hba hdp hg => ?_
 have h1 : a.eval x = c.val := (hx a W hba hdp hg).now
 refine ⟨c.cells.toArray, ?_, ?_⟩
 ·rw [hs1]
  simp only [List.map_toArray, List.map_cons, List.map_nil, h1]
  exact fill_crt c _ rfl
 ·rw [ht]
  exact Sp.tCr (L := [c]) (Nat.le_refl _) (by decide) (.inr ⟨_, 0, rfl, by simpa [crtCells] using row_new c.cells⟩)
theorem fill_crt2 (c d : Crt) (z : Array Value) (hz : z = Crt.none.cells.toArray) : Instr.fill (fun i => some (i * 24, 24)) ((Array.range (2 * 24)).map (z[· % z.size]!)) [(0, .agg c.cells.toArray), (1, .agg d.cells.toArray)] = some (c.cells ++ d.cells).toArray := by
 subst hz
 kernel_rfl
theorem st_cert2 {c d : Crt} (hgd : o.guard = none) (x y : Operand) (ho : o.op = .buildSlice 31 2 #[(0, x), (1, y)]) (ht : tags i = tCr [c, d]) (hx : Src o Base dst tags (fun w => Below w0.heap.size w0 w) x (tv c.val)) (hy : Src o Base dst tags (fun w => Below w0.heap.size w0 w) y (tv d.val)) :
  StepOk Tryz.prog ops Q Base dst (fun i v w => Sp (tags i) v w) (fun w => Below w0.heap.size w0 w) i o := by
 obtain ⟨ie, hie, hzz⟩ := Option.map_eq_some_iff.1 info_crt
 simp only [Prod.mk.injEq] at hzz
 obtain ⟨hz0, hs1, hb⟩ := hzz
 refine st_slice (e := 30) (ie := ie) (z := .agg Crt.none.cells.toArray) hgd ho Tryz.underlying31 hie hz0 (by rw [hs1]; decide) (by rw [hs1]; decide) fun a W hba hdp hg => ?_
 have h1 : a.eval x = c.val := (hx a W hba hdp hg).now
 have h2 : a.eval y = d.val := (hy a W hba hdp hg).now
 refine ⟨(c.cells ++ d.cells).toArray, ?_, ?_⟩
 ·rw [hs1]
  simp only [List.map_toArray, List.map_cons, List.map_nil, h1, h2]
  exact fill_crt2 c d _ rfl
 ·rw [ht]
  exact Sp.tCr (L := [c, d]) (Nat.le_refl _) (by decide) (.inr ⟨_, 0, rfl, by simpa [crtCells] using row_new (c.cells ++ d.cells)⟩)
theorem st_ext0 {r : Option (List Crt)} {G : World → Prop} (hgd : o.guard = none) (x : Operand) (ho : o.op = .extract x 0) (ht : tags i = tCr (r.getD [])) (hx : Src o Base dst tags G x (tFnd r)) : StepOk Tryz.prog ops Q Base dst (fun i v w => Sp (tags i) v w) G i o :=
 st_run hgd fun a w hb hd hg => by
  have hS := hx a w hb hd hg
  obtain ⟨u, h1, A, c, rfl, h3, h4, h5⟩ := hS.now
  refine ⟨_, w, ?_, Sub.refl w, hg, by rw [ht]; exact Sp.tCr h3 h4 h5⟩
  unfold execOp
  simp only [ho, h1]
  go_simp
theorem st_ext1 {r : Option (List Crt)} {G : World → Prop} (hgd : o.guard = none) (x : Operand) (ho : o.op = .extract x 1) (b : Bool) (hb : r.isSome = b) (ht : tags i = tv (.bool b)) (hx : Src o Base dst tags G x (tFnd r)) : StepOk Tryz.prog ops Q Base dst (fun i v w => Sp (tags i) v w) G i o :=
 st_run hgd fun a w hba hd hg => by
  obtain ⟨u, h1, _⟩ := (hx a w hba hd hg).now
  refine ⟨.bool r.isSome, w, ?_, Sub.refl w, hg, by rw [ht, hb]; exact Sp.tv rfl⟩
  unfold execOp
  simp only [ho, h1]
  go_simp
theorem st_bound {G : World → Prop} {f : Nat} {p : Value} (hgd : o.guard = none) (x : Operand) (ho : o.op = .makeFunc (.func f) #[x] #[]) (ht : tags i = tv (.func (.func f) #[p] #[])) (hx : Src o Base dst tags G x (tv p)) : StepOk Tryz.prog ops Q Base dst (fun i v w => Sp (tags i) v w) G i o :=
 st_run hgd fun a w hba hd hg => by
  have h1 : a.eval x = p := (hx a w hba hd hg).now
  refine ⟨.func (.func f) #[p] #[], w, ?_, Sub.refl w, hg, by rw [ht]; exact Sp.tv rfl⟩
  have h3 : (#[x] : Array Operand).map a.eval = #[p] := by simp only [List.map_toArray, List.map_cons, List.map_nil, h1]
  unfold execOp
  simp only [ho, h3]
  first | rfl | go_simp
theorem st_len {L : List Crt} {G : World → Prop} (hgd : o.guard = none) (x : Operand) (ho : o.op = .call { callee := .builtin .len, args := #[x], argTypes := #[31] }) (n : Int) (hn : (L.length : Int) = n) (ht : tags i = tv (.int .i64 n)) (hx : Src o Base dst tags G x (tCr L)) : StepOk Tryz.prog ops Q Base dst (fun i v w => Sp (tags i) v w) G i o :=
 st_run hgd fun a w hba hd hg => by
  obtain ⟨A, c, h1, _⟩ := (hx a w hba hd hg).now
  refine ⟨.int .i64 (L.length : Int), w, ?_, Sub.refl w, hg, by rw [ht, hn]; exact Sp.tv rfl⟩
  have h3 : (#[x] : Array Operand).map a.eval = #[.slice A L.length c] := by simp only [List.map_toArray, List.map_cons, List.map_nil, h1]
  unfold execOp
  simp only [ho, h3]
  go_simp
theorem Src.cr {L : List Crt} {x : Operand} {A : Option Addr} {c : Nat} (h : Src o Base dst tags (fun w => Below w0.heap.size w0 w) x (tv (.slice A L.length c))) (h1 : L.length ≤ c) (h2 : c ≤ maxLen) (hc : Crs w0 A L) : Src o Base dst tags (fun w => Below w0.heap.size w0 w) x (tCr L) := fun a w hb hd hg => by
 have h3 : a.eval x = _ := (h a w hb hd hg).now
 rw [h3]
 exact Sp.tCr h1 h2 (hc.below hg)
end
end Go.Proofs.YtchaahnhpeoomaaGreat
