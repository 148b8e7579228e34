/-
 The closures of chain.Find.
-/
import Derived.Test.YtchaahnhpeoomaaGreatPChG
namespace Go.Proofs.YtchaahnhpeoomaaGreat
set_option linter.unusedVariables false
set_option linter.unusedSimpArgs false
set_option maxRecDepth 20000
open Go.RowKit
theorem cf_hat (vs : Array Value) (w : World) : (callFunc 49 vs).run Tryz.prog w = .ok (.enter 49 vs) w := by kernel_rfl
theorem cf_f1 (vs : Array Value) (w : World) : (callFunc 48 vs).run Tryz.prog w = .ok (.enter 48 vs) w := by kernel_rfl
theorem cf_f2 (vs : Array Value) (w : World) : (callFunc 51 vs).run Tryz.prog w = .ok (.enter 51 vs) w := by kernel_rfl
theorem cf_f3 (vs : Array Value) (w : World) : (callFunc 53 vs).run Tryz.prog w = .ok (.enter 53 vs) w := by kernel_rfl
theorem cf_f4 (vs : Array Value) (w : World) : (callFunc 56 vs).run Tryz.prog w = .ok (.enter 56 vs) w := by kernel_rfl
theorem ld_fn (p : Addr) (v : Value) : ∀ W : World, W.cell? p = some v → (Instr.loadAt 41 (.pointer (some p))).run Tryz.prog W = .ok v W := fun W h => by go_simp
theorem ld_hp (p : Addr) (v : Value) : ∀ W : World, W.cell? p = some v → (Instr.loadAt 95 (.pointer (some p))).run Tryz.prog W = .ok v W := fun W h => by go_simp
structure Anc (w0 : World) (f : Nat) (fst : Array Value) (tr : Crt → Bool) : Prop where
 cf : ∀ (vs : Array Value) (w : World), (callFunc f vs).run Tryz.prog w = .ok (.enter f vs) w
 call : ∀ (U : World) (c : Crt), Below w0.heap.size w0 U → c.ok U → Calls Tryz.prog f (fst ++ #[c.val]) U (RetW (tr c) U)
section
variable {ops : Array Oper} {Q : Exit → Act → World → Prop} {Base : Act → Prop} {dst : Nat → Nat} {tags : Nat → Tg} {w0 : World} {i : Nat} {o : Oper}
theorem st_callV {f : Nat} {fst : Array Value} (hgd : o.guard = none) (x y : Operand) (T : TypeId) (ho : o.op = .call { callee := .value x, args := #[y], argTypes := #[T] }) (hx : Src o Base dst tags (fun w => Below w0.heap.size w0 w) x (tv (.func (.func f) fst #[])))
  (hcf : ∀ (vs : Array Value) (w : World), (callFunc f vs).run Tryz.prog w = .ok (.enter f vs) w)
  (h : ∀ a w, Base a → Deps o dst tags a w → Below w0.heap.size w0 w → Calls Tryz.prog f (fst ++ #[a.eval y]) w fun e w' => ∃ v, e = .returned v ∧ Below w.heap.size w w' ∧ Sp (tags i) v w') :
  StepOk Tryz.prog ops Q Base dst (fun i v w => Sp (tags i) v w) (fun w => Below w0.heap.size w0 w) i o := by
 intro a w hb hd hg K hK
 rw [if_pos (wanted_free hgd a)]
 have hc := h a w hb hd hg
 have h1 : a.eval x = .func (.func f) fst #[] := (hx a w hb hd hg).now
 have hrun : (execOp a.eval o).run Tryz.prog w = .ok (.enter f (fst ++ #[a.eval y])) w := by
  unfold execOp
  simp only [ho, resolve, List.map_toArray, List.map_cons, List.map_nil, h1, Deferred.ofValue, invoke, Sem.run_bind, Sem.run_pure, Result.andThen_ok, Array.append_empty, hcf]
 unfold Oper.wp
 rw [hrun]
 refine hc.mono ?_
 rintro e w' ⟨v, rfl, h1, h2⟩
 exact hK _ _ h2 (Sub.below h1) (hg.trans (h1.mono hg.size))
end
def f1T (f : Nat) (fst : Array Value) (hb : Nat) (i : Int) (c : Crt) (b : Bool) : Nat → Tg
 | 0 => tv (.func (.func f) fst #[])
 | 1 => tv (.pointer (some ⟨hb, 0, none⟩))
 | 2 => tv (.int .i64 i)
 | 3 => tv c.val
 | _ => tv (.bool b)
theorem rg10 : List.range 10 = [0, 1, 2, 3, 4, 5, 6, 7, 8, 9] := rfl
section
variable {w0 U : World} {lf : Crt} {cs : List Crt} {pA : Option Addr} {pc gp op hb mb g1 g2 g5 g8 f : Nat} {fst : Array Value} {tr : Crt → Bool}
set_option maxRecDepth 100000 in
set_option maxHeartbeats 4000000 in
theorem find1_any (P : Pool w0 lf cs pA pc gp op) (H : Hm w0 lf cs pA pc hb mb U) (A : Anc w0 f fst tr) (r5 : Row U g5 0 [.func (.func f) fst #[]]) (r8 : Row U g8 0 [.pointer (some ⟨hb, 0, none⟩)]) {y : Int} (hi : Spot cs y) :
  Calls Tryz.prog 48 #[.int .i64 y, .pointer (some ⟨g5, 0, none⟩), .pointer (some ⟨g8, 0, none⟩)] U (RetW (tr (atC lf cs y)) U) := by
 have k1 : U.cell? ⟨g5, 0, none⟩ = some (.func (.func f) fst #[]) := r5.2 0 _ rfl
 have k2 : U.cell? ⟨g8, 0, none⟩ = some (.pointer (some ⟨hb, 0, none⟩)) := r8.2 0 _ rfl
 have mc := atC_mem (leaf := lf) hi
 obtain ⟨c, hc⟩ : ∃ c, c = atC lf cs y := ⟨_, rfl⟩
 rw [← hc] at mc
 have hok := P.ok _ mc
 go_enter Tryz.func48, Tryz.ntmps48
 go_upto_region 1 with fail
 replace hc := Lib.hid hc
 have hd0 : Below U.heap.size U U.drew := below_drewN (Below.refl _ _) 1
 refine wp_region_steps (by kernel_rfl) (fun i => if i = 5 then 4 else 5 + i) (fun i v W => Sp ((f1T f fst hb y c (tr c)) i) v W) (fun W => Below U.heap.size U W) (by kernel_rfl) (by kernel_rfl) ?inj ?lt (fun i v W W' h hs => h.mono hs) hd0 ⟨?s0, ?s1, ?s2, ?s3, ?s4, ?s5, trivial⟩ ?fin
 case inj =>
  intro i j hi hj h
  have h40 : i < 6 ∧ j < 6 := ⟨hi, hj⟩
  have h : (if i = 5 then 4 else 5 + i) = (if j = 5 then 4 else 5 + j) := h
  (repeat' split at h) <;> omega
 case lt =>
  intro i hi
  have h40 : i < 6 := hi
  show (if i = 5 then 4 else 5 + i) < 10
  (repeat' split) <;> omega
 case s0 => exact (st_load rfl rfl rfl (src_base (fun i hi => by have hi : i < 6 := hi; show (if i = 5 then 4 else 5 + i) ≠ _; (repeat' split) <;> omega) rfl) (ld_fn _ _) (fun W h => (h.cell (p := ⟨g5, 0, none⟩) r5.1).trans k1))
 case s1 => exact (st_load rfl rfl rfl (src_base (fun i hi => by have hi : i < 6 := hi; show (if i = 5 then 4 else 5 + i) ≠ _; (repeat' split) <;> omega) rfl) (ld_hp _ _) (fun W h => (h.cell (p := ⟨g8, 0, none⟩) r8.1).trans k2))
 case s2 => exact (st_move rfl (.inl rfl) (src_base (fun i hi => by have hi : i < 6 := hi; show (if i = 5 then 4 else 5 + i) ≠ _; (repeat' split) <;> omega) rfl))
 case s3 => exact (st_call rfl (fun a W => run_call rfl cf_hat a W) (fun a W hba hd h_ => by
   have h1 : a.eval (.tmp 6) = .pointer (some ⟨hb, 0, none⟩) := (hd ⟨1, .data⟩ (by simp) rfl).now
   have h2 : a.eval (.tmp 7) = .int .i64 y := (hd ⟨2, .data⟩ (by simp) rfl).now
   simp only [List.map_toArray, List.map_cons, List.map_nil, h1, h2]
   refine (hat_any P (H.grow h_) hi).mono ?_
   rintro e W' ⟨rfl, q⟩
   exact ⟨_, rfl, q, by rw [← hc.out]; exact Sp.tv rfl⟩))
 case s4 => exact (st_callV rfl (.tmp 5) (.tmp 8) 30 rfl (src_dep (j := 0) (e := ⟨0, .data⟩) (by simp) rfl rfl rfl) A.cf (fun a W hba hd h_ => by
   have h1 : a.eval (.tmp 8) = c.val := (hd ⟨3, .data⟩ (by simp) rfl).now
   rw [h1]
   refine (A.call W c (H.below.trans (h_.mono H.below.size)) (hok.below (H.below.trans (h_.mono H.below.size)))).mono ?_
   rintro e W' ⟨rfl, q⟩
   exact ⟨_, rfl, q, Sp.tv rfl⟩))
 case s5 => exact (st_move rfl (.inr rfl) (src_dep (j := 4) (e := ⟨4, .data⟩) (by simp) rfl rfl rfl))
 case fin =>
  intro a W2 h1 h2 h3 h4 h5
  have b4 : a.tmps.getD 4 undef = .bool (tr c) := (h4 5 (by show 5 < 6; omega)).now
  have hz : a.tmps.size = 10 := h2
  have hdf : a.defers = [] := h1
  have b0 : a.tmps.getD 0 undef = .int .i64 y := h3 0 (fun i (h : i < 6) => by show (if i = 5 then 4 else 5 + i) ≠ 0; (repeat' split) <;> omega)
  rw [act_eq hz hdf]
  simp only [rg10, List.map_cons, List.map_nil, b0, b4]
  clear b0 b4 hz hdf h1 h2 h3 h4
  go_wp2_with fail
  go_ret
  exact ⟨by rw [← hc.out]; rfl, h5⟩
set_option maxRecDepth 100000 in
theorem find2_any (P : Pool w0 lf cs pA pc gp op) (H : Hm w0 lf cs pA pc hb mb U) (A : Anc w0 f fst tr) {g10 n c : Nat} {B : Option Addr} {l : List Int} (r10 : Row U g10 0 [.func (.func 48) #[] #[.pointer (some ⟨g5, 0, none⟩), .pointer (some ⟨g8, 0, none⟩)]])
  (r5 : Row U g5 0 [.func (.func f) fst #[]]) (r8 : Row U g8 0 [.pointer (some ⟨hb, 0, none⟩)]) (hn : n = l.length) (hl : n ≤ 1000) (hr : RdI U B l) (hs : ∀ x ∈ l, Spot cs x) :
  Calls Tryz.prog 51 #[.slice B n c, .pointer (some ⟨g10, 0, none⟩)] U (RetW (l.any fun i => tr (atC lf cs i)) U) := by
 have k10 : U.cell? ⟨g10, 0, none⟩ = some (.func (.func 48) #[] #[.pointer (some ⟨g5, 0, none⟩), .pointer (some ⟨g8, 0, none⟩)]) := r10.2 0 _ rfl
 have hq := containsI_any 48 #[.pointer (some ⟨g5, 0, none⟩), .pointer (some ⟨g8, 0, none⟩)] cf_f1 (fun V => Below U.heap.size U V) (fun i => tr (atC lf cs i)) B n c l hn hl
  (fun V q => hr.imp id fun ⟨b, o, h1, h2⟩ => ⟨b, o, h1, h2.below q⟩) (fun V x hx q => (find1_any P (H.grow q) A (r5.below q) (r8.below q) (hs x hx)).mono fun e V' ⟨h1, h2⟩ => ⟨h1, q.trans (h2.mono q.size)⟩) U (Below.refl _ _)
 generalize l.any (fun i => tr (atC lf cs i)) = b at hq ⊢
 clear hr hs hn
 go_enter Tryz.func51, Tryz.ntmps51
 go_wp2_with fail
 refine hq.mono ?_
 rintro e V ⟨rfl, q⟩
 go_wp2_with fail
 go_ret
 exact ⟨rfl, q⟩
set_option maxRecDepth 100000 in
theorem find3_any (P : Pool w0 lf cs pA pc gp op) (h : Hm w0 lf cs pA pc hb mb U) {x i : Int} (r8 : Row U g8 0 [.pointer (some ⟨hb, 0, none⟩)]) (r4 : Row U g1 0 [.int .i64 i]) (hx : Spot cs x) (hi : Spot cs i) :
  Calls Tryz.prog 53 #[.int .i64 x, .pointer (some ⟨g8, 0, none⟩), .pointer (some ⟨g1, 0, none⟩)] U (HsPost (sgAt lf cs) (sgAt lf cs i x) mb U) := by
 have k1 : U.cell? ⟨g8, 0, none⟩ = some (.pointer (some ⟨hb, 0, none⟩)) := r8.2 0 _ rfl
 have k4 : U.cell? ⟨g1, 0, none⟩ = some (.int .i64 i) := r4.2 0 _ rfl
 go_enter Tryz.func53, Tryz.ntmps53
 go_wp2_with fail
 refine (hsigned_any P h hi hx).mono ?_
 rintro e U' ⟨rfl, h1, h2⟩
 go_wp2_with fail
 go_ret
 exact ⟨rfl, h1, h2⟩
set_option maxRecDepth 100000 in
theorem find4_any (P : Pool w0 lf cs pA pc gp op) (h : Hm w0 lf cs pA pc hb mb U) {x i : Int} (r8 : Row U g8 0 [.pointer (some ⟨hb, 0, none⟩)]) (r4 : Row U g1 0 [.int .i64 i]) (hx : Spot cs x) (hi : Spot cs i) :
  Calls Tryz.prog 56 #[.int .i64 x, .pointer (some ⟨g8, 0, none⟩), .pointer (some ⟨g1, 0, none⟩)] U (HsPost (sgAt lf cs) (sgAt lf cs i x) mb U) := by
 have k1 : U.cell? ⟨g8, 0, none⟩ = some (.pointer (some ⟨hb, 0, none⟩)) := r8.2 0 _ rfl
 have k4 : U.cell? ⟨g1, 0, none⟩ = some (.int .i64 i) := r4.2 0 _ rfl
 go_enter Tryz.func56, Tryz.ntmps56
 go_wp2_with fail
 refine (hsigned_any P h hi hx).mono ?_
 rintro e U' ⟨rfl, h1, h2⟩
 go_wp2_with fail
 go_ret
 exact ⟨rfl, h1, h2⟩
end
end Go.Proofs.YtchaahnhpeoomaaGreat
