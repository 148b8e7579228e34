/-
  RgtA: The closure of signer.Right: a certificate's key verifies the signer's signature over a digest.
-/
import Derived.Test.YtchaahnhpeoomaaGreatPGSig
import Derived.RangeFuncNested
import Derived.RangeFuncBound
import Derived.RangeFuncCalls
import Derived.RangeFuncLeaves
import Derived.RangeFuncFrom
import Derived.Shelf.Abstract
import Derived.Shelf.RegionOpen
import Derived.WalkKit
import Derived.OwnWalkIn
import Derived.TacticsInMore
import Derived.LoopNIn
import Derived.LoopIn
import Derived.Test.YtchaahnhpeoomaaGreatPGDer
import Derived.Test.YtchaahnhpeoomaaGreatPGBas
import Derived.Test.YtchaahnhpeoomaaGreatPGReg
import Derived.DeepKeys
import Derived.OrdersIn
import Derived.Deep.QuietTactic
namespace Go.Proofs.YtchaahnhpeoomaaGreat
set_option linter.unusedVariables false
set_option linter.unusedSimpArgs false
set_option maxRecDepth 20000
open Go.RowKit
set_option maxRecDepth 100000 in
set_option maxHeartbeats 1600000 in
theorem right1_any (gc gs : Nat) (c : Crt) (s : Sgn) (ds : List Nat) (w : World) (hd : ds.length = 32) (ld : Lim 256 ds) (hc : Row w gc 0 c.cells) (hs : Row w gs 0 s.cells) (ck : c.key.ok w) (ce : c.e < 18446744073709551616) (sk : s.sig.ok w) (hk : c.key.xs.length ≤ 70000) :
    Calls Tryz.prog 58 #[.agg (ints .u8 ds).toArray, .pointer (some ⟨gc, 0, none⟩), .pointer (some ⟨gs, 0, none⟩)] w (RetW (verB c.key.xs c.e ds s.sig.xs) w) := by
  have D1 : Whl .u8 49 (w.alloc (.cells (ints .u8 ds).toArray 49)) w.heap.size ds := whl_new0 w ds
  have e1 : Below w.heap.size w (w.alloc (.cells (ints .u8 ds).toArray 49)) := (Below.refl _ _).alloc (Nat.le_refl _) _
  have K1 : (w.alloc (.cells (ints .u8 ds).toArray 49)).rangeAt gc 17 [.slice c.key.A c.key.xs.length c.key.c, .int .u64 (c.e : Int)] := fun i v hv => by
    have hi : i < 2 := (List.getElem?_eq_some_iff.1 hv).1
    refine (hc.below e1).cell (i := 17 + i) (v := v) ?_ |> fun q => by rwa [Nat.zero_add] at q
    rcases i with _ | _ | i
    · exact hv
    · exact hv
    · omega
  have S1 : (w.alloc (.cells (ints .u8 ds).toArray 49)).cell? ⟨gs, 5, none⟩ = some (.slice s.sig.A s.sig.xs.length s.sig.c) := (hs.below e1).cell (i := 5) rfl
  have hl := Lib.hid hd
  go_enter Tryz.func58, Tryz.ntmps58
  go_wp2_with (first
    | (refine wpList_load_mid rfl 28 (.tmp 5) rfl gc 17 rfl [.slice c.key.A c.key.xs.length c.key.c, .int .u64 (c.e : Int)] _ K1 Tryz.underlying28 rfl size_key ?_)
    | (refine wpList_load_whl_if rfl 49 (.tmp 3) rfl w.heap.size rfl .u8 _ ds D1 _ Tryz.underlying49 rfl (by rw [hl.out]; exact size_32u8) ?_))
  refine (verify_any c.key.A s.sig.A c.key.xs.length c.key.c c.e s.sig.xs.length s.sig.c c.key.xs ds s.sig.xs _ rfl rfl hk sk.len (ck.below e1).rd (sk.below e1).rd ck.lim sk.lim hl.out ld ce).mono ?_
  rintro r w2 ⟨rfl, e2⟩
  generalize verB c.key.xs c.e ds s.sig.xs = b at *
  go_wp2_with fail
  go_ret
  exact ⟨rfl, e1.trans (e2.mono e1.size)⟩
end Go.Proofs.YtchaahnhpeoomaaGreat
namespace Go.Proofs.YtchaahnhpeoomaaGreat
set_option linter.unusedVariables false
set_option linter.unusedSimpArgs false
set_option maxRecDepth 20000
open Go.RowKit
set_option maxRecDepth 100000 in
set_option maxHeartbeats 1600000 in
theorem named_any (CA : Option Addr) (cn cc : Nat) (s : Sgn) (w : World) :
    Calls Tryz.prog 57 #[.slice CA cn cc, .agg s.cells.toArray] w (fun e w' => e = .returned (.func (.func 79) #[] #[.pointer (some ⟨w.heap.size, 0, none⟩), .pointer (some ⟨w.heap.size + 1, 0, none⟩)]) ∧
      w' = (w.alloc (.cells #[.slice CA cn cc] 31)).alloc (.cells s.cells.toArray 67)) := by
  have hmf : ∀ (fn : Fn) (first cap : Array Value) (w : World), (Instr.makeFunc fn first cap).run Tryz.prog w = .ok (.func fn first cap) w := fun _ _ _ _ => rfl
  go_enter Tryz.func57, Tryz.ntmps57
  go_wp2_with fail
  go_ret
  exact ⟨rfl, rfl⟩
end Go.Proofs.YtchaahnhpeoomaaGreat
namespace Go.Proofs.YtchaahnhpeoomaaGreat
set_option linter.unusedVariables false
set_option linter.unusedSimpArgs false
set_option maxRecDepth 20000
open Go.RowKit
attribute [local go_sem] Oper.semAt_some
theorem wpListIn_load_mid {F : Fence} {n : Nat} {P : Program} {ops : Array Oper} {rest : List Oper} {o : Oper} {a : Act} {w : World} {Q : Exit → Act → World → Prop} (hgd : o.guard = none) (ty : TypeId) (x : Operand) (ho : o.op = .load ty x)
    (g off : Nat) (hx : a.eval x = .pointer (some ⟨g, off, none⟩)) (cs : List Value) (d : TypeDesc) (hc : w.rangeAt g off cs)
    (hu : P.underlying ty = some d) (hd : d.isRow = true) (hi : (P.info? ty).map (·.size) = some cs.length)
    (h : wpListIn F n P ops Q rest (a.put o.dst (.agg cs.toArray)) w) : wpListIn F n P ops Q (o :: rest) a w := by
  refine wpListIn_plain hgd fun K hK => ?_
  have hsem : o.semAt F.round a.eval = execOp a.eval o := by
    unfold Oper.semAt
    cases F.round <;> simp [ho]
  refine ⟨fun f hf => by simp [Oper.about, ho] at hf, ?_⟩
  rw [hsem]
  unfold execOp
  simp only [ho, hx, Instr.loadAt, Instr.sureAddr, Sem.run_bind, Sem.run_pure, Result.andThen_ok, run_loadVar_mid w g off ty cs d hc hu hd hi]
  exact hK _ _ h
theorem wpListIn_load_mid_if {F : Fence} {n : Nat} {P : Program} {ops : Array Oper} {rest : List Oper} {o : Oper} {a : Act} {w : World} {Q : Exit → Act → World → Prop} (hgd : Region.wanted o (yielded ops a.tmps) = true) (ty : TypeId) (x : Operand) (ho : o.op = .load ty x)
    (g off : Nat) (hx : a.eval x = .pointer (some ⟨g, off, none⟩)) (cs : List Value) (d : TypeDesc) (hc : w.rangeAt g off cs)
    (hu : P.underlying ty = some d) (hd : d.isRow = true) (hi : (P.info? ty).map (·.size) = some cs.length)
    (h : wpListIn F n P ops Q rest (a.put o.dst (.agg cs.toArray)) w) : wpListIn F n P ops Q (o :: rest) a w := by
  refine wpListIn_step fun K hK => ?_
  rw [if_pos hgd]
  have hsem : o.semAt F.round a.eval = execOp a.eval o := by
    unfold Oper.semAt
    cases F.round <;> simp [ho]
  refine ⟨fun f hf => by simp [Oper.about, ho] at hf, ?_⟩
  rw [hsem]
  unfold execOp
  simp only [ho, hx, Instr.loadAt, Instr.sureAddr, Sem.run_bind, Sem.run_pure, Result.andThen_ok, run_loadVar_mid w g off ty cs d hc hu hd hi]
  exact hK _ _ h
theorem wpListIn_store_cut {F : Fence} {n : Nat} {P : Program} {ops : Array Oper} {rest : List Oper} {o : Oper} {a : Act} {w : World} {Q : Exit → Act → World → Prop} (hgd : o.guard = none) (ty : TypeId) (x y : Operand) (ho : o.op = .store ty x y)
    (g off : Nat) (vs us : List Value) (hx : a.eval x = .pointer (some ⟨g, off, none⟩)) (hy : a.eval y = .agg vs.toArray) (hc : Cut w g off us) (hl : vs.length = us.length)
    (hi : (P.info? ty).map (·.size) = some vs.length) (h1 : ∀ v ∈ vs, v.oneCell' = true)
    (h : ∀ w', Stored w g off vs w' → wpListIn F n P ops Q rest (a.put o.dst undef) w') : wpListIn F n P ops Q (o :: rest) a w := by
  refine wpListIn_plain hgd fun K hK => ?_
  have hsem : o.semAt F.round a.eval = execOp a.eval o := by
    unfold Oper.semAt
    cases F.round <;> simp [ho]
  refine ⟨fun f hf => by simp [Oper.about, ho] at hf, ?_⟩
  rw [hsem]
  have ht := hc.there
  rw [← hl] at ht
  have ht' : w.there g off vs.toArray.size := by simpa using ht
  have hi' : (P.info? ty).map (·.size) = some vs.toArray.size := by simpa using hi
  unfold execOp
  simp only [ho, hx, hy, Instr.storeAt, Instr.sureAddr, Sem.run_bind, Sem.run_pure, Result.andThen_ok, run_storeVar_mid w g off ty vs.toArray ht' hi' (all_oneCell_toArray h1)]
  exact hK _ _ (h _ (stored_setCells hc hl))
def fitsB (s : Sgn) (c : Crt) : Bool := decide (c.issuer.xs = s.issuer.xs) && decide (c.serial.xs = s.serial.xs)
abbrev InL (cs : List Crt) (s : Sgn) := { c : Crt // c ∈ cs ∧ fitsB s c = true }
end Go.Proofs.YtchaahnhpeoomaaGreat
namespace Go.Proofs.YtchaahnhpeoomaaGreat
set_option linter.unusedVariables false
set_option linter.unusedSimpArgs false
set_option maxRecDepth 20000
open Go.RowKit
attribute [local go_sem] Oper.semAt_some
theorem grown_below {w w' : World} (h : Below w.heap.size w w') : w.grownBy w' none := ⟨h.os, h.tape, h.output, h.size, fun k hk _ => h.block k hk⟩
set_option maxRecDepth 100000 in
set_option maxHeartbeats 3200000 in
theorem named1_in (n : Nat) (hn : 1 ≤ n) (l gc oc Bc Bs cc : Nat) (CA : Option Addr) (cs : List Crt) (s : Sgn) (J Jx : List (InL cs s) → World → Prop) (hcl : cs.length ≤ 1000000) (w0 : World)
    (hY : ∀ pre (x : InL cs s) W, J pre W → pre.length < cs.length + 1 → YieldAt Fence.wide (n - 1) Tryz.prog l #[.agg x.1.cells.toArray] W fun e W' =>
      (e = .returned (.bool true) ∧ J (pre ++ [x]) W' ∧ Below w0.heap.size W W') ∨ (e = .returned (.bool false) ∧ Jx (pre ++ [x]) W'))
    (W : World) (hJ : AbidesFrom W.heap.size J) (hW0 : Below w0.heap.size w0 W) (hA : cs = [] ∨ CA = some ⟨gc, oc, none⟩) (hBc : W.cell? ⟨Bc, 0, none⟩ = some (.slice CA cs.length cc)) (hR : Row w0 gc oc (crtCells cs)) (hS : Row w0 Bs 0 s.cells)
    (hcok : ∀ c ∈ cs, c.issuer.ok w0 ∧ c.serial.ok w0) (hsok : s.issuer.ok w0 ∧ s.serial.ok w0) (h0 : J [] W) :
    CallsIn Fence.wide n Tryz.prog 79 #[.func (.yield l) #[] #[], .pointer (some ⟨Bc, 0, none⟩), .pointer (some ⟨Bs, 0, none⟩)] W fun e W' => (∃ v, e = .returned v) ∧
      ((∃ ys : List (InL cs s), ys.map (·.1) = cs.filter (fitsB s) ∧ J ys W') ∨ (∃ pre : List (InL cs s), (∃ k, pre.map (·.1) = (cs.take k).filter (fitsB s)) ∧ Jx pre W')) := by
  obtain ⟨n₀, hn₀⟩ : ∃ n₀, n₀ = w0.heap.size := ⟨_, rfl⟩
  have hN : n₀ ≤ W.heap.size := by rw [hn₀]; exact hW0.size
  have hW0' : ∀ wr, Below n₀ W wr → Below w0.heap.size w0 wr := fun wr h => hW0.trans (by rw [hn₀] at h; exact h)
  rw [← hn₀] at hY
  clear hn₀ hW0
  refine callsIn_of_wp Tryz.func79 rfl trivial ?_ rfl
  simp only [Tryz.ntmps79, List.size_toArray, List.length_cons, List.length_nil, Nat.reduceAdd, Nat.reduceSub, Array.replicate_succ, Array.replicate_zero, List.push_toArray, List.append_toArray, List.nil_append, List.cons_append]
  gi_wp2
  gi_loopw [8] (fun v wr => ∃ (i : Nat) (pre : List (InL cs s)), i ≤ cs.length ∧ v = .int .i64 (i : Int) ∧ pre.map (·.1) = (cs.take i).filter (fitsB s) ∧ pre.length ≤ i ∧ J pre wr ∧ Below n₀ W wr) (fun v _ => cs.length - (intOf v).toNat)
  case atStart => exact ⟨0, [], Nat.zero_le _, rfl, rfl, Nat.le_refl _, h0, Below.refl _ _⟩
  case round =>
    obtain ⟨i, pre, hi, rfl, hpre, hpl, hJs, hk⟩ := hrel
    by_cases hlt : i < cs.length
    · have z1 : (i : Int) < (cs.length : Int) := by omega
      obtain ⟨c, hc⟩ : ∃ c, cs[i]? = some c := ⟨_, List.getElem?_eq_getElem hlt⟩
      obtain rfl := hA.resolve_left (by rintro rfl; simp at hlt)
      have hk0 := hW0' wr hk
      have Rc := crt_row (hR.below hk0) hc
      have CZ : Cut (wr.alloc (.cells Crt.none.cells.toArray 30)) wr.heap.size 0 Crt.none.cells := Cut.of_heap (heap_alloc_new _ _) fun i v hv => by simpa using hv
      have bZ : Below wr.heap.size wr (wr.alloc (.cells Crt.none.cells.toArray 30)) := (Below.refl wr.heap.size wr).alloc (Nat.le_refl _) _
      have zZ : wr.heap.size ≤ (wr.alloc (.cells Crt.none.cells.toArray 30)).heap.size := bZ.size
      have hkz : W.heap.size ≤ wr.heap.size := hk.size
      have cm := List.mem_of_getElem? hc
      obtain ⟨ci, cse⟩ := hcok c cm
      have ci := ci.below hk0
      have cse := cse.below hk0
      have si := hsok.1.below hk0
      have sse := hsok.2.below hk0
      have Rs := hS.below hk0
      have hlc : c.issuer.xs.length ≤ 9223372036854775807 := ci.len
      have hls : c.serial.xs.length ≤ 9223372036854775807 := cse.len
      have hstep : (cs.take (i + 1)).filter (fitsB s) = (cs.take i).filter (fitsB s) ++ (if fitsB s c then [c] else []) := by
        rw [List.take_add_one, hc, List.filter_append]
        cases hf : fitsB s c <;> simp [hf]
      by_cases hf : fitsB s c = true
      · have e1 : c.issuer.xs = s.issuer.xs ∧ c.serial.xs = s.serial.xs := by simpa [fitsB] using hf
        have d1 : decide (c.issuer.xs = s.issuer.xs) = true := by simp [e1.1]
        have d2 : decide (c.serial.xs = s.serial.xs) = true := by simp [e1.2]
        clear e1
        gi_wp2_with (first
          | (refine wpListIn_load_mid rfl 30 (.tmp 10) rfl gc (oc + i * 24) rfl c.cells _ Rc.2 Tryz.underlying30 rfl sz_cert ?_)
          | (refine wpListIn_store_cut rfl 30 (.tmp 5) (.tmp 11) rfl wr.heap.size 0 c.cells _ rfl rfl CZ rfl sz_cert (crt_one c) ?_; intro W2 hst;
             have bW : Below wr.heap.size wr W2 := below_only bZ hst.1 zZ (Nat.le_refl _);
             have k2 : W2.cell? ⟨wr.heap.size, 2, none⟩ = some (.slice c.issuer.A c.issuer.xs.length c.issuer.c) := (by { have q := hst.2.2.1.cell (i := 2) (v := .slice c.issuer.A c.issuer.xs.length c.issuer.c) rfl; rwa [Nat.zero_add] at q });
             have s0 : W2.cell? ⟨Bs, 0, none⟩ = some (.slice s.issuer.A s.issuer.xs.length s.issuer.c) := (by { have q := (Rs.below bW).cell (i := 0) (v := .slice s.issuer.A s.issuer.xs.length s.issuer.c) rfl; rwa [Nat.zero_add] at q });
             have hq := Lib.hid (slEq_any c.issuer.A s.issuer.A c.issuer.xs.length s.issuer.xs.length c.issuer.c s.issuer.c c.issuer.xs s.issuer.xs W2 rfl rfl hlc (ci.below bW).rd (si.below bW).rd); rw [d1] at hq)
          | (refine ⟨trivial, ?_⟩; gi_at_call 60; refine (callsIn_wide.2 hq.out).mono ?_; rintro e w' ⟨rfl, q, rfl⟩; clear hq;
             have k4 : (W2.drewN q).cell? ⟨wr.heap.size, 4, none⟩ = some (.slice c.serial.A c.serial.xs.length c.serial.c) := (by { have q := hst.2.2.1.cell (i := 4) (v := .slice c.serial.A c.serial.xs.length c.serial.c) rfl; rwa [Nat.zero_add] at q });
             have s1 : (W2.drewN q).cell? ⟨Bs, 1, none⟩ = some (.slice s.serial.A s.serial.xs.length s.serial.c) := (by { have q := (Rs.below bW).cell (i := 1) (v := .slice s.serial.A s.serial.xs.length s.serial.c) rfl; rwa [Nat.zero_add] at q });
             have hq2 := Lib.hid (slEq_any c.serial.A s.serial.A c.serial.xs.length s.serial.xs.length c.serial.c s.serial.c c.serial.xs s.serial.xs (W2.drewN q) rfl rfl hls ((cse.below bW).rd.drewN q) ((sse.below bW).rd.drewN q)); rw [d2] at hq2)
          | (refine ⟨trivial, ?_⟩; gi_at_call 60; refine (callsIn_wide.2 hq2.out).mono ?_; rintro e w' ⟨rfl, q2, rfl⟩; clear hq2;
             have RC4 : (W2.drewN (q + q2)).rangeAt wr.heap.size 0 c.cells := hst.2.2.1.range;
             obtain ⟨fn, tmps, assign, body, hy, hR⟩ := hY pre ⟨c, cm, hf⟩ (W2.drewN (q + q2)) (hJ pre wr _ none hJs (grown_below (below_drewN bW (q + q2))) (fun r e => by cases e)) (by omega); dsimp only at hy)
          | (refine wpListIn_load_mid_if rfl 30 (.tmp 5) rfl wr.heap.size 0 rfl c.cells _ RC4 Tryz.underlying30 rfl sz_cert ?_))
        refine hR.mono ?_
        have hnx : (pre ++ [(⟨c, cm, hf⟩ : InL cs s)]).map (·.1) = (cs.take (i + 1)).filter (fitsB s) := by rw [hstep, if_pos hf, List.map_append, hpre]; rfl
        rintro e W5 (⟨rfl, hJ5, hk5⟩ | ⟨rfl, hJx5⟩)
        · gi_wp2
          go_roundw
          case rel => exact ⟨i + 1, pre ++ [⟨c, cm, hf⟩], by omega, by go_num, hnx, by simp; omega, hJ5, (hk.trans ((below_drewN bW (q + q2)).mono (Nat.le_trans hN hkz))).trans hk5⟩
          case measure =>
            simp [intOf]
            omega
        · gi_wp2
          refine bodyPost_ret (results_none rfl _ _ _) rfl ?_
          exact ⟨⟨_, rfl⟩, .inr ⟨pre ++ [⟨c, cm, hf⟩], ⟨i + 1, hnx⟩, hJx5⟩⟩
      · by_cases e1 : c.issuer.xs = s.issuer.xs
        · have e2 : ¬ c.serial.xs = s.serial.xs := fun e2 => hf (by simp [fitsB, e1, e2])
          have d1 : decide (c.issuer.xs = s.issuer.xs) = true := by simp [e1]
          have d2 : decide (c.serial.xs = s.serial.xs) = false := by simp [e2]
          clear e1 e2
          gi_wp2_with (first
            | (refine wpListIn_load_mid rfl 30 (.tmp 10) rfl gc (oc + i * 24) rfl c.cells _ Rc.2 Tryz.underlying30 rfl sz_cert ?_)
            | (refine wpListIn_store_cut rfl 30 (.tmp 5) (.tmp 11) rfl wr.heap.size 0 c.cells _ rfl rfl CZ rfl sz_cert (crt_one c) ?_; intro W2 hst;
               have bW : Below wr.heap.size wr W2 := below_only bZ hst.1 zZ (Nat.le_refl _);
               have k2 : W2.cell? ⟨wr.heap.size, 2, none⟩ = some (.slice c.issuer.A c.issuer.xs.length c.issuer.c) := (by { have q := hst.2.2.1.cell (i := 2) (v := .slice c.issuer.A c.issuer.xs.length c.issuer.c) rfl; rwa [Nat.zero_add] at q });
               have s0 : W2.cell? ⟨Bs, 0, none⟩ = some (.slice s.issuer.A s.issuer.xs.length s.issuer.c) := (by { have q := (Rs.below bW).cell (i := 0) (v := .slice s.issuer.A s.issuer.xs.length s.issuer.c) rfl; rwa [Nat.zero_add] at q });
               have hq := Lib.hid (slEq_any c.issuer.A s.issuer.A c.issuer.xs.length s.issuer.xs.length c.issuer.c s.issuer.c c.issuer.xs s.issuer.xs W2 rfl rfl hlc (ci.below bW).rd (si.below bW).rd); rw [d1] at hq)
            | (refine ⟨trivial, ?_⟩; gi_at_call 60; refine (callsIn_wide.2 hq.out).mono ?_; rintro e w' ⟨rfl, q, rfl⟩; clear hq;
               have k4 : (W2.drewN q).cell? ⟨wr.heap.size, 4, none⟩ = some (.slice c.serial.A c.serial.xs.length c.serial.c) := (by { have q := hst.2.2.1.cell (i := 4) (v := .slice c.serial.A c.serial.xs.length c.serial.c) rfl; rwa [Nat.zero_add] at q });
               have s1 : (W2.drewN q).cell? ⟨Bs, 1, none⟩ = some (.slice s.serial.A s.serial.xs.length s.serial.c) := (by { have q := (Rs.below bW).cell (i := 1) (v := .slice s.serial.A s.serial.xs.length s.serial.c) rfl; rwa [Nat.zero_add] at q });
               have hq2 := Lib.hid (slEq_any c.serial.A s.serial.A c.serial.xs.length s.serial.xs.length c.serial.c s.serial.c c.serial.xs s.serial.xs (W2.drewN q) rfl rfl hls ((cse.below bW).rd.drewN q) ((sse.below bW).rd.drewN q)); rw [d2] at hq2)
            | (refine ⟨trivial, ?_⟩; gi_at_call 60; refine (callsIn_wide.2 hq2.out).mono ?_; rintro e w' ⟨rfl, q2, rfl⟩; clear hq2))
          refine ⟨fun _ h => (by cases h), ?_⟩
          gi_wp2
          have bq := below_drewN bW (q + q2)
          go_roundw
          case rel =>
            exact ⟨i + 1, pre, by omega, by go_num, by rw [hstep, if_neg hf, List.append_nil]; exact hpre, by omega, hJ pre wr _ none hJs (grown_below bq) (fun r e => by cases e), hk.trans (bq.mono (Nat.le_trans hN hkz))⟩
          case measure =>
            simp [intOf]
            omega
        · have d1 : decide (c.issuer.xs = s.issuer.xs) = false := by simp [e1]
          gi_wp2_with (first
            | (refine wpListIn_load_mid rfl 30 (.tmp 10) rfl gc (oc + i * 24) rfl c.cells _ Rc.2 Tryz.underlying30 rfl sz_cert ?_)
            | (refine wpListIn_store_cut rfl 30 (.tmp 5) (.tmp 11) rfl wr.heap.size 0 c.cells _ rfl rfl CZ rfl sz_cert (crt_one c) ?_; intro W2 hst;
               have bW : Below wr.heap.size wr W2 := below_only bZ hst.1 zZ (Nat.le_refl _);
               have k2 : W2.cell? ⟨wr.heap.size, 2, none⟩ = some (.slice c.issuer.A c.issuer.xs.length c.issuer.c) := (by { have q := hst.2.2.1.cell (i := 2) (v := .slice c.issuer.A c.issuer.xs.length c.issuer.c) rfl; rwa [Nat.zero_add] at q });
               have s0 : W2.cell? ⟨Bs, 0, none⟩ = some (.slice s.issuer.A s.issuer.xs.length s.issuer.c) := (by { have q := (Rs.below bW).cell (i := 0) (v := .slice s.issuer.A s.issuer.xs.length s.issuer.c) rfl; rwa [Nat.zero_add] at q });
               have hq := Lib.hid (slEq_any c.issuer.A s.issuer.A c.issuer.xs.length s.issuer.xs.length c.issuer.c s.issuer.c c.issuer.xs s.issuer.xs W2 rfl rfl hlc (ci.below bW).rd (si.below bW).rd); rw [d1] at hq)
            | (refine ⟨trivial, ?_⟩; gi_at_call 60; refine (callsIn_wide.2 hq.out).mono ?_; rintro e w' ⟨rfl, q, rfl⟩))
          refine ⟨trivial, ?_⟩
          gi_wp2
          refine ⟨fun _ h => (by cases h), ?_⟩
          gi_wp2
          have bq := below_drewN bW q
          go_roundw
          case rel =>
            exact ⟨i + 1, pre, by omega, by go_num, by rw [hstep, if_neg hf, List.append_nil]; exact hpre, by omega, hJ pre wr _ none hJs (grown_below bq) (fun r e => by cases e), hk.trans (bq.mono (Nat.le_trans hN hkz))⟩
          case measure =>
            simp [intOf]
            omega
    · have z1 : ¬ (i : Int) < (cs.length : Int) := by omega
      obtain rfl : i = cs.length := by omega
      gi_wp2
      go_end0
      exact ⟨⟨_, rfl⟩, .inl ⟨pre, by have q := hpre; rw [List.take_length] at q; exact q, hJs⟩⟩
end Go.Proofs.YtchaahnhpeoomaaGreat
namespace Go.Proofs.YtchaahnhpeoomaaGreat
set_option linter.unusedVariables false
set_option linter.unusedSimpArgs false
set_option maxRecDepth 20000
open Go.RowKit
theorem named1_stops (n : Nat) (hn : 1 ≤ n) (gc oc Bc Bs cc : Nat) (CA : Option Addr) (cs : List Crt) (s : Sgn) (hcl : cs.length ≤ 1000000) (w : World) (hA : cs = [] ∨ CA = some ⟨gc, oc, none⟩)
    (hBc : w.cell? ⟨Bc, 0, none⟩ = some (.slice CA cs.length cc)) (hB1 : Bc < w.heap.size) (hR : Row w gc oc (crtCells cs)) (hS : Row w Bs 0 s.cells)
    (hcok : ∀ c ∈ cs, c.issuer.ok w ∧ c.serial.ok w) (hsok : s.issuer.ok w ∧ s.serial.ok w) :
    SeqStopsK Fence.wide n Tryz.prog 79 #[.pointer (some ⟨Bc, 0, none⟩), .pointer (some ⟨Bs, 0, none⟩)] (fun x : InL cs s => #[.agg x.1.cells.toArray]) (Below w.heap.size)
      (fun ys => ys.map (·.1) = cs.filter (fitsB s)) (fun pre => ∃ k, pre.map (·.1) = (cs.take k).filter (fitsB s)) (cs.length + 1) w := fun l J Jx W hW hJ _ hY h0 =>
  named1_in n hn l gc oc Bc Bs cc CA cs s J Jx hcl w hY W hJ hW hA ((hW.cell (p := ⟨Bc, 0, none⟩) hB1).trans hBc) hR hS hcok hsok h0
end Go.Proofs.YtchaahnhpeoomaaGreat
namespace Go.Proofs.YtchaahnhpeoomaaGreat
set_option linter.unusedVariables false
set_option linter.unusedSimpArgs false
set_option maxRecDepth 20000
open Go.RowKit
theorem part_u8 (xs : Array Value) (i : Nat) (k : Int) (h : xs[i]? = some (.int .u8 k)) (w : World) : (Go.part 5 xs i).run Tryz.prog w = .ok (.int .u8 k) w := by
  have h4 : ∀ w, (isAgg 5).run Tryz.prog w = .ok false w := fun w => by kernel_rfl
  simp [Go.part, Sem.run_bind, h4, Result.andThen, h]
theorem part_u16 (xs : Array Value) (i : Nat) (k : Int) (h : xs[i]? = some (.int .u16 k)) (w : World) : (Go.part 23 xs i).run Tryz.prog w = .ok (.int .u16 k) w := by
  have h4 : ∀ w, (isAgg 23).run Tryz.prog w = .ok false w := fun w => by kernel_rfl
  simp [Go.part, Sem.run_bind, h4, Result.andThen, h]
theorem eqf_step (d : Nat) (xs ys : Array Value) (f : Field) (fs : List Field) (w : World) (x y : Value) (c : Bool) (hn : (f.name != "_") = true) (hx : (Go.part f.type xs f.offset).run Tryz.prog w = .ok x w) (hy : (Go.part f.type ys f.offset).run Tryz.prog w = .ok y w)
    (hq : (Op.equalIn d f.type x y).run Tryz.prog w = .ok c w) (r : Bool) (hr : (Op.eqFields d xs ys fs).run Tryz.prog w = .ok r w) : (Op.eqFields d xs ys (f :: fs)).run Tryz.prog w = .ok (c && r) w := by
  have hn' : f.name ≠ "_" := by simpa using hn
  simp only [Op.eqFields, hn', ne_eq, not_false_eq_true, if_true, Sem.run_bind, hx, hy, hq, Result.andThen_ok]
  cases c
  · simp
  · simpa using hr
theorem nat_beq (x y : Nat) : ((x : Int) == (y : Int)) = decide (x = y) := by
  by_cases h : x = y
  · simp [h]
  · have : ¬ (x : Int) = (y : Int) := by omega
    simp [h, this]
theorem tm_eq (a b : Tm) (w : World) : (binOp .eql 25 (.agg a.cells.toArray) (.agg b.cells.toArray)).run Tryz.prog w = .ok (.bool (decide (a = b))) w := by
  have hf : (Tryz.prog.fieldsOf 25).toList.map (fun f => (f.name != "_", f.type, f.offset)) = [(true, 23, 0), (true, 5, 1), (true, 5, 2), (true, 5, 3), (true, 5, 4), (true, 5, 5)] := by kernel_rfl
  have e : decide (a = b) = (decide (a.y = b.y) && (decide (a.mo = b.mo) && (decide (a.d = b.d) && (decide (a.h = b.h) && (decide (a.mi = b.mi) && (decide (a.s = b.s) && true)))))) := by
    obtain ⟨a1, a2, a3, a4, a5, a6⟩ := a
    obtain ⟨b1, b2, b3, b4, b5, b6⟩ := b
    simp
  have hst : Tryz.prog.stoodInHeld 25 = false := by kernel_rfl
  rw [e, run_eql_struct, run_equalIn_agg w 9999 _ _ _ (by kernel_rfl) hst]
  clear e hst
  generalize (Tryz.prog.fieldsOf 25).toList = fs at *
  obtain ⟨f0, fs, rfl, h0, hf⟩ := List.map_eq_cons_iff.1 hf
  obtain ⟨f1, fs, rfl, h1, hf⟩ := List.map_eq_cons_iff.1 hf
  obtain ⟨f2, fs, rfl, h2, hf⟩ := List.map_eq_cons_iff.1 hf
  obtain ⟨f3, fs, rfl, h3, hf⟩ := List.map_eq_cons_iff.1 hf
  obtain ⟨f4, fs, rfl, h4, hf⟩ := List.map_eq_cons_iff.1 hf
  obtain ⟨f5, fs, rfl, h5, hf⟩ := List.map_eq_cons_iff.1 hf
  obtain rfl := List.map_eq_nil_iff.1 hf
  simp only [Prod.mk.injEq] at h0 h1 h2 h3 h4 h5
  have q16 : ∀ x y : Nat, (Op.equalIn 9999 23 (.int .u16 (x : Int)) (.int .u16 (y : Int))).run Tryz.prog w = .ok (decide (x = y)) w := fun x y => by rw [run_equalIn_int w 9998 23 .u16 .u16 _ _ Tryz.underlying23, nat_beq]
  have q8 : ∀ x y : Nat, (Op.equalIn 9999 5 (.int .u8 (x : Int)) (.int .u8 (y : Int))).run Tryz.prog w = .ok (decide (x = y)) w := fun x y => by rw [run_equalIn_int w 9998 5 .u8 .u8 _ _ Tryz.underlying5, nat_beq]
  have hz : (Op.eqFields 9999 a.cells.toArray b.cells.toArray []).run Tryz.prog w = .ok true w := by simp [Op.eqFields]
  have k5 := eqf_step 9999 a.cells.toArray b.cells.toArray f5 _ w _ _ _ h5.1 (by rw [h5.2.1, h5.2.2]; exact part_u8 a.cells.toArray 5 _ rfl w) (by rw [h5.2.1, h5.2.2]; exact part_u8 b.cells.toArray 5 _ rfl w) (by rw [h5.2.1]; exact q8 _ _) _ hz
  have k4 := eqf_step 9999 a.cells.toArray b.cells.toArray f4 _ w _ _ _ h4.1 (by rw [h4.2.1, h4.2.2]; exact part_u8 a.cells.toArray 4 _ rfl w) (by rw [h4.2.1, h4.2.2]; exact part_u8 b.cells.toArray 4 _ rfl w) (by rw [h4.2.1]; exact q8 _ _) _ k5
  have k3 := eqf_step 9999 a.cells.toArray b.cells.toArray f3 _ w _ _ _ h3.1 (by rw [h3.2.1, h3.2.2]; exact part_u8 a.cells.toArray 3 _ rfl w) (by rw [h3.2.1, h3.2.2]; exact part_u8 b.cells.toArray 3 _ rfl w) (by rw [h3.2.1]; exact q8 _ _) _ k4
  have k2 := eqf_step 9999 a.cells.toArray b.cells.toArray f2 _ w _ _ _ h2.1 (by rw [h2.2.1, h2.2.2]; exact part_u8 a.cells.toArray 2 _ rfl w) (by rw [h2.2.1, h2.2.2]; exact part_u8 b.cells.toArray 2 _ rfl w) (by rw [h2.2.1]; exact q8 _ _) _ k3
  have k1 := eqf_step 9999 a.cells.toArray b.cells.toArray f1 _ w _ _ _ h1.1 (by rw [h1.2.1, h1.2.2]; exact part_u8 a.cells.toArray 1 _ rfl w) (by rw [h1.2.1, h1.2.2]; exact part_u8 b.cells.toArray 1 _ rfl w) (by rw [h1.2.1]; exact q8 _ _) _ k2
  have k0 := eqf_step 9999 a.cells.toArray b.cells.toArray f0 _ w _ _ _ h0.1 (by rw [h0.2.1, h0.2.2]; exact part_u16 a.cells.toArray 0 _ rfl w) (by rw [h0.2.1, h0.2.2]; exact part_u16 b.cells.toArray 0 _ rfl w) (by rw [h0.2.1]; exact q16 _ _) _ k1
  rw [k0]
  rfl
theorem two_blocks (w : World) (A B : Obj) : ∃ W, W = (w.alloc A).alloc B ∧ W.heap[w.heap.size]? = some A ∧ W.heap[w.heap.size + 1]? = some B ∧ W.heap.size = w.heap.size + 2 ∧ Below w.heap.size w W := by
  have h1 := heap_alloc_new (w.alloc A) B
  have h0 := (Below.heap_alloc (w.alloc A) B w.heap.size (by simp)).trans (heap_alloc_new w A)
  rw [World.size_alloc] at h1
  exact ⟨_, rfl, h0, h1, by simp, ((Below.refl _ _).alloc (Nat.le_refl _) _).alloc (by simp) _⟩
theorem Row.of_heap {w : World} {b : Nat} {vs : List Value} {t : TypeId} {fr : Nat × Nat} (h : w.heap[b]? = some (.cells vs.toArray t fr)) : Row w b 0 vs := ⟨heap_lt h, fun i v hv => by
  rw [Nat.zero_add, cell_of_row w b i _ t fr h]
  simpa using hv⟩
end Go.Proofs.YtchaahnhpeoomaaGreat
namespace Go.Proofs.YtchaahnhpeoomaaGreat
set_option linter.unusedVariables false
set_option linter.unusedSimpArgs false
set_option maxRecDepth 20000
open Go.RowKit
section
variable {P : Program} {n l : Nat} {ops : Array Oper} {Q : Exit → Act → World → Prop}
theorem oper_round {o : Oper} {a : Act} {w : World} {K : Act → World → Prop} (hdf : ∀ c, o.op ≠ .defer c) (h : o.wp P a w K Q) : o.wpIn (Fence.wide.inRound l) n P a w K Q := by
  refine ⟨fun _ _ => trivial, ?_⟩
  rw [Oper.semAt_eq _ _ _ hdf]
  unfold Oper.wp at h
  generalize (execOp a.eval o).run P w = r at *
  cases r with
  | ok x w' =>
    cases x
    case value v => exact h
    case skip => exact h
    case defer d => exact h
    case enter f args => exact ⟨fun h => by simp [Fence.wide] at h, CallsIn.inRound l (callsIn_wide.2 h)⟩
    case row r args =>
      refine ⟨fun h => by simp [Fence.wide] at h, fun c cs _ => ?_⟩
      obtain ⟨v, w2, h1, h2⟩ := h c cs
      refine ⟨v, w2, h1, ?_⟩
      rw [fenced_inRound]
      exact stepsIn_wide.2 h2
    all_goals exact h.elim
  | halt x w' =>
    cases x <;> first | exact h | exact h.elim
theorem any_round {md : Region.Mode} (hdf : ∀ (i : Nat) (o : Oper) c, ops[i]? = some o → o.op ≠ .defer c) (hL : ¬ LetsOut Q) : ∀ (fuel : Nat) (listed : Array Bool) (a : Act) (w : World), wpAny P md ops Q fuel listed a w → wpAnyIn (Fence.wide.inRound l) n P md ops Q fuel listed a w
  | 0, _, _, _, h => h
  | fuel + 1, listed, a, w, h => by
    refine ⟨h.1, fun i hi => ?_⟩
    have hh := h.2 i hi
    unfold wpOp at hh
    unfold wpOpIn
    cases ho : ops[i]? with
    | none =>
      simp only [ho] at hh
      exact any_round hdf hL fuel _ a w hh
    | some o =>
      simp only [ho] at hh
      dsimp only
      by_cases hw : Region.wanted o (yielded ops a.tmps) = true
      · rw [if_pos hw] at hh ⊢
        rcases hh with hh | hh
        · exact Oper.wpIn_mono (fun a w h => any_round hdf hL fuel _ a w h) (oper_round (fun c => hdf i o c ho) hh)
        · exact (hL hh.2).elim
      · rw [if_neg hw] at hh ⊢
        exact ⟨fun _ _ => trivial, any_round hdf hL fuel _ _ w hh⟩
def noDefer (ops : Array Oper) : Bool := ops.all fun o => !(o.op matches .defer _)
theorem noDefer_spec (h : noDefer ops = true) : ∀ (i : Nat) (o : Oper) c, ops[i]? = some o → o.op ≠ .defer c := by
  intro i o c ho e
  unfold noDefer at h
  rw [Array.all_eq_true] at h
  obtain ⟨hi, he⟩ := Array.getElem?_eq_some_iff.1 ho
  have := h i hi
  rw [he, e] at this
  simp at this
theorem wpIn_quiet_round {id : Nat} {a : Act} {w : World} {L : List Oper} (hm : P.follows .mixedOrders = true) (hB : Region.lexB .any L.toArray = true) (hD : noDefer L.toArray = true) (hL : ¬ LetsOut Q)
    (h : wpQuiet P L.toArray (fun w' => ∃ n, w' = w.drewN n) (fun a' => ∀ w', (∃ n, w' = w.drewN n) → Q .normal a' w') L a) : (Code.region id L.toArray true).wpIn (Fence.wide.inRound l) n P Q a w := by
  have hB' := hB
  simp only [Region.lexB, Bool.and_eq_true] at hB'
  refine wpIn_region_any hm (any_round (noDefer_spec hD) hL _ _ _ _ ?_)
  refine wpAny_of_quiet (C := fun w' => ∃ n, w' = w.drewN n) (Q := fun a' => ∀ w', (∃ n, w' = w.drewN n) → Q .normal a' w') (fun _ w' hw' h => h w' hw') _ _ _ _ ⟨1, rfl⟩ ?_
  have := wpAnyQ_lex (C := fun w' => ∃ n, w' = w.drewN n) (md := .any) hB'.1 L 0 (Array.replicate L.toArray.size false) a (by simp) (by simpa using hB'.2) h
  simpa using this
end
end Go.Proofs.YtchaahnhpeoomaaGreat
namespace Go.Proofs.YtchaahnhpeoomaaGreat
set_option linter.unusedVariables false
set_option linter.unusedSimpArgs false
set_option maxRecDepth 20000
open Go.RowKit
def sgYes (s : Sgn) (kind ds : List Nat) (c : Crt) : Bool :=
  if s.attrs.xs = [] then verB c.key.xs c.e ds s.sig.xs else decide (s.kind.xs = kind) && decide (s.digest.xs = ds) && verB c.key.xs c.e (digest s.attrs.xs) s.sig.xs
def rightOf (cs : List Crt) (s : Sgn) (kind ds : List Nat) : Option Crt := (cs.find? (fitsB s)).filter (sgYes s kind ds)
def RightPost (r : Option Crt) (w : World) (e : Ending) (w' : World) : Prop := e = .returned (.tuple #[.agg (r.getD Crt.none).cells.toArray, .bool r.isSome]) ∧ Below w.heap.size w w'
theorem five_blocks (w : World) (A B C D E : Obj) : ∃ W, W = ((((w.alloc A).alloc B).alloc C).alloc D).alloc E ∧ W.heap[w.heap.size]? = some A ∧ W.heap[w.heap.size + 1]? = some B ∧ W.heap[w.heap.size + 2]? = some C ∧ W.heap[w.heap.size + 3]? = some D ∧ W.heap[w.heap.size + 4]? = some E ∧
    W.heap.size = w.heap.size + 5 ∧ Below w.heap.size w W := by
  obtain ⟨W2, hW2, a0, a1, z2, e2⟩ := two_blocks w A B
  obtain ⟨W4, hW4, a2, a3, z4, e4⟩ := two_blocks W2 C D
  have a4 := heap_alloc_new W4 E
  rw [z2] at a2 a3 z4
  rw [z4] at a4
  have e5 : Below W4.heap.size W4 (W4.alloc E) := (Below.refl _ _).alloc (Nat.le_refl _) _
  refine ⟨W4.alloc E, by rw [hW4, hW2], ?_, ?_, ?_, ?_, a4, by simp [z4], e2.trans ((e4.trans (e5.mono e4.size)).mono e2.size)⟩
  · exact (e5.block _ (by omega)).trans ((e4.block _ (by omega)).trans a0)
  · exact (e5.block _ (by omega)).trans ((e4.block _ (by omega)).trans a1)
  · exact (e5.block _ (by omega)).trans a2
  · exact (e5.block _ (by omega)).trans a3
theorem results_row_cell {P : Program} {fn : Func} {p q : Tmp} {T T2 : TypeId} (h : fn.results = #[.cell p T, .cell q T2]) (tmps : Array Value) (w : World) (g o : Nat) (cs : List Value) (d : TypeDesc) (b : Addr) (v : Value)
    (hp : tmps.getD p undef = .pointer (some ⟨g, o, none⟩)) (hc : w.rangeAt g o cs) (hu : P.underlying T = some d) (hd : d.isRow = true) (hi : (P.info? T).map (·.size) = some cs.length)
    (hq : tmps.getD q undef = .pointer (some b)) (hv : (loadVar T2 b).run P w = .ok v w) :
    (results fn tmps).run P w = .ok (.tuple #[.agg cs.toArray, v]) w := by
  have hp' : tmps[p]?.getD undef = .pointer (some ⟨g, o, none⟩) := by simpa using hp
  have hq' : tmps[q]?.getD undef = .pointer (some b) := by simpa using hq
  have hl := run_loadVar_mid (P := P) w g o T _ _ hc hu hd hi
  simp [results, h, hp', hq', asAddr, hl, hv]
theorem lv_bool (p : Addr) (v : Value) (W : World) (h : W.cell? p = some v) : (loadVar 4 p).run Tryz.prog W = .ok v W := by go_simp
theorem built_cert : Tryz.prog.built 30 [] = some Crt.none.cells.toArray := by kernel_rfl
theorem cell_other {W W2 : World} {g : Nat} (hg : W.grownBy W2 (some g)) {p : Addr} {v : Value} {f : Bool} (hp : p.block < W.heap.size) (hne : p.block ≠ g) (hv : W.cell? p = some v) (hf : W.frozen? p = f) : W2.cell? p = some v ∧ W2.frozen? p = f := by
  have h := hg.block p.block hp (fun e => hne (by cases e; rfl))
  exact ⟨(World.cell?_of_block h).trans hv, (World.frozen?_of_block h).trans hf⟩
theorem wp_world {P : Program} {c : Code} {Q : Exit → Act → World → Prop} {a : Act} {W W' : World} (h : W' = W) (k : c.wp P Q a W') : c.wp P Q a W := h ▸ k
structure RM (b : Nat) (g : Sgd) (kd : Sl) (ds : List Nat) (W : World) : Prop where
  sgd : W.heap[b]? = some (.cells g.cells.toArray 48 (0, 0))
  kind : W.heap[b + 1]? = some (.cells #[kd.val] 22 (0, 0))
  dig : Whl .u8 49 W (b + 2) ds
  res : W.heap[b + 3]? = some (.cells Crt.none.cells.toArray 30 (0, 0))
  is : Boxed W (b + 4) 4 (.bool false)
section
variable {b : Nat} {g : Sgd} {kd : Sl} {ds : List Nat} {W W' : World}
theorem RM.lt (h : RM b g kd ds W) : b + 4 < W.heap.size := h.is.lt
theorem RM.below {n : Nat} (h : RM b g kd ds W) (hb : Below n W W') (hn : b + 5 ≤ n) : RM b g kd ds W' := by
  have hl := h.lt
  exact ⟨(hb.block _ (by omega)).trans h.sgd, (hb.block _ (by omega)).trans h.kind, h.dig.keep (hb.block _ (by omega)), (hb.block _ (by omega)).trans h.res, (hb.block _ (by omega)).trans h.is⟩
theorem RM.certs (h : RM b g kd ds W) : W.cell? ⟨b, 2, none⟩ = some (.slice g.CA g.cn g.cc) := cell_of_row W b 2 _ _ (0, 0) h.sgd
theorem RM.sgrs (h : RM b g kd ds W) : W.cell? ⟨b, 3, none⟩ = some (.slice g.SA g.sn g.sc) := cell_of_row W b 3 _ _ (0, 0) h.sgd
theorem RM.kdc (h : RM b g kd ds W) : W.cell? ⟨b + 1, 0, none⟩ = some kd.val := cell_of_row W (b + 1) 0 _ _ (0, 0) h.kind
theorem RM.cut (h : RM b g kd ds W) : Cut W (b + 3) 0 Crt.none.cells := Cut.of_heap h.res fun i v hv => by simpa using hv
end
set_option maxRecDepth 100000 in
set_option maxHeartbeats 3200000 in
theorem right_out (g : Sgd) (k : Int) (kd : Sl) (ds : List Nat) (w : World) (hd : ds.length = 32) (hk : k < 0 ∨ (g.sn : Int) ≤ k) (hk64 : -9223372036854775808 ≤ k ∧ k < 9223372036854775808) (hs : g.sn ≤ 1000000) :
    Calls Tryz.prog 30 #[g.val, .int .i64 k, kd.val, .agg (ints .u8 ds).toArray] w (RightPost none w) := by
  obtain ⟨w1, hw1, q0, q1, q2, q3, q4, z1, e1⟩ := five_blocks w (.cells g.cells.toArray 48) (.cells #[kd.val] 22) (.cells (ints .u8 ds).toArray 49) (.cells Crt.none.cells.toArray 30) (.cells #[.bool false] 4)
  have M : RM w.heap.size g kd ds w1 := ⟨q0, q1, q2, q3, q4⟩
  clear q0 q1 q2 q3 q4
  have hl := M.lt
  have ks := M.sgrs
  have k4 := M.is.cell
  have kf := M.is.frozen
  have KC := M.cut
  unfold Sgd.val
  go_enter Tryz.func30, Tryz.ntmps30
  go_upto_region 1 with fail
  refine wp_world hw1 ?_
  clear hw1
  simp only [Nat.add_assoc, Nat.reduceAdd]
  have hcase : k < 0 ∨ (¬ k < 0 ∧ (g.sn : Int) ≤ k) := by omega
  clear hk
  rcases hcase with hneg | ⟨hneg, hge⟩
  all_goals
    go_wp2_with (first
      | (refine wpList_build_at rfl 30 #[] rfl Crt.none.cells.toArray built_cert ?_)
      | (refine wpList_store_cut rfl 30 (.tmp 8) (.tmp 23) rfl (w.heap.size + 3) 0 Crt.none.cells _ rfl rfl KC rfl sz_cert (crt_one _) ?_; intro W2 hst;
         obtain ⟨kb4, kf4⟩ := cell_other hst.1 (p := ⟨w.heap.size + 4, 0, none⟩) hl (by simp) k4 kf))
    have e3 : Below w.heap.size w (W2.setCell ⟨w.heap.size + 4, 0, none⟩ (.bool false)) := (below_only e1 hst.1 e1.size (by omega)).setCell (by show w.heap.size ≤ w.heap.size + 4; omega) _
    have CF : Cut (W2.setCell ⟨w.heap.size + 4, 0, none⟩ (.bool false)) (w.heap.size + 3) 0 Crt.none.cells := hst.2.2.1.keep (by simp) (Below.heap_setCell W2 _ _ _ (by show w.heap.size + 3 ≠ w.heap.size + 4; omega))
    refine bodyPost_ret (results_row_cell rfl _ _ (w.heap.size + 3) 0 Crt.none.cells _ ⟨w.heap.size + 4, 0, none⟩ (.bool false) rfl CF.range Tryz.underlying30 rfl sz_cert rfl (lv_bool _ _ _ (World.cell?_setCell_same W2 _ _ kb4))) rfl ?_
    exact ⟨rfl, e3⟩
end Go.Proofs.YtchaahnhpeoomaaGreat
namespace Go.Proofs.YtchaahnhpeoomaaGreat
set_option linter.unusedVariables false
set_option linter.unusedSimpArgs false
set_option maxRecDepth 20000
open Go.RowKit
attribute [local go_sem] Oper.semAt_some
theorem sgn_one (s : Sgn) : ∀ u ∈ s.cells, u.oneCell' = true := by
  intro u hu
  simp only [Sgn.cells, List.mem_cons, List.not_mem_nil, or_false] at hu
  rcases hu with rfl | rfl | rfl | rfl | rfl | rfl <;> rfl
theorem wpListIn_load_whl_if {F : Fence} {n : Nat} {P : Program} {ops : Array Oper} {rest : List Oper} {o : Oper} {a : Act} {w : World} {Q : Exit → Act → World → Prop} (hgd : Region.wanted o (yielded ops a.tmps) = true) (ty : TypeId) (x : Operand) (ho : o.op = .load ty x)
    (g : Nat) (hx : a.eval x = .pointer (some ⟨g, 0, none⟩)) (k : IntKind) (e : TypeId) (cs : List Nat) (hw : Whl k e w g cs) (d : TypeDesc)
    (hu : P.underlying ty = some d) (hd : d.isRow = true) (hi : (P.info? ty).map (·.size) = some cs.length)
    (h : wpListIn F n P ops Q rest (a.put o.dst (.agg (ints k cs).toArray)) w) : wpListIn F n P ops Q (o :: rest) a w :=
  wpListIn_load_mid_if hgd ty x ho g 0 hx (ints k cs) d (Cut.of_blk hw.blk).range hu hd (by rw [hi, ints_length]) h
theorem row_own_kept {X Y : World} {row : Option Nat} {g o : Nat} {vs : List Value} (h : Row X g o vs) (hg : X.grownBy Y row) (hrow : ∀ r, row = some r → ∃ o : Obj, X.heap[r]? = some o ∧ o.isCells = false) : Row Y g o vs :=
  ⟨Nat.lt_of_lt_of_le h.1 hg.size, fun i v hv => cell_kept (h.2 i v hv) hg hrow⟩
def RgtX (b : Nat) (w w4 : World) (s : Sgn) (kind ds : List Nat) {cs : List Crt} (c : Code) (pre : List (InL cs s)) (W : World) : Prop :=
  ∃ x, pre = [x] ∧ ((c = .ret ∧ sgYes s kind ds x.1 = true ∧ Row W (b + 3) 0 x.1.cells ∧ W.cell? ⟨b + 4, 0, none⟩ = some (.bool true) ∧ Below w.heap.size w W) ∨ (c = .exit 0 ∧ sgYes s kind ds x.1 = false ∧ Below w4.heap.size w4 W))
theorem RgtX.own (b : Nat) (w w4 : World) (s : Sgn) (kind ds : List Nat) {cs : List Crt} (h1 : w.heap.size ≤ w4.heap.size) (h2 : w.heap.size ≤ w4.heap.size) (c : Code) : OwnFrom w4.heap.size (RgtX b w w4 s kind ds (cs := cs) c) := fun pre X Y row hs hg hr => by
  obtain ⟨x, rfl, ⟨hc, hy, r, k, hb⟩ | ⟨hc, hy, hb⟩⟩ := hs
  · refine ⟨x, rfl, .inl ⟨hc, hy, row_own_kept r hg (fun r e => (hr r e).2), cell_kept k hg (fun r e => (hr r e).2), ?_⟩⟩
    exact hb.grown hg hb.size (fun k e => by have := (hr k e).1; omega)
  · refine ⟨x, rfl, .inr ⟨hc, hy, hb.grown hg hb.size (fun k e => (hr k e).1)⟩⟩
theorem keeps_below {W W1 : World} (b : Below W.heap.size W W1) : KeepsOthers W W1 := ⟨b.size, fun k o hk ho => (b.block k (Array.getElem?_eq_some_iff.1 hk).1).trans hk⟩
theorem ret_end {w w4 W W1 W2 : World} {g : Sgd} {kd : Sl} {d0 kind ds : List Nat} {s : Sgn} {cs : List Crt} {x : InL cs s} {v : Value} (hW : Below w4.heap.size w4 W) (h5 : w.heap.size + 5 ≤ w4.heap.size) (h0 : Below w.heap.size w w4) (b1 : Below W.heap.size W W1) (M1 : RM w.heap.size g kd d0 W1)
    (hst : Stored W1 (w.heap.size + 3) 0 x.1.cells W2) (kb4 : W2.cell? ⟨w.heap.size + 4, 0, none⟩ = some v) (hy : sgYes s kind ds x.1 = true) :
    KeepsFrom w4.heap.size W (W2.setCell ⟨w.heap.size + 4, 0, none⟩ (.bool true)) ∧ RgtX w.heap.size w w4 s kind ds .ret ([] ++ [x]) (W2.setCell ⟨w.heap.size + 4, 0, none⟩ (.bool true)) := by
  have hres := M1.res
  have e1 : Below w.heap.size w W1 := h0.trans ((hW.trans (b1.mono hW.size)).mono h0.size)
  refine ⟨(((keeps_below b1).trans (KeepsOthers.of_grownBy hst.1 (fun j o e ho => by cases e; rw [hres] at ho; cases ho; rfl))).trans (KeepsOthers.setCell _ _ _)).from _, x, rfl, .inl ⟨rfl, hy, ?_, World.cell?_setCell_same W2 _ _ kb4, ?_⟩⟩
  · exact Row.of_cut (hst.2.2.1.keep (by simp) (Below.heap_setCell W2 _ _ _ (by show w.heap.size + 3 ≠ w.heap.size + 4; omega)))
  · exact (below_only e1 hst.1 e1.size (by omega)).setCell (by show w.heap.size ≤ w.heap.size + 4; omega) _
theorem break_end {w w4 W W1 : World} {kind ds : List Nat} {s : Sgn} {cs : List Crt} {x : InL cs s} (hW : Below w4.heap.size w4 W) (b1 : Below W.heap.size W W1) (hy : sgYes s kind ds x.1 = false) :
    KeepsFrom w4.heap.size W W1 ∧ RgtX w.heap.size w w4 s kind ds (.exit 0) ([] ++ [x]) W1 :=
  ⟨(keeps_below b1).from _, x, rfl, .inr ⟨rfl, hy, hW.trans (b1.mono hW.size)⟩⟩
theorem fin_end {w W : World} {D : Nat} {vs : List Value} {v : Value} (hD : w.heap.size + 5 ≤ D) (hK : W.heap[D]? = some (.deferred (some []))) (r : Row W (w.heap.size + 3) 0 vs) (k : W.cell? ⟨w.heap.size + 4, 0, none⟩ = some v) (hb : Below w.heap.size w W) :
    Row (W.putObj D (.deferred none)) (w.heap.size + 3) 0 vs ∧ (W.putObj D (.deferred none)).cell? ⟨w.heap.size + 4, 0, none⟩ = some v ∧ Below w.heap.size w (W.putObj D (.deferred none)) := by
  have hg := grownBy_putObj' W D (.deferred none)
  refine ⟨r.keep hg.size (World.putObj_heap_other (by omega)), (World.cell?_of_block (a := ⟨w.heap.size + 4, 0, none⟩) (World.putObj_heap_other (by show w.heap.size + 4 ≠ D; omega))).trans k, hb.grown hg hb.size (fun k e => by cases e; omega)⟩
set_option maxRecDepth 100000 in
set_option maxHeartbeats 3200000 in
theorem sRight_any (g : Sgd) (i gc oc gs os : Nat) (cs : List Crt) (s : Sgn) (kd : Sl) (ds : List Nat) (w : World) (hd : ds.length = 32) (ld : Lim 256 ds)
    (hcn : g.cn = cs.length) (hcl : cs.length ≤ 1000000) (hA : cs = [] ∨ g.CA = some ⟨gc, oc, none⟩) (hR : Row w gc oc (crtCells cs)) (hcok : ∀ c ∈ cs, c.ok w) (hkl : ∀ c ∈ cs, fitsB s c = true → c.key.xs.length ≤ 70000)
    (hSA : g.SA = some ⟨gs, os, none⟩) (hi : i < g.sn) (hsn : g.sn ≤ 1000000) (hs : Row w gs (os + i * 6) s.cells) (hsok : s.ok w) (hal : s.attrs.xs.length ≤ 1099511627776) (hkd : kd.ok w) :
    Calls Tryz.prog 30 #[g.val, .int .i64 (i : Int), kd.val, .agg (ints .u8 ds).toArray] w (RightPost (rightOf cs s kd.xs ds) w) := by
  obtain ⟨w1, hw1, q0, q1, q2, q3, q4, z1, e1⟩ := five_blocks w (.cells g.cells.toArray 48) (.cells #[kd.val] 22) (.cells (ints .u8 ds).toArray 49) (.cells Crt.none.cells.toArray 30) (.cells #[.bool false] 4)
  have M : RM w.heap.size g kd ds w1 := ⟨q0, q1, q2, q3, q4⟩
  clear q0 q1 q2 q3 q4
  have hl := M.lt
  have ks := M.sgrs
  rw [hSA] at ks
  have hneg : ¬ (i : Int) < 0 := by omega
  have hge : ¬ (g.sn : Int) ≤ (i : Int) := by omega
  have hlt : (i : Int) < (g.sn : Int) := by omega
  have hs1 := hs.below e1
  have R1 := hR.below e1
  have hcok1 : ∀ c ∈ cs, c.ok w1 := fun c hc => (hcok c hc).below e1
  have hso1 : s.ok w1 := ⟨hsok.issuer.below e1, hsok.serial.below e1, hsok.attrs.below e1, hsok.kind.below e1, hsok.digest.below e1, hsok.sig.below e1⟩
  have hk1 := hkd.below e1
  clear hs hR hcok hsok hkd
  unfold Sgd.val
  refine (callsIn_wide (n := 8)).1 ?_
  refine callsIn_of_wp_marks Tryz.func30 rfl trivial ?_ rfl
  refine wpIn_wide.2 ?_
  simp only [Tryz.ntmps30, List.size_toArray, List.length_cons, List.length_nil, Nat.reduceAdd, Nat.reduceSub, Array.replicate_succ, Array.replicate_zero, List.push_toArray, List.append_toArray, List.nil_append, List.cons_append]
  go_upto_region 1 with fail
  refine wp_world hw1 ?_
  clear hw1
  simp only [Nat.add_assoc, Nat.reduceAdd]
  have M2 : RM w.heap.size g kd ds (w1.alloc (.cells #[.slice none 0 0, .slice none 0 0, .slice none 0 0, .slice none 0 0, .slice none 0 0, .slice none 0 0] 67)) := M.below ((Below.refl w1.heap.size _).alloc (Nat.le_refl _) _) (by omega)
  have C2 : Cut (w1.alloc (.cells #[.slice none 0 0, .slice none 0 0, .slice none 0 0, .slice none 0 0, .slice none 0 0, .slice none 0 0] 67)) (w.heap.size + 5) 0 [.slice none 0 0, .slice none 0 0, .slice none 0 0, .slice none 0 0, .slice none 0 0, .slice none 0 0] := by
    rw [← z1]
    exact Cut.of_heap (heap_alloc_new _ _) fun i v hv => by simpa using hv
  have hs2 := hs1.below ((Below.refl w1.heap.size w1).alloc (Nat.le_refl _) (.cells #[.slice none 0 0, .slice none 0 0, .slice none 0 0, .slice none 0 0, .slice none 0 0, .slice none 0 0] 67))
  have b2 : Below w1.heap.size w1 (w1.alloc (.cells #[.slice none 0 0, .slice none 0 0, .slice none 0 0, .slice none 0 0, .slice none 0 0, .slice none 0 0] 67)) := (Below.refl w1.heap.size w1).alloc (Nat.le_refl _) _
  have z2 : (w1.alloc (.cells #[.slice none 0 0, .slice none 0 0, .slice none 0 0, .slice none 0 0, .slice none 0 0, .slice none 0 0] 67)).heap.size = w.heap.size + 6 := by simp [z1]
  go_upto_region 4 with (first
    | (refine wpList_load_mid rfl 67 (.tmp 27) rfl gs (os + i * 6) rfl s.cells _ (by first | exact hs1.2 | exact hs2.2) Tryz.underlying67 rfl sz_sgr ?_)
    | (refine wpList_store_cut rfl 67 (.tmp 10) (.tmp 28) rfl (w.heap.size + 5) 0 s.cells _ rfl rfl C2 rfl sz_sgr (sgn_one s) ?_; intro w3 hst))
  have b3 : Below w1.heap.size w1 w3 := below_only b2 hst.1 b2.size (by omega)
  have M3 := M.below b3 (by omega)
  have S3 : Row w3 (w.heap.size + 5) 0 s.cells := Row.of_cut hst.2.2.1
  have z3 : w3.heap.size = w.heap.size + 6 := hst.2.1.trans z2
  have R3 := R1.below b3
  have hcok3 : ∀ c ∈ cs, c.ok w3 := fun c hc => (hcok1 c hc).below b3
  have hso3 : s.ok w3 := ⟨hso1.issuer.below b3, hso1.serial.below b3, hso1.attrs.below b3, hso1.kind.below b3, hso1.digest.below b3, hso1.sig.below b3⟩
  have hk3 := hk1.below b3
  have e3 := e1.trans (b3.mono e1.size)
  clear hst M2 C2 hs2 b2 z2 hs1 R1 hcok1 hso1 hk1 b3 e1 z1 M hl ks hneg hge hlt
  have kc := M3.certs
  go_wp2_with (first
    | (refine wpList_load_mid rfl 67 (.tmp 10) rfl (w.heap.size + 5) 0 rfl s.cells _ S3.2 Tryz.underlying67 rfl sz_sgr ?_))
  refine (named_any g.CA cs.length g.cc s w3).mono ?_
  rintro e w' ⟨rfl, hw4⟩
  obtain ⟨w4, hw4', n0, n1, z4, e4⟩ := two_blocks w3 (.cells #[.slice g.CA cs.length g.cc] 31) (.cells s.cells.toArray 67)
  rw [← hw4'] at hw4
  subst hw4
  clear hw4'
  have M4 := M3.below e4 (by omega)
  have S4 := S3.below e4
  have R4 := R3.below e4
  have hcok4 : ∀ c ∈ cs, c.ok w' := fun c hc => (hcok3 c hc).below e4
  have hso4 : s.ok w' := ⟨hso3.issuer.below e4, hso3.serial.below e4, hso3.attrs.below e4, hso3.kind.below e4, hso3.digest.below e4, hso3.sig.below e4⟩
  have hk4 := hk3.below e4
  have N0 : w'.cell? ⟨w3.heap.size, 0, none⟩ = some (.slice g.CA cs.length g.cc) := cell_of_row w' _ 0 _ _ (0, 0) n0
  have N1 : Row w' (w3.heap.size + 1) 0 s.cells := Row.of_heap n1
  have e4 := e3.trans (e4.mono e3.size)
  rw [z3] at z4 N0 N1
  clear M3 S3 R3 hcok3 hso3 hk3 n0 n1 e3 kc
  rw [z3]
  go_wp2_with fail
  have hM4l := M4.lt
  have hz1 : w'.heap.size = w.heap.size + 8 := by omega
  refine (wpIn_wide (n := 8)).1 ?_
  refine wpIn_rangeFunc_ownH rfl (by omega) (gf := 79) (lb := #[.pointer (some ⟨w.heap.size + 6, 0, none⟩), .pointer (some ⟨w.heap.size + 6 + 1, 0, none⟩)]) rfl trivial (enters_of Tryz.func79 (by kernel_rfl) rfl)
    (named1_stops (8 - 1) (by omega) gc oc (w.heap.size + 6) (w.heap.size + 6 + 1) g.cc g.CA cs s hcl w' hA N0 (by omega) R4 N1 (fun c hc => ⟨(hcok4 c hc).issuer, (hcok4 c hc).serial⟩) ⟨hso4.issuer, hso4.serial⟩)
    belowK_t (belowK_b (Nat.le_refl _)) (Below.refl _ _) (fun _ => rfl)
    (fun pre W => pre = [] ∧ Below w'.heap.size w' W) (RgtX w.heap.size w w' s kd.xs ds)
    (OwnFrom.and (ownFrom_pure _ _) (ownFrom_below (Nat.le_refl _) (Nat.le_refl _))) (RgtX.own _ _ _ _ _ _ (by omega) (by omega))
    ⟨rfl, Below.refl _ _⟩
    (fun x a' W => ∃ Bx, w'.heap.size ≤ Bx ∧ Row W Bx 0 x.1.cells ∧ a' = { tmps := #[.agg g.cells.toArray, .int .i64 (i : Int), kd.val, .agg (ints .u8 ds).toArray, .pointer (some ⟨w.heap.size, 0, none⟩), undef, .pointer (some ⟨w.heap.size + 1, 0, none⟩), .pointer (some ⟨w.heap.size + 2, 0, none⟩), .pointer (some ⟨w.heap.size + 3, 0, none⟩), .pointer (some ⟨w.heap.size + 4, 0, none⟩),
      .pointer (some ⟨w.heap.size + 5, 0, none⟩), .pointer (some ⟨Bx, 0, none⟩), undef, undef, .int .i64 (i : Int), .bool false, .bool false, .int .i64 (i : Int), .pointer (some ⟨w.heap.size, 3, none⟩), .slice (some ⟨gs, os, none⟩) g.sn g.sc, .int .i64 (g.sn : Int), .bool false, .bool false, undef, .pointer (some ⟨w.heap.size, 3, none⟩), .slice (some ⟨gs, os, none⟩) g.sn g.sc, .int .i64 (i : Int),
      .pointer (some ⟨gs, os + i * 6, none⟩), .agg s.cells.toArray, .pointer (some ⟨w.heap.size, 2, none⟩), .slice g.CA cs.length g.cc, .agg s.cells.toArray, .func (.func 79) #[] #[.pointer (some ⟨w.heap.size + 6, 0, none⟩), .pointer (some ⟨w.heap.size + 6 + 1, 0, none⟩)], .agg x.1.cells.toArray,
      undef, undef, undef, undef, undef, undef, undef, undef, undef, undef, undef, undef, undef, undef, undef, undef, undef, undef, undef, undef, undef, undef, undef, undef, undef, undef, undef, undef, undef, undef, undef, undef, undef, undef, undef, undef, undef], defers := [] })
    (fun x a' _ X Y row hs hg hr => by obtain ⟨Bx, h1, h2, h3⟩ := hs; exact ⟨Bx, h1, row_own_kept h2 hg (fun r e => (hr r e).2), h3⟩)
    ?assign ?body ?done ?stop
  case assign =>
    rintro l pre x W K ⟨rfl, hB⟩ hK
    have CZ : Cut (W.alloc (.cells Crt.none.cells.toArray 30)) W.heap.size 0 Crt.none.cells := Cut.of_heap (heap_alloc_new _ _) fun i v hv => by simpa using hv
    have hZ : (W.alloc (.cells Crt.none.cells.toArray 30)).heap[W.heap.size]? = some (.cells Crt.none.cells.toArray 30 (0, 0)) := heap_alloc_new _ _
    have bZ : Below W.heap.size W (W.alloc (.cells Crt.none.cells.toArray 30)) := (Below.refl W.heap.size W).alloc (Nat.le_refl _) _
    have zZ := bZ.size
    gi_wp2_with (refine wpListIn_store_cut rfl 30 (.tmp 11) (.tmp 33) rfl W.heap.size 0 x.1.cells _ rfl rfl CZ rfl sz_cert (crt_one x.1) ?_; intro W2 hst)
    have bW := below_only bZ hst.1 zZ (Nat.le_refl _)
    have kW : KeepsFrom w'.heap.size W W2 := ((KeepsOthers.alloc W _).trans (KeepsOthers.of_grownBy (show World.grownBy (W.alloc (.cells Crt.none.cells.toArray 30)) W2 (some W.heap.size) from hst.1) (fun j o e ho => by cases e; rw [hZ] at ho; cases ho; rfl))).from _
    exact hK _ _ kW (bW.mono hB.size) ⟨by simp, hB.trans (bW.mono hB.size)⟩ ⟨W.heap.size, hB.size, Row.of_cut hst.2.2.1, rfl⟩
  case body =>
    rintro l pre x a' W hl ⟨r, hr⟩ ⟨rfl, hB⟩ ⟨Bx, hBx, hX, rfl⟩ hlt
    have MW := M4.below hB (by omega)
    have SW := S4.below hB
    have hcx := (hcok4 x.1 x.2.1).below hB
    have hkx := hkl x.1 x.2.1 x.2.2
    have hsW : s.ok W := ⟨hso4.issuer.below hB, hso4.serial.below hB, hso4.attrs.below hB, hso4.kind.below hB, hso4.digest.below hB, hso4.sig.below hB⟩
    have hkW := hk4.below hB
    have hzW := hB.size
    have s2 : W.cell? ⟨w.heap.size + 5, 2, none⟩ = some (.slice s.attrs.A s.attrs.xs.length s.attrs.c) := SW.cell (i := 2) rfl
    have D0 := MW.dig
    by_cases hat : s.attrs.xs = []
    · have hl0 : s.attrs.xs.length = 0 := by rw [hat]; rfl
      have hyes : Hid (sgYes s kd.xs ds x.1 = verB x.1.key.xs x.1.e ds s.sig.xs) := by
        show _ = _
        unfold sgYes
        rw [if_pos hat]
      rw [hl0] at s2
      have hr1 := Lib.hid (right1_any Bx (w.heap.size + 5) x.1 s ds W hd ld hX SW hcx.key hcx.e hsW.sig hkx)
      gi_wp2_with (first
        | (refine wpListIn_load_whl_if rfl 49 (.tmp 7) rfl (w.heap.size + 2) rfl .u8 _ ds D0 _ Tryz.underlying49 rfl (by rw [hd]; exact size_32u8) ?_))
      refine ⟨trivial, ?_⟩
      refine (CallsIn.inRound l (callsIn_wide.2 hr1.out)).mono ?_
      rintro e W1 ⟨rfl, b1⟩
      clear hr1
      have hyv := hyes.out
      cases hv : verB x.1.key.xs x.1.e ds s.sig.xs with
      | true =>
        rw [hv] at hyv
        have X1 := hX.below b1
        have M1 := MW.below b1 (by omega)
        have KC := M1.cut
        have k4 := M1.is.cell
        have kf := M1.is.frozen
        have hl1 := M1.lt
        gi_wp2_with (first
          | (refine wpListIn_load_mid rfl 30 (.tmp 11) rfl Bx 0 rfl x.1.cells _ X1.2 Tryz.underlying30 rfl sz_cert ?_)
          | (refine wpListIn_store_cut rfl 30 (.tmp 8) (.tmp 44) rfl (w.heap.size + 3) 0 x.1.cells _ rfl rfl KC rfl sz_cert (crt_one _) ?_; intro W2 hst; obtain ⟨kb4, kf4⟩ := cell_other hst.1 (p := ⟨w.heap.size + 4, 0, none⟩) hl1 (by simp) k4 kf))
        exact ret_end hB (by omega) e4 b1 M1 hst kb4 hyv
      | false =>
        rw [hv] at hyv
        have M1 := MW.below b1 (by omega)
        have S1 := SW.below b1
        have s3 : W1.cell? ⟨w.heap.size + 5, 3, none⟩ = some (.slice s.kind.A s.kind.xs.length s.kind.c) := S1.cell (i := 3) rfl
        have s4 : W1.cell? ⟨w.heap.size + 5, 4, none⟩ = some (.slice s.digest.A s.digest.xs.length s.digest.c) := S1.cell (i := 4) rfl
        have s2' : W1.cell? ⟨w.heap.size + 5, 2, none⟩ = some (.slice s.attrs.A 0 s.attrs.c) := by
          have q := S1.cell (i := 2) (v := .slice s.attrs.A s.attrs.xs.length s.attrs.c) rfl
          rw [hl0] at q
          rwa [Nat.zero_add] at q
        have kk := M1.kdc
        unfold Sl.val at kk
        have hsk := hsW.kind.below b1
        have hdg := hsW.digest.below b1
        have hkk := hkW.below b1
        have hkln := hsk.len
        have hdln := hdg.len
        have hD1 : Rd .u8 W1 (some ⟨w.heap.size + 2, 0, none⟩) ds := Rd.of_all M1.dig.blk
        have hE1 : Hid (∀ W, Below W1.heap.size W1 W → Calls Tryz.prog 60 #[.slice s.kind.A s.kind.xs.length s.kind.c, .slice kd.A kd.xs.length kd.c] W (Quiet (.bool (decide (s.kind.xs = kd.xs))) W)) := fun W h => slEq_any s.kind.A kd.A s.kind.xs.length kd.xs.length s.kind.c kd.c s.kind.xs kd.xs W rfl rfl hkln (hsk.rd.below h) (hkk.rd.below h)
        have hE2 : Hid (∀ W, Below W1.heap.size W1 W → Calls Tryz.prog 60 #[.slice s.digest.A s.digest.xs.length s.digest.c, .slice (some ⟨w.heap.size + 2, 0, none⟩) 32 32] W (Quiet (.bool (decide (s.digest.xs = ds))) W)) := fun W h => slEq_any s.digest.A _ s.digest.xs.length 32 s.digest.c 32 s.digest.xs ds W rfl hd.symm hdln (hdg.rd.below h) (hD1.below h)
        generalize decide (s.kind.xs = kd.xs) = v1 at *
        generalize decide (s.digest.xs = ds) = v2 at *
        have hd1 : ∀ q, Below W1.heap.size W1 (W1.drewN q) := fun q => below_drewN (Below.refl _ _) q
        cases v1
        all_goals
          gi_wp2
          refine wpIn_quiet_round (by kernel_rfl) (by kernel_rfl) (by kernel_rfl) (fun ⟨_, _, h⟩ => h) ?_
          repeat (quiet_step (first
            | ((go_at_call 60; with_reducible exact Calls.quiet_of (hE1.out _ (hd1 _))))
            | ((go_at_call 60; with_reducible exact Calls.quiet_of (hE2.out _ (hd1 _))))))
          refine wpQuiet_nil ?_
          intro _ hw'
          obtain ⟨nq, hw''⟩ := hw'
          subst hw''
          replace s2' : (W1.drewN nq).cell? ⟨w.heap.size + 5, 2, none⟩ = some (.slice s.attrs.A 0 s.attrs.c) := s2'
          gi_wp2
          refine ⟨trivial, ?_⟩
          gi_wp2
          refine ⟨fun _ h => (by cases h), ?_⟩
          gi_wp2
          exact break_end hB (below_drewN b1 nq) hyv
    · obtain ⟨m, hm⟩ : ∃ m, m = s.attrs.xs.length := ⟨_, rfl⟩
      have hm0 : 0 < m := by rw [hm]; exact List.length_pos_iff.2 hat
      have hz0 : (0 : Int) < (m : Int) := by omega
      have hz2 : ((m : Int) == 0) = false := by simp; omega
      have hyes : Hid (sgYes s kd.xs ds x.1 = (decide (s.kind.xs = kd.xs) && decide (s.digest.xs = ds) && verB x.1.key.xs x.1.e (digest s.attrs.xs) s.sig.xs)) := by
        show _ = _
        unfold sgYes
        rw [if_neg hat]
      rw [← hm] at s2
      have s3 : W.cell? ⟨w.heap.size + 5, 3, none⟩ = some (.slice s.kind.A s.kind.xs.length s.kind.c) := SW.cell (i := 3) rfl
      have s4 : W.cell? ⟨w.heap.size + 5, 4, none⟩ = some (.slice s.digest.A s.digest.xs.length s.digest.c) := SW.cell (i := 4) rfl
      have kk := MW.kdc
      unfold Sl.val at kk
      have hsk := hsW.kind
      have hdg := hsW.digest
      have hkln := hsk.len
      have hdln := hdg.len
      have hD1 : Rd .u8 W (some ⟨w.heap.size + 2, 0, none⟩) ds := Rd.of_all MW.dig.blk
      have hE1 : Hid (∀ W1, Below W.heap.size W W1 → Calls Tryz.prog 60 #[.slice s.kind.A s.kind.xs.length s.kind.c, .slice kd.A kd.xs.length kd.c] W1 (Quiet (.bool (decide (s.kind.xs = kd.xs))) W1)) := fun W1 h => slEq_any s.kind.A kd.A s.kind.xs.length kd.xs.length s.kind.c kd.c s.kind.xs kd.xs W1 rfl rfl hkln (hsk.rd.below h) (hkW.rd.below h)
      have hE2 : Hid (∀ W1, Below W.heap.size W W1 → Calls Tryz.prog 60 #[.slice s.digest.A s.digest.xs.length s.digest.c, .slice (some ⟨w.heap.size + 2, 0, none⟩) 32 32] W1 (Quiet (.bool (decide (s.digest.xs = ds))) W1)) := fun W1 h => slEq_any s.digest.A _ s.digest.xs.length 32 s.digest.c 32 s.digest.xs ds W1 rfl hd.symm hdln (hdg.rd.below h) (hD1.below h)
      have hSum : Hid (∀ W1, Below W.heap.size W W1 → Calls Tryz.prog 61 #[.slice s.attrs.A m s.attrs.c] W1 (GivesArr .u8 (digest s.attrs.xs) W1)) := fun W1 h => shaSum_any s.attrs.A m s.attrs.c s.attrs.xs W1 hm (by omega) (hsW.attrs.rd.below h) hsW.attrs.lim
      have hr1 : Hid (∀ W1, Below W.heap.size W W1 → Calls Tryz.prog 58 #[.agg (ints .u8 (digest s.attrs.xs)).toArray, .pointer (some ⟨Bx, 0, none⟩), .pointer (some ⟨w.heap.size + 5, 0, none⟩)] W1 (RetW (verB x.1.key.xs x.1.e (digest s.attrs.xs) s.sig.xs) W1)) :=
        fun W1 h => right1_any Bx (w.heap.size + 5) x.1 s (digest s.attrs.xs) W1 (digest_length _) (digest_lim _) (hX.below h) (SW.below h) (hcx.key.below h) hcx.e (hsW.sig.below h) hkx
      have hd1 : ∀ q, Below W.heap.size W (W.drewN q) := fun q => below_drewN (Below.refl _ _) q
      generalize hdg' : digest s.attrs.xs = dg at *
      generalize decide (s.kind.xs = kd.xs) = v1 at *
      generalize decide (s.digest.xs = ds) = v2 at *
      clear hdg' hm hat
      have hno : (v1 && v2) = false ∨ (v1 && v2) = true := by cases (v1 && v2) <;> simp
      rcases hno with hno | hyesv
      · have hyv : sgYes s kd.xs ds x.1 = false := by rw [hyes.out, hno, Bool.false_and]
        gi_wp2
        refine ⟨fun _ h => (by cases h), ?_⟩
        cases v1
        all_goals (try cases v2)
        all_goals (try (exact absurd hno (by decide)))
        all_goals
         gi_wp2
         refine wpIn_quiet_round (by kernel_rfl) (by kernel_rfl) (by kernel_rfl) (fun ⟨_, _, h⟩ => h) ?_
         repeat (quiet_step (first
           | ((go_at_call 60; with_reducible exact Calls.quiet_of (hE1.out _ (hd1 _))))
           | ((go_at_call 60; with_reducible exact Calls.quiet_of (hE2.out _ (hd1 _))))))
         refine wpQuiet_nil ?_
         intro _ hw'
         obtain ⟨nq, hw''⟩ := hw'
         subst hw''
         replace s2 : (W.drewN nq).cell? ⟨w.heap.size + 5, 2, none⟩ = some (.slice s.attrs.A m s.attrs.c) := s2
         gi_wp2
         refine ⟨trivial, ?_⟩
         gi_wp2
         refine ⟨fun _ h => (by cases h), ?_⟩
         gi_wp2
         exact break_end hB (hd1 nq) hyv
      · have hv1 : v1 = true := by cases v1 <;> simp_all
        have hv2 : v2 = true := by cases v2 <;> simp_all
        subst hv1
        subst hv2
        gi_wp2
        refine ⟨fun _ h => (by cases h), ?_⟩
        gi_wp2
        refine wpIn_quiet_round (by kernel_rfl) (by kernel_rfl) (by kernel_rfl) (fun ⟨_, _, h⟩ => h) ?_
        repeat (quiet_step (first
          | ((go_at_call 60; with_reducible exact Calls.quiet_of (hE1.out _ (hd1 _))))
          | ((go_at_call 60; with_reducible exact Calls.quiet_of (hE2.out _ (hd1 _))))))
        refine wpQuiet_nil ?_
        intro _ hw'
        obtain ⟨nq, hw''⟩ := hw'
        subst hw''
        replace s2 : (W.drewN nq).cell? ⟨w.heap.size + 5, 2, none⟩ = some (.slice s.attrs.A m s.attrs.c) := s2
        gi_wp2
        refine ⟨trivial, ?_⟩
        refine (CallsIn.inRound l (callsIn_wide.2 (hSum.out _ (hd1 nq)))).mono ?_
        rintro e W1 ⟨rfl, b1⟩
        have b1 := (hd1 nq).trans b1
        gi_wp2
        refine ⟨trivial, ?_⟩
        refine (CallsIn.inRound l (callsIn_wide.2 (hr1.out _ b1))).mono ?_
        rintro e W2 ⟨rfl, b2⟩
        have b2 := b1.trans (b2.mono b1.size)
        clear hr1 hSum hE1 hE2
        have hyv := hyes.out
        rw [Bool.and_self, Bool.true_and] at hyv
        cases hv : verB x.1.key.xs x.1.e dg s.sig.xs with
        | true =>
          rw [hv] at hyv
          have X1 := hX.below b2
          have M1 := MW.below b2 (by omega)
          have KC := M1.cut
          have k4 := M1.is.cell
          have kf := M1.is.frozen
          have hl1 := M1.lt
          gi_wp2_with (first
            | (refine wpListIn_load_mid rfl 30 (.tmp 11) rfl Bx 0 rfl x.1.cells _ X1.2 Tryz.underlying30 rfl sz_cert ?_)
            | (refine wpListIn_store_cut rfl 30 (.tmp 8) (.tmp 69) rfl (w.heap.size + 3) 0 x.1.cells _ rfl rfl KC rfl sz_cert (crt_one _) ?_; intro W3 hst; obtain ⟨kb4, kf4⟩ := cell_other hst.1 (p := ⟨w.heap.size + 4, 0, none⟩) hl1 (by simp) k4 kf))
          exact ret_end hB (by omega) e4 b2 M1 hst kb4 hyv
        | false =>
          rw [hv] at hyv
          gi_wp2
          exact break_end hB b2 hyv
  case done =>
    rintro D xs W hD hxs ⟨rfl, hB⟩ hK
    have hnone : rightOf cs s kd.xs ds = none := by
      have h1 : cs.filter (fitsB s) = [] := hxs.symm
      unfold rightOf
      rw [List.find?_eq_none.2 (fun c hc => by
        have := List.filter_eq_nil_iff.1 h1 c hc
        exact this)]
      rfl
    rw [hnone]
    have MW := M4.below hB (by omega)
    have KC := MW.cut
    have k4 := MW.is.cell
    have kf := MW.is.frozen
    have hlW := MW.lt
    go_wp2_with (first
      | (refine wpList_build_at rfl 30 #[] rfl Crt.none.cells.toArray built_cert ?_)
      | (refine wpList_store_cut rfl 30 (.tmp 8) (.tmp 70) rfl (w.heap.size + 3) 0 Crt.none.cells _ rfl rfl KC rfl sz_cert (crt_one _) ?_; intro W2 hst; obtain ⟨kb4, kf4⟩ := cell_other hst.1 (p := ⟨w.heap.size + 4, 0, none⟩) hlW (by simp) k4 kf))
    have e3 : Below w.heap.size w W := e4.trans (hB.mono e4.size)
    have e5 : Below w.heap.size w (W2.setCell ⟨w.heap.size + 4, 0, none⟩ (.bool false)) := (below_only e3 hst.1 e3.size (by omega)).setCell (by show w.heap.size ≤ w.heap.size + 4; omega) _
    have CF : Row (W2.setCell ⟨w.heap.size + 4, 0, none⟩ (.bool false)) (w.heap.size + 3) 0 Crt.none.cells := Row.of_cut (hst.2.2.1.keep (by simp) (Below.heap_setCell W2 _ _ _ (by show w.heap.size + 3 ≠ w.heap.size + 4; omega)))
    have hres := MW.res
    have hK3 := ((KeepsOthers.of_grownBy hst.1 (fun j o e ho => by cases e; rw [hres] at ho; cases ho; rfl)).trans (KeepsOthers.setCell W2 ⟨w.heap.size + 4, 0, none⟩ (.bool false))).same D _ hK rfl
    obtain ⟨r1, r2, r3⟩ := fin_end (by omega) hK3 CF (World.cell?_setCell_same W2 _ _ kb4) e5
    refine ⟨by simp, .inl ⟨_, _, rfl, run_takeDeferred hK3, ?_⟩⟩
    exact ⟨_, results_row_cell rfl _ _ (w.heap.size + 3) 0 Crt.none.cells _ ⟨w.heap.size + 4, 0, none⟩ (.bool false) rfl r1.2 Tryz.underlying30 rfl sz_cert rfl (lv_bool _ _ _ r2), by rw [hnone]; exact ⟨rfl, r3⟩⟩
  case stop =>
    rintro D c pre W hD ⟨kk, hpre⟩ ⟨x, rfl, hx⟩ hK
    have hfind : cs.find? (fitsB s) = some x.1 := by
      have h1 : [x.1] = (cs.take kk).filter (fitsB s) := hpre
      have h2 : (cs.take kk).find? (fitsB s) = some x.1 := by rw [← List.head?_filter, ← h1]; rfl
      have e : cs.find? (fitsB s) = (cs.take kk ++ cs.drop kk).find? (fitsB s) := by rw [List.take_append_drop]
      rw [e, List.find?_append, h2]
      rfl
    have hR : rightOf cs s kd.xs ds = if sgYes s kd.xs ds x.1 = true then some x.1 else none := by
      unfold rightOf
      rw [hfind]
      cases h : sgYes s kd.xs ds x.1 <;> simp [Option.filter, h]
    rcases hx with ⟨rfl, hy, r, k, hb⟩ | ⟨rfl, hy, hB⟩
    · rw [hy, if_pos rfl] at hR
      obtain ⟨r1, r2, r3⟩ := fin_end (by omega) hK r k hb
      rw [hR]
      gi_wp2
      refine ⟨by simp, .inl ⟨_, _, rfl, run_takeDeferred hK, ?_⟩⟩
      exact ⟨_, results_row_cell rfl _ _ (w.heap.size + 3) 0 x.1.cells _ ⟨w.heap.size + 4, 0, none⟩ (.bool true) rfl r1.2 Tryz.underlying30 rfl sz_cert rfl (lv_bool _ _ _ r2), ⟨rfl, r3⟩⟩
    · rw [hy, if_neg (by simp)] at hR
      have MW := M4.below hB (by omega)
      have KC := MW.cut
      have k4 := MW.is.cell
      have kf := MW.is.frozen
      have hlW := MW.lt
      gi_wp2
      go_wp2_with (first
        | (refine wpList_build_at rfl 30 #[] rfl Crt.none.cells.toArray built_cert ?_)
        | (refine wpList_store_cut rfl 30 (.tmp 8) (.tmp 70) rfl (w.heap.size + 3) 0 Crt.none.cells _ rfl rfl KC rfl sz_cert (crt_one _) ?_; intro W2 hst; obtain ⟨kb4, kf4⟩ := cell_other hst.1 (p := ⟨w.heap.size + 4, 0, none⟩) hlW (by simp) k4 kf))
      have e3 : Below w.heap.size w W := e4.trans (hB.mono e4.size)
      have e5 : Below w.heap.size w (W2.setCell ⟨w.heap.size + 4, 0, none⟩ (.bool false)) := (below_only e3 hst.1 e3.size (by omega)).setCell (by show w.heap.size ≤ w.heap.size + 4; omega) _
      have CF : Row (W2.setCell ⟨w.heap.size + 4, 0, none⟩ (.bool false)) (w.heap.size + 3) 0 Crt.none.cells := Row.of_cut (hst.2.2.1.keep (by simp) (Below.heap_setCell W2 _ _ _ (by show w.heap.size + 3 ≠ w.heap.size + 4; omega)))
      have hres := MW.res
      have hK3 := ((KeepsOthers.of_grownBy hst.1 (fun j o e ho => by cases e; rw [hres] at ho; cases ho; rfl)).trans (KeepsOthers.setCell W2 ⟨w.heap.size + 4, 0, none⟩ (.bool false))).same D _ hK rfl
      obtain ⟨r1, r2, r3⟩ := fin_end (by omega) hK3 CF (World.cell?_setCell_same W2 _ _ kb4) e5
      refine ⟨by simp, .inl ⟨_, _, rfl, run_takeDeferred hK3, ?_⟩⟩
      exact ⟨_, results_row_cell rfl _ _ (w.heap.size + 3) 0 Crt.none.cells _ ⟨w.heap.size + 4, 0, none⟩ (.bool false) rfl r1.2 Tryz.underlying30 rfl sz_cert rfl (lv_bool _ _ _ r2), by rw [hR]; exact ⟨rfl, r3⟩⟩
end Go.Proofs.YtchaahnhpeoomaaGreat
namespace Go.Proofs.YtchaahnhpeoomaaGreat
set_option linter.unusedVariables false
set_option linter.unusedSimpArgs false
set_option maxRecDepth 20000
open Go.RowKit
theorem ladder_serial : ∀ (l : List Rung) (ks : List Nat) (ke : Nat), ∀ x ∈ ladderB l ks ke, ∃ r ∈ l, x.serial = [1, r.serial]
  | [], _, _, x, h => by simp [ladderB] at h
  | [r], ks, ke, x, h => by
    simp only [ladderB, List.mem_singleton] at h
    subst h
    exact ⟨r, by simp, rfl⟩
  | r :: a :: l, ks, ke, x, h => by
    rw [ladderB, List.mem_cons] at h
    rcases h with rfl | h
    · exact ⟨r, by simp, rfl⟩
    · obtain ⟨q, hq, e⟩ := ladder_serial (a :: l) _ _ x h
      exact ⟨q, List.mem_cons_of_mem _ hq, e⟩
theorem ladder_length : ∀ (l : List Rung) (ks : List Nat) (ke : Nat), (ladderB l ks ke).length = l.length
  | [], _, _ => rfl
  | [r], _, _ => rfl
  | r :: a :: l, ks, ke => by rw [ladderB, List.length_cons, ladder_length (a :: l)]; rfl
theorem rungsO_serial (n : Nat) : ∀ r ∈ rungsO n, r.serial = 0 := fun r hr => by
  simp only [rungsO, List.mem_map, List.mem_range] at hr
  obtain ⟨i, hi, rfl⟩ := hr
  rfl
theorem own_head (ks : List Nat) : ∃ A B, ladderB [rungS, rungR] ks 3 = [A, B] ∧ A.serial = [1, 7] ∧ A.issuer = nameB rungR.name ∧ A.key = ks ∧ A.e = 3 ∧ B.serial = [1, 0] :=
  ⟨_, _, rfl, rfl, rfl, rfl, rfl, rfl⟩
theorem made_find {cs : List Crt} {s : Sgn} {c : Crt} {n : Nat} {sum : List Nat} (hsay : cs.map Crt.say = ladderB (rungsO n) [1] 3 ++ ladderB [rungS, rungR] (forKey sum) 3) (hc : cs[n]? = some c) (hi : s.issuer = c.issuer) (hs : s.serial = c.serial) :
    cs.find? (fitsB s) = some c ∧ c.key.xs = forKey sum ∧ c.e = 3 ∧ c.serial.xs = [1, 7] ∧ c.issuer.xs = nameB rungR.name := by
  obtain ⟨A, B, hAB, a1, a2, a3, a4, a5⟩ := own_head (forKey sum)
  have hln : (ladderB (rungsO n) [1] 3).length = n := by rw [ladder_length, rungsO_len]
  have hA : c.say = A := by
    have h1 : (cs.map Crt.say)[n]? = some c.say := by rw [List.getElem?_map, hc]; rfl
    rw [hsay, List.getElem?_append_right (by omega), hln, Nat.sub_self, hAB] at h1
    exact (Option.some.inj h1).symm
  have k1 : c.serial.xs = [1, 7] := by rw [← a1, ← hA]; rfl
  have k2 : c.issuer.xs = nameB rungR.name := by rw [← a2, ← hA]; rfl
  have k3 : c.key.xs = forKey sum := by rw [← a3, ← hA]; rfl
  have k4 : c.e = 3 := by rw [← a4, ← hA]; rfl
  refine ⟨?_, k3, k4, k1, k2⟩
  have hfit : fitsB s c = true := by simp [fitsB, hi, hs]
  have e : cs = cs.take n ++ c :: cs.drop (n + 1) := by rw [← drop_at hc, List.take_append_drop]
  have hno : (cs.take n).find? (fitsB s) = none := by
    refine List.find?_eq_none.2 fun d hd => ?_
    obtain ⟨j, hj⟩ := List.mem_iff_getElem?.1 hd
    have hjn : j < n := by
      have := (List.getElem?_eq_some_iff.1 hj).1
      simp at this
      omega
    rw [List.getElem?_take, if_pos hjn] at hj
    have h1 : (cs.map Crt.say)[j]? = some d.say := by rw [List.getElem?_map, hj]; rfl
    rw [hsay, List.getElem?_append_left (by omega)] at h1
    obtain ⟨r, hr, hser⟩ := ladder_serial _ _ _ _ (List.mem_of_getElem? h1)
    rw [rungsO_serial n r hr] at hser
    have hser : d.serial.xs = [1, 0] := hser
    simp [fitsB, hs, hser, k1]
  rw [e, List.find?_append, hno]
  simp [hfit]
theorem attrsB_ne (k d : List Nat) : attrsB k d ≠ [] := by
  intro h
  have := wr_pos 49 (sets2 (seqB [wr 6 kindOidB, wr 49 (wr 6 k)]) (seqB [wr 6 digOidB, wr 49 (wr 4 d)]))
  unfold attrsB at h
  rw [h] at this
  simp at this
theorem made_right {cs : List Crt} {s : Sgn} {c : Crt} {n : Nat} {sum ds kb : List Nat} {at_ : Bool} (hsay : cs.map Crt.say = ladderB (rungsO n) [1] 3 ++ ladderB [rungS, rungR] (forKey sum) 3) (hc : cs[n]? = some c) (hi : s.issuer = c.issuer) (hs : s.serial = c.serial)
    (h1 : s.attrs.xs = (if at_ then attrsB kb ds else [])) (h2 : s.kind.xs = (if at_ then kb else [])) (h3 : s.digest.xs = (if at_ then ds else [])) (h4 : s.sig.xs = forSig sum) (h5 : sum = (if at_ then digest (attrsB kb ds) else ds)) (h6 : sum.length = 32) (h7 : Lim 256 sum) (kind ds' : List Nat) :
    rightOf cs s kind ds' = if (decide (ds = ds') && (!at_ || decide (kb = kind))) = true then some c else none := by
  obtain ⟨hf, hk, he, -, -⟩ := made_find hsay hc hi hs
  have hy : sgYes s kind ds' c = (decide (ds = ds') && (!at_ || decide (kb = kind))) := by
    unfold sgYes
    rw [h1, h2, h3, h4, hk, he]
    cases at_ with
    | false =>
      simp only [Bool.false_eq_true, if_false] at h5 ⊢
      rw [if_pos trivial, ver_for h6 h7, h5]
      simp
    | true =>
      simp only [if_true] at h5 ⊢
      rw [if_neg (attrsB_ne kb ds), ← h5, ver_for h6 h7]
      simp [Bool.and_comm]
  unfold rightOf
  rw [hf]
  cases h : (decide (ds = ds') && (!at_ || decide (kb = kind))) <;> simp [Option.filter, hy, h]
theorem ladder_key : ∀ (l : List Rung) (ks : List Nat) (ke : Nat), ks.length ≤ 256 → ∀ x ∈ ladderB l ks ke, x.key.length ≤ 256
  | [], _, _, _, x, h => by simp [ladderB] at h
  | [r], ks, ke, hk, x, h => by
    simp only [ladderB, List.mem_singleton] at h
    subst h
    exact hk
  | r :: a :: l, ks, ke, hk, x, h => by
    rw [ladderB, List.mem_cons] at h
    rcases h with rfl | h
    · exact hk
    · exact ladder_key (a :: l) _ _ (by rw [forKey_len]; omega) x h
structure SMem (G : Sgd) (cs : List Crt) (ss : List Sgn) (gc oc gs os : Nat) (W : World) : Prop where
  kind : G.kind.ok W
  content : G.content.ok W
  cn : G.cn = cs.length
  cl : cs.length ≤ 1000000
  cA : cs = [] ∨ G.CA = some ⟨gc, oc, none⟩
  cR : Row W gc oc (crtCells cs)
  cok : ∀ c ∈ cs, c.ok W
  ck : ∀ c ∈ cs, c.key.xs.length ≤ 70000
  sn : G.sn = ss.length
  sl : ss.length ≤ 1000000
  sA : ss = [] ∨ G.SA = some ⟨gs, os, none⟩
  sR : ∀ i s, ss[i]? = some s → Row W gs (os + i * 6) s.cells
  sok : ∀ s ∈ ss, s.ok W
  sa : ∀ s ∈ ss, s.attrs.xs.length ≤ 1099511627776
theorem Sgn.ok.below {w w' : World} {s : Sgn} (h : s.ok w) (hb : Below w.heap.size w w') : s.ok w' := ⟨h.issuer.below hb, h.serial.below hb, h.attrs.below hb, h.kind.below hb, h.digest.below hb, h.sig.below hb⟩
theorem SMem.below {G : Sgd} {cs : List Crt} {ss : List Sgn} {gc oc gs os : Nat} {w w' : World} (h : SMem G cs ss gc oc gs os w) (hb : Below w.heap.size w w') : SMem G cs ss gc oc gs os w' :=
  ⟨h.kind.below hb, h.content.below hb, h.cn, h.cl, h.cA, h.cR.below hb, fun c hc => (h.cok c hc).below hb, h.ck, h.sn, h.sl, h.sA, fun i s hi => (h.sR i s hi).below hb, fun s hs => (h.sok s hs).below hb, h.sa⟩
def rightAt (cs : List Crt) (ss : List Sgn) (k : Int) (kind ds : List Nat) : Option Crt := if k < 0 then none else (ss[k.toNat]?).bind fun s => rightOf cs s kind ds
structure SMemB (G : Sgd) (cs : List Crt) (ss : List Sgn) (gc oc gs os : Nat) (W : World) : Prop where
  kind : G.kind.ok W
  content : G.content.ok W
  cn : G.cn = cs.length
  cl : cs.length ≤ 1000000
  cA : cs = [] ∨ G.CA = some ⟨gc, oc, none⟩
  cR : Row W gc oc (crtCells cs)
  cok : ∀ c ∈ cs, c.ok W
  sn : G.sn = ss.length
  sl : ss.length ≤ 1000000
  sA : ss = [] ∨ G.SA = some ⟨gs, os, none⟩
  sR : ∀ i s, ss[i]? = some s → Row W gs (os + i * 6) s.cells
  sok : ∀ s ∈ ss, s.ok W
theorem SMemB.below {G : Sgd} {cs : List Crt} {ss : List Sgn} {gc oc gs os : Nat} {w w' : World} (h : SMemB G cs ss gc oc gs os w) (hb : Below w.heap.size w w') : SMemB G cs ss gc oc gs os w' :=
  ⟨h.kind.below hb, h.content.below hb, h.cn, h.cl, h.cA, h.cR.below hb, fun c hc => (h.cok c hc).below hb, h.sn, h.sl, h.sA, fun i s hi => (h.sR i s hi).below hb, fun s hs => (h.sok s hs).below hb⟩
theorem SMem.bare {G : Sgd} {cs : List Crt} {ss : List Sgn} {gc oc gs os : Nat} {w : World} (h : SMem G cs ss gc oc gs os w) : SMemB G cs ss gc oc gs os w := ⟨h.kind, h.content, h.cn, h.cl, h.cA, h.cR, h.cok, h.sn, h.sl, h.sA, h.sR, h.sok⟩
theorem right_memB {G : Sgd} {cs : List Crt} {ss : List Sgn} {gc oc gs os : Nat} {w : World} (h : SMemB G cs ss gc oc gs os w) (k : Int) (hk : -9223372036854775808 ≤ k ∧ k < 9223372036854775808) (hb : ∀ (i : Nat) (s : Sgn), ss[i]? = some s → k = (i : Int) → s.attrs.xs.length ≤ 1099511627776 ∧ ∀ c ∈ cs, fitsB s c = true → c.key.xs.length ≤ 70000)
    (kd : Sl) (hkd : kd.ok w) (ds : List Nat) (hd : ds.length = 32) (ld : Lim 256 ds) :
    Calls Tryz.prog 30 #[G.val, .int .i64 k, kd.val, .agg (ints .u8 ds).toArray] w (RightPost (rightAt cs ss k kd.xs ds) w) := by
  have hsl := h.sl
  have hsn := h.sn
  by_cases hout : k < 0 ∨ (G.sn : Int) ≤ k
  · have e : rightAt cs ss k kd.xs ds = none := by
      unfold rightAt
      split
      · rfl
      · rw [List.getElem?_eq_none (by omega)]
        rfl
    rw [e]
    exact right_out G k kd ds w hd hout hk (by omega)
  · obtain ⟨i, rfl⟩ : ∃ i : Nat, k = (i : Int) := ⟨k.toNat, by omega⟩
    have hi : i < ss.length := by omega
    obtain ⟨s, hs⟩ := get_of_ltS hi
    have e : rightAt cs ss (i : Int) kd.xs ds = rightOf cs s kd.xs ds := by
      unfold rightAt
      rw [if_neg (by omega), Int.toNat_natCast, hs]
      rfl
    rw [e]
    exact sRight_any G i gc oc gs os cs s kd ds w hd ld h.cn h.cl h.cA h.cR h.cok (hb i s hs rfl).2 (h.sA.resolve_left (by rintro rfl; simp at hi)) (by omega) (by omega) (h.sR i s hs) (h.sok s (List.mem_of_getElem? hs)) (hb i s hs rfl).1 hkd
theorem right_mem {G : Sgd} {cs : List Crt} {ss : List Sgn} {gc oc gs os : Nat} {w : World} (h : SMem G cs ss gc oc gs os w) (k : Int) (hk : -9223372036854775808 ≤ k ∧ k < 9223372036854775808) (kd : Sl) (hkd : kd.ok w) (ds : List Nat) (hd : ds.length = 32) (ld : Lim 256 ds) :
    Calls Tryz.prog 30 #[G.val, .int .i64 k, kd.val, .agg (ints .u8 ds).toArray] w (RightPost (rightAt cs ss k kd.xs ds) w) :=
  right_memB h.bare k hk (fun i s hs _ => ⟨h.sa s (List.mem_of_getElem? hs), fun c hc _ => h.ck c hc⟩) kd hkd ds hd ld
end Go.Proofs.YtchaahnhpeoomaaGreat
namespace Go.Proofs.YtchaahnhpeoomaaGreat
set_option linter.unusedVariables false
set_option linter.unusedSimpArgs false
set_option maxRecDepth 20000
open Go.RowKit
theorem attrsB_le {k d : List Nat} (hk : k.length ≤ 1000) (hd : d.length ≤ 32) : (attrsB k d).length ≤ 100000 := by
  unfold attrsB seqB
  have a1 := wr_len (tag := 6) (b := k) (by omega)
  have a2 := wr_len (tag := 49) (b := wr 6 k) (by omega)
  have a3 := wr_len (tag := 4) (b := d) (by omega)
  have a4 := wr_len (tag := 49) (b := wr 4 d) (by omega)
  have a5 : (wr 6 kindOidB).length ≤ 100 := by decide
  have a6 : (wr 6 digOidB).length ≤ 100 := by decide
  have a7 : [wr 6 kindOidB, wr 49 (wr 6 k)].flatten.length = (wr 6 kindOidB).length + (wr 49 (wr 6 k)).length := by simp
  have a8 : [wr 6 digOidB, wr 49 (wr 4 d)].flatten.length = (wr 6 digOidB).length + (wr 49 (wr 4 d)).length := by simp
  generalize [wr 6 kindOidB, wr 49 (wr 6 k)].flatten = X at *
  generalize [wr 6 digOidB, wr 49 (wr 4 d)].flatten = Y at *
  have b1 := wr_len (tag := 48) (b := X) (by omega)
  have b2 := wr_len (tag := 48) (b := Y) (by omega)
  have b3 := sets2_len (wr 48 X) (wr 48 Y)
  have b4 := wr_len (tag := 49) (b := sets2 (wr 48 X) (wr 48 Y)) (by omega)
  omega
structure MadeD (ds kb : List Nat) (at_ : Bool) (n : Nat) (cs : List Crt) (s : Sgn) (c : Crt) (sum : List Nat) : Prop where
  spot : cs[n]? = some c
  find : cs.find? (fitsB s) = some c
  key : c.key.xs = forKey sum
  ke : c.e = 3
  ser : c.serial.xs = [1, 7]
  iss : c.issuer.xs = nameB rungR.name
  hi : s.issuer = c.issuer
  hs : s.serial = c.serial
  sat : s.attrs.xs = (if at_ then attrsB kb ds else [])
  skd : s.kind.xs = (if at_ then kb else [])
  sdg : s.digest.xs = (if at_ then ds else [])
  ssg : s.sig.xs = forSig sum
  sumq : sum = (if at_ then digest (attrsB kb ds) else ds)
  sl : sum.length = 32
  sm : Lim 256 sum
  len : cs.length = n + 2
  say : cs.map Crt.say = ladderB (rungsO n) [1] 3 ++ ladderB [rungS, rungR] (forKey sum) 3
  right : ∀ kind ds', rightOf cs s kind ds' = if (decide (ds = ds') && (!at_ || decide (kb = kind))) = true then some c else none
theorem made_mem {ds kb : List Nat} {at_ : Bool} {oth : Nat} {w w' : World} {e : Ending} (h : SMadePost ds kb at_ oth w e w') (hkb : kb.length ≤ 1000) (hds : ds.length = 32) :
    ∃ (G : Sgd) (cs : List Crt) (s : Sgn) (c : Crt) (sum : List Nat) (gA gz : Nat), e = .returned G.val ∧ SMem G cs [s] gA 0 gz 0 w' ∧ G.kind.xs = kb ∧ G.content.xs = wr 4 ds ∧ MadeD ds kb at_ (oth % 3) cs s c sum ∧ Below w.heap.size w w' := by
  obtain ⟨sk, sc, gA, cA, gz, cs, s, sum, rfl, hsk, hsc, hk, hcx, hcl, hcA, hRc, hco, hsay, hlen, hRs, hso, ⟨c, hc, hi, hser⟩, ha, hkd, hdg, hsg, hsum, hsl, hslim, e3⟩ := h
  obtain ⟨f1, f2, f3, f4, f5⟩ := made_find hsay hc hi hser
  refine ⟨⟨sk, sc, some ⟨gA, 0, none⟩, cs.length, cA, some ⟨gz, 0, none⟩, 1, 1⟩, cs, s, c, sum, gA, gz, rfl, ?_, hk, hcx, ?_, e3⟩
  · refine ⟨hsk, hsc, rfl, by omega, .inr rfl, hRc, hco, fun c hc => ?_, rfl, by simp, .inr rfl, fun i s' hi => ?_, fun s' hs => by rw [List.mem_singleton.1 hs]; exact hso, fun s' hs => ?_⟩
    · have h1 : c.say ∈ cs.map Crt.say := List.mem_map.2 ⟨c, hc, rfl⟩
      rw [hsay, List.mem_append] at h1
      have : c.say.key.length ≤ 256 := by
        rcases h1 with h1 | h1
        · exact ladder_key _ _ _ (by simp) _ h1
        · exact ladder_key _ _ _ (by rw [forKey_len]; omega) _ h1
      have h2 : c.key.xs.length ≤ 256 := this
      omega
    · rcases i with _ | i
      · have e1 : s = s' := by simpa using hi
        rw [← e1]
        simpa using hRs
      · simp at hi
    · rw [List.mem_singleton.1 hs, ha]
      cases at_
      · simp
      · have := attrsB_le hkb (show ds.length ≤ 32 by omega)
        simp only [if_true]
        omega
  · exact ⟨hc, f1, f2, f3, f4, f5, hi, hser, ha, hkd, hdg, hsg, hsum, hsl, hslim, hlen, hsay, made_right hsay hc hi hser ha hkd hdg hsg hsum hsl hslim⟩
end Go.Proofs.YtchaahnhpeoomaaGreat
namespace Go.Proofs.YtchaahnhpeoomaaGreat
set_option linter.unusedVariables false
set_option linter.unusedSimpArgs false
set_option maxRecDepth 20000
open Go.RowKit
def flatB (c d : Crt) : Bool := decide (c.frm = d.frm) && (decide (c.til = d.til) && (decide (c.e = d.e) && (decide (c.ca = d.ca) && (decide (c.path = d.path) && (decide (c.usage = d.usage) && decide (c.code = d.code))))))
theorem say_eq (c d : Crt) : decide (c.say = d.say) = (decide (c.slices.map Sl.xs = d.slices.map Sl.xs) && flatB c d) := by
  unfold flatB Crt.say Crt.slices
  simp only [List.map_cons, List.map_nil, List.cons.injEq, and_true, Say.mk.injEq]
  rw [← Bool.decide_and, ← Bool.decide_and, ← Bool.decide_and, ← Bool.decide_and, ← Bool.decide_and, ← Bool.decide_and, ← Bool.decide_and]
  refine decide_eq_decide.2 ⟨fun h => ?_, fun h => ?_⟩
  · obtain ⟨h1, h2, h3, h4, h5, h6, h7, h8, h9, h10, h11, h12, h13, h14⟩ := h
    exact ⟨⟨h1, h2, h3, h4, h5, h8, h10⟩, h6, h7, h9, h11, h12, h13, h14⟩
  · obtain ⟨⟨h1, h2, h3, h4, h5, h8, h10⟩, h6, h7, h9, h11, h12, h13, h14⟩ := h
    exact ⟨h1, h2, h3, h4, h5, h6, h7, h8, h9, h10, h11, h12, h13, h14⟩
theorem Crt.ok.slices {w : World} {c : Crt} (h : c.ok w) : ∀ s ∈ c.slices, s.ok w := fun s hs => by
  simp only [Crt.slices, List.mem_cons, List.not_mem_nil, or_false] at hs
  rcases hs with rfl | rfl | rfl | rfl | rfl | rfl | rfl
  all_goals first | exact h.raw | exact h.tbs | exact h.issuer | exact h.subject | exact h.serial | exact h.key | exact h.sig
section
variable {w : World} {ops : Array Oper} {rest : List Oper} {o : Oper} {a : Act} {Q : Exit → Act → World → Prop}
theorem wpList_build_sls (hgd : o.guard = none) (opds : List Operand) (l : List Sl) (len : Nat) (parts : Array (Nat × Operand)) (ho : o.op = .buildSlice 32 len parts) (hparts : parts = ((opds.zipIdx 0).map fun x => (x.2, x.1)).toArray) (hx : opds.map a.eval = l.map Sl.val) (hlen : len = l.length) (hpos : 0 < len) (hsm : len ≤ 1000)
    (h : wpList Tryz.prog ops Q rest (a.put o.dst (.slice (some ⟨w.heap.size, 0, none⟩) len len)) (w.alloc (.cells (l.map Sl.val).toArray 22))) : wpList Tryz.prog ops Q (o :: rest) a w := by
  obtain ⟨ie, hie, hs1⟩ := Option.map_eq_some_iff.1 siz_u8s
  obtain ⟨z, hzz⟩ := Option.isSome_iff_exists.1 zer_u8s
  rw [hie, Option.bind_some] at hzz
  subst hparts
  refine wpList_buildSlice hgd 32 22 len _ ho (l.map Sl.val).toArray ie z Tryz.underlying32 hie hzz (by rw [hs1]; omega) (by rw [hs1]; omega) ?_ h
  rw [hs1, ← Great.fill_flat (l.map Sl.val) ((Array.range (len * 1)).map (z.cells[· % z.cells.size]!)) (fun v hv => by
      obtain ⟨s, _, rfl⟩ := List.mem_map.1 hv
      rfl) (by simp [hlen]), ← hx]
  simp [List.zipIdx_map, List.map_map, Function.comp_def]
end
theorem wpList_load_mid_if {P : Program} {ops : Array Oper} {rest : List Oper} {op : Oper} {a : Act} {w : World} {Q : Exit → Act → World → Prop} (hgd : Region.wanted op (yielded ops a.tmps) = true) (ty : TypeId) (x : Operand) (ho : op.op = .load ty x)
    (g off : Nat) (hx : a.eval x = .pointer (some ⟨g, off, none⟩)) (cs : List Value) (d : TypeDesc) (hc : w.rangeAt g off cs)
    (hu : P.underlying ty = some d) (hd : d.isRow = true) (hi : (P.info? ty).map (·.size) = some cs.length)
    (h : wpList P ops Q rest (a.put op.dst (.agg cs.toArray)) w) : wpList P ops Q (op :: rest) a w :=
  wpList_step fun K hK => by
    rw [if_pos hgd]
    exact wp_load_mid ty x ho g off hx cs d hc hu hd hi (hK _ _ h)
theorem wpList_load_if {P : Program} {ops : Array Oper} {rest : List Oper} {op : Oper} {a : Act} {w : World} {Q : Exit → Act → World → Prop} (ty : TypeId) (x : Operand) (ho : op.op = .load ty x)
    (g off : Nat) (cs : List Value) (d : TypeDesc) (hc : w.rangeAt g off cs)
    (hu : P.underlying ty = some d) (hd : d.isRow = true) (hi : (P.info? ty).map (·.size) = some cs.length) (hx : a.eval x = .pointer (some ⟨g, off, none⟩)) (hgd : Region.wanted op (yielded ops a.tmps) = true)
    (h : wpList P ops Q rest (a.put op.dst (.agg cs.toArray)) w) : wpList P ops Q (op :: rest) a w :=
  wpList_load_mid_if hgd ty x ho g off hx cs d hc hu hd hi h
theorem sz_tm (t : Tm) : (Tryz.prog.info? 25).map (·.size) = some t.cells.length := sz_time
theorem tm_guard (x y : Operand) (xs ys : Array Value) (w : World) : (eqGuard .eql 25 x y (.agg xs) (.agg ys)).run Tryz.prog w = .ok () w := run_eqGuard_agg w .eql _ x y xs ys (by kernel_rfl)
theorem wpList_eql_tm {ops : Array Oper} {rest : List Oper} {op : Oper} {a : Act} {w : World} {Q : Exit → Act → World → Prop} (x y : Operand) (ho : op.op = .binOp .eql 25 x y 25) (xs ys : Array Value) (b : Bool)
    (E : ∀ W, (binOp .eql 25 (.agg xs) (.agg ys)).run Tryz.prog W = .ok (.bool b) W) (hx : a.eval x = .agg xs) (hy : a.eval y = .agg ys) (hgd : Region.wanted op (yielded ops a.tmps) = true)
    (h : wpList Tryz.prog ops Q rest (a.put op.dst (.bool b)) w) : wpList Tryz.prog ops Q (op :: rest) a w :=
  wpList_step fun K hK => by
    rw [if_pos hgd]
    unfold Oper.wp execOp
    simp only [ho, hx, hy, Sem.run_bind, tm_guard, Result.andThen_ok, E, Sem.run_pure]
    exact hK _ _ h
theorem Row.mid {w : World} {g o n : Nat} {vs us : List Value} (h : Row w g o vs) (he : ∀ i v, us[i]? = some v → vs[n + i]? = some v) : w.rangeAt g (o + n) us := fun i v hv => by
  have := h.2 (n + i) v (he i v hv)
  rwa [← Nat.add_assoc] at this
theorem crt_frm {w : World} {g : Nat} {c : Crt} (h : Row w g 0 c.cells) : w.rangeAt g 5 c.frm.cells := by
  have := h.mid (n := 5) (us := c.frm.cells) (fun i v hv => by
    have hi : i < 6 := (List.getElem?_eq_some_iff.1 hv).1
    rcases i with _ | _ | _ | _ | _ | _ | i
    all_goals first | exact hv | omega)
  rwa [Nat.zero_add] at this
theorem crt_til {w : World} {g : Nat} {c : Crt} (h : Row w g 0 c.cells) : w.rangeAt g 11 c.til.cells := by
  have := h.mid (n := 11) (us := c.til.cells) (fun i v hv => by
    have hi : i < 6 := (List.getElem?_eq_some_iff.1 hv).1
    rcases i with _ | _ | _ | _ | _ | _ | i
    all_goals first | exact hv | omega)
  rwa [Nat.zero_add] at this
set_option maxRecDepth 100000 in
set_option maxHeartbeats 25600000 in
theorem sameC_any (c d : Crt) (w : World) (hc : c.ok w) (hd : d.ok w) : Calls Tryz.prog 34 #[c.val, d.val] w (RetW (decide (c.say = d.say)) w) := by
  obtain ⟨w1, hw1, q0, q1, z1, e1⟩ := two_blocks w (.cells c.cells.toArray 30) (.cells d.cells.toArray 30)
  have R0 : Row w1 w.heap.size 0 c.cells := Row.of_heap q0
  have R1 : Row w1 (w.heap.size + 1) 0 d.cells := Row.of_heap q1
  clear q0 q1
  have c0 : w1.cell? ⟨w.heap.size, 0, none⟩ = some c.raw.val := R0.cell (i := 0) rfl
  have c1 : w1.cell? ⟨w.heap.size, 1, none⟩ = some c.tbs.val := R0.cell (i := 1) rfl
  have c2 : w1.cell? ⟨w.heap.size, 2, none⟩ = some c.issuer.val := R0.cell (i := 2) rfl
  have c3 : w1.cell? ⟨w.heap.size, 3, none⟩ = some c.subject.val := R0.cell (i := 3) rfl
  have c4 : w1.cell? ⟨w.heap.size, 4, none⟩ = some c.serial.val := R0.cell (i := 4) rfl
  have c17 : w1.cell? ⟨w.heap.size, 17, none⟩ = some c.key.val := R0.cell (i := 17) rfl
  have c19 : w1.cell? ⟨w.heap.size, 19, none⟩ = some c.sig.val := R0.cell (i := 19) rfl
  unfold Crt.val
  go_enter Tryz.func34, Tryz.ntmps34
  go_upto_region 1 with fail
  rw [← hw1]
  clear hw1
  go_upto_region 2 with (refine wpList_build_sls rfl [.tmp 9, .tmp 11, .tmp 13, .tmp 15, .tmp 17, .tmp 20, .tmp 22] c.slices 7 _ rfl rfl rfl rfl (by decide) (by decide) ?_)
  have S1 : Sls (w1.alloc (.cells (c.slices.map Sl.val).toArray 22)) (some ⟨w1.heap.size, 0, none⟩) c.slices := sls_lit _ rfl fun s hs => (hc.slices s hs).rd.below e1
  have f1 : Below w1.heap.size w1 (w1.alloc (.cells (c.slices.map Sl.val).toArray 22)) := (Below.refl _ _).alloc (Nat.le_refl _) _
  replace e1 := e1.trans (f1.mono e1.size)
  replace R0 := R0.below f1
  replace R1 := R1.below f1
  clear c0 c1 c2 c3 c4 c17 c19
  rw [z1] at S1
  generalize w1.alloc (.cells (c.slices.map Sl.val).toArray 22) = w2 at *
  have c0 : w2.cell? ⟨w.heap.size + 1, 0, none⟩ = some d.raw.val := R1.cell (i := 0) rfl
  have c1 : w2.cell? ⟨w.heap.size + 1, 1, none⟩ = some d.tbs.val := R1.cell (i := 1) rfl
  have c2 : w2.cell? ⟨w.heap.size + 1, 2, none⟩ = some d.issuer.val := R1.cell (i := 2) rfl
  have c3 : w2.cell? ⟨w.heap.size + 1, 3, none⟩ = some d.subject.val := R1.cell (i := 3) rfl
  have c4 : w2.cell? ⟨w.heap.size + 1, 4, none⟩ = some d.serial.val := R1.cell (i := 4) rfl
  have c17 : w2.cell? ⟨w.heap.size + 1, 17, none⟩ = some d.key.val := R1.cell (i := 17) rfl
  have c19 : w2.cell? ⟨w.heap.size + 1, 19, none⟩ = some d.sig.val := R1.cell (i := 19) rfl
  go_upto_region 3 with (refine wpList_build_sls rfl [.tmp 25, .tmp 27, .tmp 29, .tmp 31, .tmp 33, .tmp 36, .tmp 38] d.slices 7 _ rfl rfl rfl rfl (by decide) (by decide) ?_)
  have S2 : Sls (w2.alloc (.cells (d.slices.map Sl.val).toArray 22)) (some ⟨w2.heap.size, 0, none⟩) d.slices := sls_lit _ rfl fun s hs => (hd.slices s hs).rd.below e1
  have f2 : Below w2.heap.size w2 (w2.alloc (.cells (d.slices.map Sl.val).toArray 22)) := (Below.refl _ _).alloc (Nat.le_refl _) _
  replace e1 := e1.trans (f2.mono e1.size)
  replace R0 := R0.below f2
  replace R1 := R1.below f2
  replace S1 := S1.below f2
  clear c0 c1 c2 c3 c4 c17 c19 f2 f1
  generalize w2.alloc (.cells (d.slices.map Sl.val).toArray 22) = w3 at *
  generalize w2.heap.size = g2 at *
  have l1 : c.slices.length = 7 := rfl
  have l2 : d.slices.length = 7 := rfl
  have hsay := Lib.hid (say_eq c d)
  have ks1 : ∀ (i : Nat) (s : Sl), c.slices[i]? = some s → s.ok w := fun i s h => hc.slices s (List.mem_of_getElem? h)
  have ks2 : ∀ (i : Nat) (s : Sl), d.slices[i]? = some s → s.ok w := fun i s h => hd.slices s (List.mem_of_getElem? h)
  obtain ⟨L1, hL1⟩ : ∃ L, L = c.slices := ⟨_, rfl⟩
  obtain ⟨L2, hL2⟩ : ∃ L, L = d.slices := ⟨_, rfl⟩
  rw [← hL1, ← hL2] at hsay
  rw [← hL1] at S1 l1 ks1
  rw [← hL2] at S2 l2 ks2
  clear hL1 hL2
  have Y : ∀ q, Row (w3.drewN q) w.heap.size 0 c.cells ∧ Row (w3.drewN q) (w.heap.size + 1) 0 d.cells := fun q => ⟨R0, R1⟩
  have eY : ∀ q, Below w.heap.size w (w3.drewN q) := fun q => below_drewN e1 q
  go_wp2_with fail
  go_loopw [7] (fun t wr => ∃ i q : Nat, t = .int .i64 (i : Int) ∧ i ≤ 7 ∧ Hid ((L1.map Sl.xs).take i = (L2.map Sl.xs).take i) ∧ wr = w3.drewN q) (fun t _ => 7 - (intOf t).toNat)
  case atStart => exact ⟨0, 0, rfl, Nat.zero_le _, by simp [Hid], rfl⟩
  case round =>
    obtain ⟨i, q, rfl, hi, ht, rfl⟩ := hrel
    by_cases hlt : i < 7
    · obtain ⟨s1, hs1⟩ := get_of_ltS (l := L1) (i := i) (by omega)
      obtain ⟨s2, hs2⟩ := get_of_ltS (l := L2) (i := i) (by omega)
      have hm1 := ks1 i s1 hs1
      have hm2 := ks2 i s2 hs2
      obtain ⟨g1', o1, ea1, hg1, hc1⟩ := S1.pos hs1
      obtain ⟨g2', o2, ea2, hg2, hc2⟩ := S2.pos hs2
      cases ea1
      cases ea2
      have k1 := hc1 i s1 hs1
      have k2 := hc2 i s2 hs2
      rw [Nat.zero_add] at k1 k2
      unfold Sl.val at k1 k2
      replace k1 : (w3.drewN q).cell? ⟨w.heap.size + 2, i, none⟩ = _ := k1
      replace k2 : (w3.drewN q).cell? ⟨g2, i, none⟩ = _ := k2
      have eq := eY q
      have hnext : Hid (∀ n, ∃ m, (w3.drewN q).drewN n = w3.drewN m) := fun n => ⟨q + n, World.drewN_drewN _ _ _⟩
      generalize w3.drewN q = wq at *
      have H1 := Lib.hid hs1
      have H2 := Lib.hid hs2
      have hE := Lib.hid (fun W (h : Below w.heap.size w W) => eqBytes_any s1.A s2.A s1.xs.length s2.xs.length s1.c s2.c s1.xs s2.xs W rfl rfl (hm1.rd.below h) (hm2.rd.below h) hm1.lim hm2.lim)
      clear hs1 hs2 hc1 hc2 ks1 ks2 hm1 hm2
      have hst : Hid ((L1.map Sl.xs).take (i + 1) = (L1.map Sl.xs).take i ++ [s1.xs] ∧ (L2.map Sl.xs).take (i + 1) = (L2.map Sl.xs).take i ++ [s2.xs]) := by
        refine ⟨?_, ?_⟩
        · rw [List.take_add_one, List.getElem?_map, H1.out]
          rfl
        · rw [List.take_add_one, List.getElem?_map, H2.out]
          rfl
      by_cases hx : s1.xs = s2.xs
      · have hdec : decide (s1.xs = s2.xs) = true := by simp [hx]
        have hE : Hid (∀ W, Below w.heap.size w W → Calls Tryz.prog 37 #[.slice s1.A s1.xs.length s1.c, .slice s2.A s2.xs.length s2.c] W (fun e w' => e = .returned (.bool true) ∧ w' = W)) := fun W h => by rw [← hdec]; exact (hE.out W h).mono fun _ _ h => ⟨h.1, h.2.symm⟩
        have HX := Lib.hid hx
        clear hx hdec
        generalize s1.xs.length = n1 at *
        generalize s2.xs.length = n2 at *
        go_wp2_with fail
        go_quiet ((go_at_call 37; with_reducible exact Calls.quiet_of_same (hE.out _ (by first | exact below_drewN eq _ | exact below_drew eq | exact eq))))
        go_wp2_with fail
        go_roundw
        case rel =>
          obtain ⟨m, hm⟩ := hnext.out nq
          exact ⟨i + 1, m, by go_num, by omega, by
            show _ = _
            rw [hst.out.1, hst.out.2, ht.out, HX.out], hm⟩
        case measure => simp [intOf]; omega
      · have hdec : decide (s1.xs = s2.xs) = false := by simp [hx]
        have hE : Hid (∀ W, Below w.heap.size w W → Calls Tryz.prog 37 #[.slice s1.A s1.xs.length s1.c, .slice s2.A s2.xs.length s2.c] W (fun e w' => e = .returned (.bool false) ∧ w' = W)) := fun W h => by rw [← hdec]; exact (hE.out W h).mono fun _ _ h => ⟨h.1, h.2.symm⟩
        have hfin : Hid (decide (c.say = d.say) = false) := by
          show _ = _
          rw [hsay.out]
          have : ¬ L1.map Sl.xs = L2.map Sl.xs := fun e => by
            have h1 := hst.out.1
            rw [e, hst.out.2, ← ht.out] at h1
            simp at h1
            exact hx h1.symm
          simp [this]
        clear hx hdec
        generalize s1.xs.length = n1 at *
        generalize s2.xs.length = n2 at *
        go_wp2_with fail
        go_quiet ((go_at_call 37; with_reducible exact Calls.quiet_of_same (hE.out _ (by first | exact below_drewN eq _ | exact below_drew eq | exact eq))))
        go_wp2_with fail
        go_ret
        rw [hfin.out]
        exact ⟨rfl, below_drewN eq _⟩
    · obtain rfl : i = 7 := by omega
      have hall : Hid (decide (L1.map Sl.xs = L2.map Sl.xs) = true) := by
        have h1 := ht.out
        rw [List.take_of_length_le (by simp [l1]), List.take_of_length_le (by simp [l2])] at h1
        show _ = _
        simp [h1]
      have hfin : Hid (decide (c.say = d.say) = flatB c d) := by
        show _ = _
        rw [hsay.out, hall.out, Bool.true_and]
      clear hall hsay ht ks1 ks2 S1 S2 l1 l2
      obtain ⟨Y0, Y1⟩ := Y q
      replace eY := eY q
      clear Y e1 R0 R1
      generalize w3.drewN q = w4 at *
      have ka5 : w4.rangeAt w.heap.size 5 c.frm.cells := crt_frm Y0
      have kb5 : w4.rangeAt (w.heap.size + 1) 5 d.frm.cells := crt_frm Y1
      have ka11 : w4.rangeAt w.heap.size 11 c.til.cells := crt_til Y0
      have kb11 : w4.rangeAt (w.heap.size + 1) 11 d.til.cells := crt_til Y1
      have ka18 : w4.cell? ⟨w.heap.size, 18, none⟩ = some (.int .u64 (c.e : Int)) := Y0.cell (i := 18) rfl
      have kb18 : w4.cell? ⟨w.heap.size + 1, 18, none⟩ = some (.int .u64 (d.e : Int)) := Y1.cell (i := 18) rfl
      have ka20 : w4.cell? ⟨w.heap.size, 20, none⟩ = some (.bool c.ca) := Y0.cell (i := 20) rfl
      have kb20 : w4.cell? ⟨w.heap.size + 1, 20, none⟩ = some (.bool d.ca) := Y1.cell (i := 20) rfl
      have ka21 : w4.cell? ⟨w.heap.size, 21, none⟩ = some (.int .i64 c.path) := Y0.cell (i := 21) rfl
      have kb21 : w4.cell? ⟨w.heap.size + 1, 21, none⟩ = some (.int .i64 d.path) := Y1.cell (i := 21) rfl
      have ka22 : w4.cell? ⟨w.heap.size, 22, none⟩ = some (.int .i64 c.usage) := Y0.cell (i := 22) rfl
      have kb22 : w4.cell? ⟨w.heap.size + 1, 22, none⟩ = some (.int .i64 d.usage) := Y1.cell (i := 22) rfl
      have ka23 : w4.cell? ⟨w.heap.size, 23, none⟩ = some (.bool c.code) := Y0.cell (i := 23) rfl
      have kb23 : w4.cell? ⟨w.heap.size + 1, 23, none⟩ = some (.bool d.code) := Y1.cell (i := 23) rfl
      have E1 := tm_eq c.frm d.frm
      have E2 := tm_eq c.til d.til
      have E3 := nat_beq c.e d.e
      have E4 : (c.ca == d.ca) = decide (c.ca = d.ca) := by cases c.ca <;> cases d.ca <;> rfl
      have E5 : (c.path == d.path) = decide (c.path = d.path) := rfl
      have E6 : (c.usage == d.usage) = decide (c.usage = d.usage) := rfl
      have E7 : (c.code == d.code) = decide (c.code = d.code) := by cases c.code <;> cases d.code <;> rfl
      unfold flatB at hfin
      generalize decide (c.say = d.say) = R at *
      clear Y0 Y1
      generalize decide (c.frm = d.frm) = b1 at *
      generalize decide (c.til = d.til) = b2 at *
      generalize decide (c.e = d.e) = b3 at *
      generalize decide (c.ca = d.ca) = b4 at *
      generalize decide (c.path = d.path) = b5 at *
      generalize decide (c.usage = d.usage) = b6 at *
      generalize decide (c.code = d.code) = b7 at *
      cases b1
      · go_wp2_with (first
        | ((with_reducible refine wpList_load_if 25 (.tmp 56) ?_ w.heap.size 5 c.frm.cells _ ka5 Tryz.underlying25 ?_ (sz_tm _) ?_ ?_ ?_); (· rfl); (· rfl); (· rfl); (· rfl))
        | ((with_reducible refine wpList_load_if 25 (.tmp 58) ?_ (w.heap.size + 1) 5 d.frm.cells _ kb5 Tryz.underlying25 ?_ (sz_tm _) ?_ ?_ ?_); (· rfl); (· rfl); (· rfl); (· rfl))
        | ((with_reducible refine wpList_eql_tm (.tmp 57) (.tmp 59) ?_ c.frm.cells.toArray d.frm.cells.toArray _ E1 ?_ ?_ ?_ ?_); (· rfl); (· rfl); (· rfl); (· rfl)))
        go_ret
        exact ⟨by rw [hfin.out]; rfl, eY⟩
      cases b2
      · go_wp2_with (first
        | ((with_reducible refine wpList_load_if 25 (.tmp 56) ?_ w.heap.size 5 c.frm.cells _ ka5 Tryz.underlying25 ?_ (sz_tm _) ?_ ?_ ?_); (· rfl); (· rfl); (· rfl); (· rfl))
        | ((with_reducible refine wpList_load_if 25 (.tmp 58) ?_ (w.heap.size + 1) 5 d.frm.cells _ kb5 Tryz.underlying25 ?_ (sz_tm _) ?_ ?_ ?_); (· rfl); (· rfl); (· rfl); (· rfl))
        | ((with_reducible refine wpList_load_if 25 (.tmp 62) ?_ w.heap.size 11 c.til.cells _ ka11 Tryz.underlying25 ?_ (sz_tm _) ?_ ?_ ?_); (· rfl); (· rfl); (· rfl); (· rfl))
        | ((with_reducible refine wpList_load_if 25 (.tmp 64) ?_ (w.heap.size + 1) 11 d.til.cells _ kb11 Tryz.underlying25 ?_ (sz_tm _) ?_ ?_ ?_); (· rfl); (· rfl); (· rfl); (· rfl))
        | ((with_reducible refine wpList_eql_tm (.tmp 57) (.tmp 59) ?_ c.frm.cells.toArray d.frm.cells.toArray _ E1 ?_ ?_ ?_ ?_); (· rfl); (· rfl); (· rfl); (· rfl))
        | ((with_reducible refine wpList_eql_tm (.tmp 63) (.tmp 65) ?_ c.til.cells.toArray d.til.cells.toArray _ E2 ?_ ?_ ?_ ?_); (· rfl); (· rfl); (· rfl); (· rfl)))
        go_ret
        exact ⟨by rw [hfin.out]; rfl, eY⟩
      cases b3
      · go_wp2_with (first
        | ((with_reducible refine wpList_load_if 25 (.tmp 56) ?_ w.heap.size 5 c.frm.cells _ ka5 Tryz.underlying25 ?_ (sz_tm _) ?_ ?_ ?_); (· rfl); (· rfl); (· rfl); (· rfl))
        | ((with_reducible refine wpList_load_if 25 (.tmp 58) ?_ (w.heap.size + 1) 5 d.frm.cells _ kb5 Tryz.underlying25 ?_ (sz_tm _) ?_ ?_ ?_); (· rfl); (· rfl); (· rfl); (· rfl))
        | ((with_reducible refine wpList_load_if 25 (.tmp 62) ?_ w.heap.size 11 c.til.cells _ ka11 Tryz.underlying25 ?_ (sz_tm _) ?_ ?_ ?_); (· rfl); (· rfl); (· rfl); (· rfl))
        | ((with_reducible refine wpList_load_if 25 (.tmp 64) ?_ (w.heap.size + 1) 11 d.til.cells _ kb11 Tryz.underlying25 ?_ (sz_tm _) ?_ ?_ ?_); (· rfl); (· rfl); (· rfl); (· rfl))
        | ((with_reducible refine wpList_eql_tm (.tmp 57) (.tmp 59) ?_ c.frm.cells.toArray d.frm.cells.toArray _ E1 ?_ ?_ ?_ ?_); (· rfl); (· rfl); (· rfl); (· rfl))
        | ((with_reducible refine wpList_eql_tm (.tmp 63) (.tmp 65) ?_ c.til.cells.toArray d.til.cells.toArray _ E2 ?_ ?_ ?_ ?_); (· rfl); (· rfl); (· rfl); (· rfl)))
        go_ret
        exact ⟨by rw [hfin.out]; rfl, eY⟩
      cases b4
      · go_wp2_with (first
        | ((with_reducible refine wpList_load_if 25 (.tmp 56) ?_ w.heap.size 5 c.frm.cells _ ka5 Tryz.underlying25 ?_ (sz_tm _) ?_ ?_ ?_); (· rfl); (· rfl); (· rfl); (· rfl))
        | ((with_reducible refine wpList_load_if 25 (.tmp 58) ?_ (w.heap.size + 1) 5 d.frm.cells _ kb5 Tryz.underlying25 ?_ (sz_tm _) ?_ ?_ ?_); (· rfl); (· rfl); (· rfl); (· rfl))
        | ((with_reducible refine wpList_load_if 25 (.tmp 62) ?_ w.heap.size 11 c.til.cells _ ka11 Tryz.underlying25 ?_ (sz_tm _) ?_ ?_ ?_); (· rfl); (· rfl); (· rfl); (· rfl))
        | ((with_reducible refine wpList_load_if 25 (.tmp 64) ?_ (w.heap.size + 1) 11 d.til.cells _ kb11 Tryz.underlying25 ?_ (sz_tm _) ?_ ?_ ?_); (· rfl); (· rfl); (· rfl); (· rfl))
        | ((with_reducible refine wpList_eql_tm (.tmp 57) (.tmp 59) ?_ c.frm.cells.toArray d.frm.cells.toArray _ E1 ?_ ?_ ?_ ?_); (· rfl); (· rfl); (· rfl); (· rfl))
        | ((with_reducible refine wpList_eql_tm (.tmp 63) (.tmp 65) ?_ c.til.cells.toArray d.til.cells.toArray _ E2 ?_ ?_ ?_ ?_); (· rfl); (· rfl); (· rfl); (· rfl)))
        go_ret
        exact ⟨by rw [hfin.out]; rfl, eY⟩
      cases b5
      · go_wp2_with (first
        | ((with_reducible refine wpList_load_if 25 (.tmp 56) ?_ w.heap.size 5 c.frm.cells _ ka5 Tryz.underlying25 ?_ (sz_tm _) ?_ ?_ ?_); (· rfl); (· rfl); (· rfl); (· rfl))
        | ((with_reducible refine wpList_load_if 25 (.tmp 58) ?_ (w.heap.size + 1) 5 d.frm.cells _ kb5 Tryz.underlying25 ?_ (sz_tm _) ?_ ?_ ?_); (· rfl); (· rfl); (· rfl); (· rfl))
        | ((with_reducible refine wpList_load_if 25 (.tmp 62) ?_ w.heap.size 11 c.til.cells _ ka11 Tryz.underlying25 ?_ (sz_tm _) ?_ ?_ ?_); (· rfl); (· rfl); (· rfl); (· rfl))
        | ((with_reducible refine wpList_load_if 25 (.tmp 64) ?_ (w.heap.size + 1) 11 d.til.cells _ kb11 Tryz.underlying25 ?_ (sz_tm _) ?_ ?_ ?_); (· rfl); (· rfl); (· rfl); (· rfl))
        | ((with_reducible refine wpList_eql_tm (.tmp 57) (.tmp 59) ?_ c.frm.cells.toArray d.frm.cells.toArray _ E1 ?_ ?_ ?_ ?_); (· rfl); (· rfl); (· rfl); (· rfl))
        | ((with_reducible refine wpList_eql_tm (.tmp 63) (.tmp 65) ?_ c.til.cells.toArray d.til.cells.toArray _ E2 ?_ ?_ ?_ ?_); (· rfl); (· rfl); (· rfl); (· rfl)))
        go_ret
        exact ⟨by rw [hfin.out]; rfl, eY⟩
      cases b6
      · go_wp2_with (first
        | ((with_reducible refine wpList_load_if 25 (.tmp 56) ?_ w.heap.size 5 c.frm.cells _ ka5 Tryz.underlying25 ?_ (sz_tm _) ?_ ?_ ?_); (· rfl); (· rfl); (· rfl); (· rfl))
        | ((with_reducible refine wpList_load_if 25 (.tmp 58) ?_ (w.heap.size + 1) 5 d.frm.cells _ kb5 Tryz.underlying25 ?_ (sz_tm _) ?_ ?_ ?_); (· rfl); (· rfl); (· rfl); (· rfl))
        | ((with_reducible refine wpList_load_if 25 (.tmp 62) ?_ w.heap.size 11 c.til.cells _ ka11 Tryz.underlying25 ?_ (sz_tm _) ?_ ?_ ?_); (· rfl); (· rfl); (· rfl); (· rfl))
        | ((with_reducible refine wpList_load_if 25 (.tmp 64) ?_ (w.heap.size + 1) 11 d.til.cells _ kb11 Tryz.underlying25 ?_ (sz_tm _) ?_ ?_ ?_); (· rfl); (· rfl); (· rfl); (· rfl))
        | ((with_reducible refine wpList_eql_tm (.tmp 57) (.tmp 59) ?_ c.frm.cells.toArray d.frm.cells.toArray _ E1 ?_ ?_ ?_ ?_); (· rfl); (· rfl); (· rfl); (· rfl))
        | ((with_reducible refine wpList_eql_tm (.tmp 63) (.tmp 65) ?_ c.til.cells.toArray d.til.cells.toArray _ E2 ?_ ?_ ?_ ?_); (· rfl); (· rfl); (· rfl); (· rfl)))
        go_ret
        exact ⟨by rw [hfin.out]; rfl, eY⟩
      cases b7
      · go_wp2_with (first
        | ((with_reducible refine wpList_load_if 25 (.tmp 56) ?_ w.heap.size 5 c.frm.cells _ ka5 Tryz.underlying25 ?_ (sz_tm _) ?_ ?_ ?_); (· rfl); (· rfl); (· rfl); (· rfl))
        | ((with_reducible refine wpList_load_if 25 (.tmp 58) ?_ (w.heap.size + 1) 5 d.frm.cells _ kb5 Tryz.underlying25 ?_ (sz_tm _) ?_ ?_ ?_); (· rfl); (· rfl); (· rfl); (· rfl))
        | ((with_reducible refine wpList_load_if 25 (.tmp 62) ?_ w.heap.size 11 c.til.cells _ ka11 Tryz.underlying25 ?_ (sz_tm _) ?_ ?_ ?_); (· rfl); (· rfl); (· rfl); (· rfl))
        | ((with_reducible refine wpList_load_if 25 (.tmp 64) ?_ (w.heap.size + 1) 11 d.til.cells _ kb11 Tryz.underlying25 ?_ (sz_tm _) ?_ ?_ ?_); (· rfl); (· rfl); (· rfl); (· rfl))
        | ((with_reducible refine wpList_eql_tm (.tmp 57) (.tmp 59) ?_ c.frm.cells.toArray d.frm.cells.toArray _ E1 ?_ ?_ ?_ ?_); (· rfl); (· rfl); (· rfl); (· rfl))
        | ((with_reducible refine wpList_eql_tm (.tmp 63) (.tmp 65) ?_ c.til.cells.toArray d.til.cells.toArray _ E2 ?_ ?_ ?_ ?_); (· rfl); (· rfl); (· rfl); (· rfl)))
        go_ret
        exact ⟨by rw [hfin.out]; rfl, eY⟩
      go_wp2_with (first
        | ((with_reducible refine wpList_load_if 25 (.tmp 56) ?_ w.heap.size 5 c.frm.cells _ ka5 Tryz.underlying25 ?_ (sz_tm _) ?_ ?_ ?_); (· rfl); (· rfl); (· rfl); (· rfl))
        | ((with_reducible refine wpList_load_if 25 (.tmp 58) ?_ (w.heap.size + 1) 5 d.frm.cells _ kb5 Tryz.underlying25 ?_ (sz_tm _) ?_ ?_ ?_); (· rfl); (· rfl); (· rfl); (· rfl))
        | ((with_reducible refine wpList_load_if 25 (.tmp 62) ?_ w.heap.size 11 c.til.cells _ ka11 Tryz.underlying25 ?_ (sz_tm _) ?_ ?_ ?_); (· rfl); (· rfl); (· rfl); (· rfl))
        | ((with_reducible refine wpList_load_if 25 (.tmp 64) ?_ (w.heap.size + 1) 11 d.til.cells _ kb11 Tryz.underlying25 ?_ (sz_tm _) ?_ ?_ ?_); (· rfl); (· rfl); (· rfl); (· rfl))
        | ((with_reducible refine wpList_eql_tm (.tmp 57) (.tmp 59) ?_ c.frm.cells.toArray d.frm.cells.toArray _ E1 ?_ ?_ ?_ ?_); (· rfl); (· rfl); (· rfl); (· rfl))
        | ((with_reducible refine wpList_eql_tm (.tmp 63) (.tmp 65) ?_ c.til.cells.toArray d.til.cells.toArray _ E2 ?_ ?_ ?_ ?_); (· rfl); (· rfl); (· rfl); (· rfl)))
      go_ret
      exact ⟨by rw [hfin.out]; rfl, eY⟩
end Go.Proofs.YtchaahnhpeoomaaGreat
namespace Go.Proofs.YtchaahnhpeoomaaGreat
set_option linter.unusedVariables false
set_option linter.unusedSimpArgs false
set_option maxRecDepth 20000
open Go.RowKit
def d5 : List Nat := [5, 0, 0, 0, 0, 0, 0, 0, 0, 0, 0, 0, 0, 0, 0, 0, 0, 0, 0, 0, 0, 0, 0, 0, 0, 0, 0, 0, 0, 0, 0, 0]
def d6 : List Nat := [6, 0, 0, 0, 0, 0, 0, 0, 0, 0, 0, 0, 0, 0, 0, 0, 0, 0, 0, 0, 0, 0, 0, 0, 0, 0, 0, 0, 0, 0, 0, 0]
theorem d5_lim : Lim 256 d5 := by intro x hx; simp [d5] at hx; omega
theorem d6_lim : Lim 256 d6 := by intro x hx; simp [d6] at hx; omega
def Case0 : List Value := caseCells none 0 0 z32 false 0
theorem zero_case : (Tryz.prog.info? 61).map (fun i => i.zero) = some (some (.agg Case0.toArray)) := by kernel_rfl
theorem wpList_alloc_row {P : Program} {ops : Array Oper} {rest : List Oper} {o : Oper} {a : Act} {w : World} {Q : Exit → Act → World → Prop} (hgd : o.guard = none) (ty : TypeId) (ho : o.op = .alloc ty) (cs : List Value) (hz : (P.info? ty).map (fun i => i.zero) = some (some (.agg cs.toArray)))
    (h : ∀ g w', Hid (g = w.heap.size) → Cut w' g 0 cs → w'.heap.size = w.heap.size + 1 → Below w.heap.size w w' → wpList P ops Q rest (a.put o.dst (.pointer (some ⟨g, 0, none⟩))) w') : wpList P ops Q (o :: rest) a w := by
  refine wpList_plain hgd fun K hK => ?_
  obtain ⟨i, hi, hzz⟩ := Option.map_eq_some_iff.1 hz
  have hzero : (zeroValue ty).run P w = .ok (.agg cs.toArray) w := by simp [zeroValue, typeInfo, hi, hzz]
  unfold Oper.wp execOp
  simp only [ho, Instr.alloc, Sem.run_bind, Sem.run_pure, hzero, Result.andThen, newVar, run_newObj_alloc]
  refine hK _ _ (h w.heap.size _ rfl ?_ (by simp) ((Below.refl _ _).alloc (Nat.le_refl _) (.cells cs.toArray ty)))
  exact Cut.of_heap (heap_alloc_new w (.cells cs.toArray ty)) fun i v hv => by simpa using hv
def sgd0 : List Value := [.slice none 0 0, .slice none 0 0, .slice none 0 0, .slice none 0 0]
theorem zero_sgd0 : (Tryz.prog.info? 48).map (fun i => i.zero) = some (some (.agg sgd0.toArray)) := by kernel_rfl
theorem case_one (KA : Option Addr) (kn kc oth : Nat) (ds : List Nat) (at_ : Bool) : ∀ u ∈ caseCells KA kn kc ds at_ oth, u.oneCell' = true := by
  intro u hu
  simp only [caseCells, List.mem_append, List.mem_cons, List.not_mem_nil, or_false, ints, List.mem_map] at hu
  rcases hu with (rfl | ⟨x, hx, rfl⟩) | rfl | rfl <;> rfl
theorem case_length (KA : Option Addr) (kn kc oth : Nat) (ds : List Nat) (at_ : Bool) (hd : ds.length = 32) : (caseCells KA kn kc ds at_ oth).length = 35 := by simp [caseCells, ints_length, hd]
theorem sgd_one (s : Sgd) : ∀ u ∈ s.cells, u.oneCell' = true := by
  intro u hu
  simp only [Sgd.cells, List.mem_cons, List.not_mem_nil, or_false] at hu
  rcases hu with rfl | rfl | rfl | rfl <;> rfl
theorem body_all (b : List Nat) (hl : b.length < 4294967296) : bodyB (wr 4 b) = some b := by
  have h1 := elem_wr (tag := 4) (b := b) (ys := []) (by decide) hl
  have h2 := body_wr (tag := 4) (b := b) (ys := [])
  rw [List.append_nil] at h1 h2
  unfold bodyB
  rw [h1]
  dsimp only
  rw [if_pos (by rw [wr_full]), h2]
def wrkT (g1 g2 gA n cA : Nat) (c : Crt) (ds dg : List Nat) : Nat → Tg
  | 2 => tv (.bool false)
  | 9 => tv (.agg c.cells.toArray)
  | 10 => tv (.pointer (some ⟨g2, 2, none⟩))
  | 11 => tv (.slice (some ⟨gA, 0, none⟩) n cA)
  | 12 => tv (.pointer (some ⟨gA, 0 + 0 * 24, none⟩))
  | 13 => tv (.agg c.cells.toArray)
  | 17 => tv (.agg (ints .u8 dg).toArray)
  | 18 => tv (.pointer (some ⟨g1, 1, none⟩))
  | 19 => tsl ds
  | 20 => tv (.agg (ints .u8 dg).toArray)
  | _ => tv (.bool true)
theorem arr_guard (x y : Operand) (xs ys : Array Value) (w : World) : (eqGuard .eql 49 x y (.agg xs) (.agg ys)).run Tryz.prog w = .ok () w := run_eqGuard_agg w .eql _ x y xs ys (by kernel_rfl)
theorem cf_sameC (vs : Array Value) (W : World) : (callFunc 34 vs).run Tryz.prog W = .ok (.enter 34 vs) W := by go_simp
theorem cf_rsum (vs : Array Value) (W : World) : (callFunc 41 vs).run Tryz.prog W = .ok (.enter 41 vs) W := by go_simp
set_option maxRecDepth 100000 in
set_option maxHeartbeats 3200000 in
theorem works15_any (w : World) : Calls Tryz.prog 29 #[] w (RetW true w) := by
  go_enter Tryz.func29, Tryz.ntmps29
  go_upto_region 2 with (first
    | (refine wpList_alloc_row rfl 61 rfl Case0 (by exact zero_case) ?_; intro g1 w1 hg1 C1 z1 e1)
    | (refine wpList_store_cut rfl 61 (.tmp 1) (.tmp 10) rfl g1 0 (caseCells none 0 0 d5 true 0) _ rfl rfl C1 rfl (by exact sz_case) (case_one _ _ _ _ _ _) ?_; intro w2 hst))
  obtain ⟨ds, hds⟩ : ∃ ds, ds = d5 := ⟨_, rfl⟩
  have hdl : Hid (ds.length = 32) := by rw [hds]; exact rfl
  have hdm : Lim 256 ds := by rw [hds]; exact d5_lim
  have hne : Hid (¬ ds = d6) := by rw [hds]; show ¬ d5 = d6; decide
  rw [← hds] at hst
  clear hds
  have C2 := hst.2.2.1
  have e2 : Below w.heap.size w w2 := below_only e1 hst.1 e1.size (by have := hg1.out; omega)
  have z2 : g1 < w2.heap.size := C2.lt
  have D2 : Rd .u8 w2 (some ⟨g1, 1, none⟩) ds := rd_of_case C2 hdl.out
  clear hst C1 z1 e1
  have lc : Hid ((caseCells none 0 0 ds true 0).length = 35) := case_length _ _ _ _ _ _ hdl.out
  go_wp2_with (refine wpList_load_mid rfl 61 (.tmp 1) rfl g1 0 rfl (caseCells none 0 0 ds true 0) _ C2.range Tryz.underlying61 rfl (by rw [lc.out]; exact sz_case) ?_)
  refine (sMade_any none 0 0 0 ds [42, 3] true w2 hdl.out hdm (by omega) (by intro x hx; simp at hx; omega) (by decide) (by decide) (fun W h => kind_nil W)).mono ?_
  intro r w3 h3
  obtain ⟨G, cs, s, c, sum, gA, gz, rfl, M3, hk, hcx, D, e3⟩ := made_mem h3 (by decide) hdl.out
  clear h3
  have CS := C2.below e3
  have e3' := e2.trans (e3.mono e2.size)
  have z3 : g1 < w3.heap.size := CS.lt
  clear C2 D2 z2 e2 e3
  unfold Sgd.val
  go_upto_region 3 with (first
    | (refine wpList_alloc_row rfl 48 rfl sgd0 (by exact zero_sgd0) ?_; intro g2 w4 hg2 C4 z4 e4)
    | (refine wpList_store_cut rfl 48 (.tmp 2) (.tmp 12) rfl g2 0 G.cells _ rfl rfl C4 rfl (by exact sz_sgd) (sgd_one _) ?_; intro w5 hst))
  have e5 : Below w3.heap.size w3 w5 := below_only e4 hst.1 e4.size (by have := hg2.out; omega)
  have S5 : Row w5 g2 0 G.cells := Row.of_cut hst.2.2.1
  have M5 := M3.below e5
  have C5 := Row.of_cut (CS.below e5)
  have e5' := e3'.trans (e5.mono e3'.size)
  clear hst C4 z4 e4 M3 CS e5 e3' z3
  have kk : w5.cell? ⟨g2, 0, none⟩ = some G.kind.val := S5.cell (i := 0) rfl
  have kd : w5.rangeAt g1 1 (ints .u8 ds) := by
    have q := C5.mid (n := 1) (us := ints .u8 ds) (fun i v hv => by
      unfold caseCells
      rw [List.append_assoc, List.getElem?_append_right (by simp), List.getElem?_append_left (by simp; exact (List.getElem?_eq_some_iff.1 hv).1 |> fun h => by simpa [ints_length] using h)]
      simpa using hv)
    rwa [Nat.zero_add] at q
  go_wp2_with (first
    | (refine wpList_load_mid rfl 48 (.tmp 2) rfl g2 0 rfl G.cells _ S5.2 Tryz.underlying48 rfl sz_sgd ?_)
    | (refine wpList_load_mid rfl 49 (.tmp 17) rfl g1 1 rfl (ints .u8 ds) _ kd Tryz.underlying49 rfl (by rw [ints_length, hdl.out]; exact size_32u8) ?_))
  have hr1 : rightAt cs [s] 0 G.kind.xs ds = some c := by
    unfold rightAt
    simp [D.right, hk]
  have hr2 : rightAt cs [s] 0 G.kind.xs d6 = none := by
    unfold rightAt
    simp [D.right, hne.out]
  have Q1 := right_mem M5 0 (by omega) G.kind M5.kind ds hdl.out hdm
  rw [hr1] at Q1
  refine Q1.mono ?_
  clear Q1
  rintro r w6 ⟨rfl, e6⟩
  have M6 := M5.below e6
  have S6 := S5.below e6
  have C6 := C5.below e6
  have z6 : w.heap.size ≤ w6.heap.size := Nat.le_trans e5'.size e6.size
  have e6' := e5'.trans (e6.mono e5'.size)
  clear M5 S5 C5 kk kd e6 e5'
  go_upto_region 4 with (first
    | (refine wpList_alloc_row rfl 30 rfl Crt.none.cells (by exact zero_cert) ?_; intro g3 w7 hg3 C7 z7 e7)
    | (refine wpList_store_cut rfl 30 (.tmp 3) (.tmp 20) rfl g3 0 c.cells _ rfl rfl C7 rfl (by exact sz_cert) (crt_one _) ?_; intro w8 hst))
  have e8 : Below w6.heap.size w6 w8 := below_only e7 hst.1 e7.size (by have := hg3.out; omega)
  have T8 : Row w8 g3 0 c.cells := Row.of_cut hst.2.2.1
  have M8 := M6.below e8
  have S8 := S6.below e8
  have C8 := C6.below e8
  have e8' := e6'.trans (e8.mono e6'.size)
  clear hst C7 z7 e7 M6 S6 C6 e8 e6' z6
  have kk : w8.cell? ⟨g2, 0, none⟩ = some G.kind.val := S8.cell (i := 0) rfl
  go_wp2_with (first
    | (refine wpList_load_mid rfl 48 (.tmp 2) rfl g2 0 rfl G.cells _ S8.2 Tryz.underlying48 rfl sz_sgd ?_))
  have Q2 := right_mem M8 0 (by omega) G.kind M8.kind d6 rfl d6_lim
  rw [hr2] at Q2
  refine Q2.mono ?_
  clear Q2
  rintro r w9 ⟨rfl, e9⟩
  have M9 := M8.below e9
  have S9 := S8.below e9
  have C9 := C8.below e9
  have T9 := T8.below e9
  have e9' := e8'.trans (e9.mono e8'.size)
  clear M8 S8 C8 kk e9 e8' T8
  go_upto_region 5 with (first
    | (refine wpList_alloc_row rfl 30 rfl Crt.none.cells (by exact zero_cert) ?_; intro g4 w10 hg4 C10 z10 e10)
    | (refine wpList_store_cut rfl 30 (.tmp 5) (.tmp 28) rfl g4 0 Crt.none.cells _ rfl rfl C10 rfl (by exact sz_cert) (crt_one _) ?_; intro w11 hst))
  have e11 : Below w9.heap.size w9 w11 := below_only e10 hst.1 e10.size (by have := hg4.out; omega)
  have M11 := M9.below e11
  have S11 := S9.below e11
  have C11 := C9.below e11
  have T11 := T9.below e11
  have e11' := e9'.trans (e11.mono e9'.size)
  clear hst C10 z10 e10 M9 S9 C9 e11 e9' T9
  have hbody : bodyB G.content.xs = some ds := by
    rw [hcx]
    exact body_all ds (by have := hdl.out; omega)
  go_wp2_with (first
    | (refine wpList_load_mid rfl 48 (.tmp 2) rfl g2 0 rfl G.cells _ S11.2 Tryz.underlying48 rfl sz_sgd ?_))
  have Q3 := sOf_any G w11 M11.content (by rw [hcx]; have := wr_len (tag := 4) (b := ds) (by have := hdl.out; omega); have := hdl.out; omega)
  refine Q3.mono ?_
  clear Q3
  rintro r w12 ⟨e12, h12⟩
  rw [hbody] at h12
  obtain rfl := h12
  obtain ⟨dg, hdg⟩ : ∃ dg, dg = digest ds := ⟨_, rfl⟩
  have hgl : Hid (dg.length = 32) := by rw [hdg]; exact digest_length _
  have HDG := Lib.hid hdg
  rw [← hdg]
  clear hdg hbody
  have M12 := M11.below e12
  have S12 := S11.below e12
  have C12 := C11.below e12
  have T12 := T11.below e12
  have e12' := e11'.trans (e12.mono e11'.size)
  clear M11 S11 C11 T11 e12 e11'
  go_upto_region 6 with (first
    | (refine wpList_alloc_arr rfl 49 rfl .u8 32 zero_32u8 ?_; intro g5 w13 hg5 (W13 : Whl .u8 49 w13 g5 z32) z13 e13)
    | (refine wpList_store_whl rfl 49 (.tmp 7) (.tmp 33) rfl g5 .u8 _ z32 dg rfl rfl W13 (by rw [hgl.out]; rfl) (by exact size_32u8) ?_; intro w14 W14 hg14 hs14))
  have e14 : Below w12.heap.size w12 w14 := below_only e13 hg14 e13.size (by have := hg5.out; omega)
  have M14 := M12.below e14
  have S14 := S12.below e14
  have C14 := C12.below e14
  have T14 := T12.below e14
  have e14' := e12'.trans (e14.mono e12'.size)
  clear M12 S12 C12 T12 e14 e12' W13 z13 e13 hg14 hs14
  have kd : Rd .u8 w14 (some ⟨g1, 1, none⟩) ds := by
    refine .inr ⟨g1, 1, rfl, C14.1, fun i x hx => ?_⟩
    have q := C14.mid (n := 1) (us := ints .u8 ds) (fun i v hv => by
      unfold caseCells
      rw [List.append_assoc, List.getElem?_append_right (by simp), List.getElem?_append_left (by simp; exact (List.getElem?_eq_some_iff.1 hv).1 |> fun h => by simpa [ints_length] using h)]
      simpa using hv)
    rw [Nat.zero_add] at q
    exact q i _ (ints_get hx)
  have k2 : w14.cell? ⟨g2, 2, none⟩ = some (.slice (some ⟨gA, 0, none⟩) cs.length G.cc) := by
    have q := S14.cell (i := 2) (v := .slice G.CA G.cn G.cc) rfl
    rw [M14.cA.resolve_left (by rintro rfl; have := D.len; simp at this), M14.cn, Nat.zero_add] at q
    exact q
  have hc0 : cs[0]? = some c := D.spot
  have Rc := crt_row M14.cR hc0
  have hcok := M14.cok c (List.mem_of_getElem? hc0)
  have hpos : 0 < cs.length := by have := D.len; omega
  have hd0 : Below w14.heap.size w14 w14.drew := below_drewN (Below.refl _ _) 1
  refine wp_region_steps (by kernel_rfl) (fun i => if i = 23 then 0 else 35 + i) (fun i v W => Sp (wrkT g1 g2 gA cs.length G.cc c ds dg i) v W) (fun W => Below w14.heap.size w14 W) (by kernel_rfl) (by kernel_rfl) ?inj ?lt (fun i v W W' h hs => h.mono hs) hd0 ⟨?s0, ?s1, ?s2, ?s3, ?s4, ?s5, ?s6, ?s7, ?s8, ?s9, ?s10, ?s11, ?s12, ?s13, ?s14, ?s15, ?s16, ?s17, ?s18, ?s19, ?s20, ?s21, ?s22, ?s23, trivial⟩ ?fin
  case inj =>
    intro i j hi hj h
    have h40 : i < 24 ∧ j < 24 := ⟨hi, hj⟩
    have h : (if i = 23 then 0 else 35 + i) = (if j = 23 then 0 else 35 + j) := h
    split at h <;> split at h <;> omega
  case lt =>
    intro i hi
    have h40 : i < 24 := hi
    show (if i = 23 then 0 else 35 + i) < 58
    split <;> omega
  case s0 => exact st_move rfl (.inl rfl) (src_base (fun i _ => by show (if i = 23 then 0 else 35 + i) ≠ _; split <;> omega) rfl)
  case s1 => exact st_move rfl (.inl rfl) (src_dep (j := 0) (e := ⟨0, .data⟩) (by simp) rfl rfl rfl)
  case s2 => exact st_guard (j := 1) (b := true) (e := ⟨1, .guard⟩) rfl (by simp) rfl rfl rfl rfl (st_move rfl (.inl rfl) (src_base (fun i _ => by show (if i = 23 then 0 else 35 + i) ≠ _; split <;> omega) rfl))
  case s3 => exact st_guard (j := 1) (b := true) (e := ⟨1, .guard⟩) rfl (by simp) rfl rfl rfl rfl (st_pure (V := .bool false) (U := .bool true) rfl (src_dep (j := 2) (e := ⟨2, .data⟩) (by simp) rfl rfl rfl) (fun a h W => by
      have h : a.eval (.tmp 37) = .bool false := h
      unfold execOp
      simp only [h]
      rfl) (fun W hg => Sp.tv rfl))
  case s4 => exact st_pick rfl rfl (src_dep (j := 1) (e := ⟨1, .data⟩) (by simp) rfl rfl rfl) (src_dep (j := 3) (e := ⟨3, .data⟩) (by simp) rfl rfl rfl)
  case s5 => exact st_move rfl (.inl rfl) (src_dep (j := 4) (e := ⟨4, .data⟩) (by simp) rfl rfl rfl)
  case s6 => exact st_guard (j := 5) (b := true) (e := ⟨5, .guard⟩) rfl (by simp) rfl rfl rfl rfl (st_move rfl (.inl rfl) (src_base (fun i _ => by show (if i = 23 then 0 else 35 + i) ≠ _; split <;> omega) rfl))
  case s7 => exact st_pick rfl rfl (src_dep (j := 5) (e := ⟨5, .data⟩) (by simp) rfl rfl rfl) (src_dep (j := 6) (e := ⟨6, .data⟩) (by simp) rfl rfl rfl)
  case s8 => exact st_move rfl (.inl rfl) (src_dep (j := 7) (e := ⟨7, .data⟩) (by simp) rfl rfl rfl)
  case s9 => exact st_guard (j := 8) (b := true) (e := ⟨8, .guard⟩) rfl (by simp) rfl rfl rfl rfl (st_loadR (b := g3) (off := 0) rfl rfl rfl (src_base (fun i _ => by show (if i = 23 then 0 else 35 + i) ≠ _; split <;> omega) rfl) Tryz.underlying30 rfl sz_cert (fun W h => (T14.below h).2))
  case s10 => exact st_guard (j := 8) (b := true) (e := ⟨8, .guard⟩) rfl (by simp) rfl rfl rfl rfl (st_field rfl rfl rfl (src_base (fun i _ => by show (if i = 23 then 0 else 35 + i) ≠ _; split <;> omega) rfl) (fun W => fa_sgd2 g2 0 W))
  case s11 => exact st_guard (j := 8) (b := true) (e := ⟨8, .guard⟩) rfl (by simp) rfl rfl rfl rfl (st_load rfl rfl rfl (src_dep (j := 10) (e := ⟨10, .data⟩) (by simp) rfl rfl rfl) (ld_certs _ _) (fun W h => (h.cell (p := ⟨g2, 2, none⟩) S14.1).trans k2))
  case s12 => exact st_guard (j := 8) (b := true) (e := ⟨8, .guard⟩) rfl (by simp) rfl rfl rfl rfl (st_index rfl rfl rfl (src_dep (j := 11) (e := ⟨11, .data⟩) (by simp) rfl rfl rfl) src_const (fun W => ia_cert gA 0 cs.length G.cc 0 hpos W))
  case s13 => exact st_guard (j := 8) (b := true) (e := ⟨8, .guard⟩) rfl (by simp) rfl rfl rfl rfl (st_loadR (b := gA) (off := 0 + 0 * 24) rfl rfl rfl (src_dep (j := 12) (e := ⟨12, .data⟩) (by simp) rfl rfl rfl) Tryz.underlying30 rfl sz_cert (fun W h => (Rc.below h).2))
  case s14 => exact st_guard (j := 8) (b := true) (e := ⟨8, .guard⟩) rfl (by simp) rfl rfl rfl rfl (st_call rfl (fun a W => run_call rfl cf_sameC a W) (fun a W hb hd hg => by
      have h1 : a.eval (.tmp 44) = .agg c.cells.toArray := (hd ⟨9, .data⟩ (by simp) rfl).now
      have h2 : a.eval (.tmp 48) = .agg c.cells.toArray := (hd ⟨13, .data⟩ (by simp) rfl).now
      simp only [List.map_toArray, List.map_cons, List.map_nil, h1, h2]
      refine (sameC_any c c W (hcok.below hg) (hcok.below hg)).mono ?_
      rintro e W' ⟨rfl, hb'⟩
      exact ⟨_, rfl, hb', by simp only [decide_true]; exact Sp.tv rfl⟩))
  case s15 => exact st_pick rfl rfl (src_dep (j := 8) (e := ⟨8, .data⟩) (by simp) rfl rfl rfl) (src_dep (j := 14) (e := ⟨14, .data⟩) (by simp) rfl rfl rfl)
  case s16 => exact st_move rfl (.inl rfl) (src_dep (j := 15) (e := ⟨15, .data⟩) (by simp) rfl rfl rfl)
  case s17 => exact st_guard (j := 16) (b := true) (e := ⟨16, .guard⟩) rfl (by simp) rfl rfl rfl rfl (st_loadR (b := g5) (off := 0) rfl rfl rfl (src_base (fun i _ => by show (if i = 23 then 0 else 35 + i) ≠ _; split <;> omega) rfl) Tryz.underlying49 rfl (by rw [ints_length, hgl.out]; exact size_32u8) (fun W h => (Cut.of_blk (W14.below h).blk).range))
  case s18 => exact st_guard (j := 16) (b := true) (e := ⟨16, .guard⟩) rfl (by simp) rfl rfl rfl rfl (st_field rfl rfl rfl (src_base (fun i _ => by show (if i = 23 then 0 else 35 + i) ≠ _; split <;> omega) rfl) (fun W => fa_case1 g1 0 W))
  case s19 => exact st_guard (j := 16) (b := true) (e := ⟨16, .guard⟩) rfl (by simp) rfl rfl rfl rfl (st_pure (U := .slice (some ⟨g1, 1, none⟩) 32 32) rfl (src_dep (j := 18) (e := ⟨18, .data⟩) (by simp) rfl rfl rfl) (fun a h W => by
      have h : a.eval (.tmp 53) = .pointer (some ⟨g1, 1, none⟩) := h
      unfold execOp
      simp only [Option.map_none, h, sl_arr, Sem.run_bind, Sem.run_pure, Result.andThen_ok]) (fun W hg => by
      have q := Sp.tsl (xs := ds) (A := some ⟨g1, 1, none⟩) (c := 32) (w := W) (by rw [hdl.out]; omega) (by decide) (kd.below hg)
      rw [hdl.out] at q
      exact q))
  case s20 => exact st_guard (j := 16) (b := true) (e := ⟨16, .guard⟩) rfl (by simp) rfl rfl rfl rfl (st_call rfl (fun a W => run_call rfl cf_rsum a W) (fun a W hb hd hg => by
      obtain ⟨A, cc, q1, q2, q3, q4⟩ := (hd ⟨19, .data⟩ (by simp) rfl).now
      have q1 : a.eval (.tmp 54) = _ := q1
      simp only [List.map_toArray, List.map_cons, List.map_nil, q1]
      refine (refSum_any A ds.length cc ds W rfl (by rw [hdl.out]; omega) q4 hdm).mono ?_
      rintro e W' ⟨rfl, hb'⟩
      exact ⟨_, rfl, hb', by rw [← HDG.out]; exact Sp.tv rfl⟩))
  case s21 => exact st_guard (j := 16) (b := true) (e := ⟨16, .guard⟩) rfl (by simp) rfl rfl rfl rfl (st_run rfl (fun a W hb hd hg => ⟨.bool true, W, by
      have h1 : a.eval (.tmp 52) = .agg (ints .u8 dg).toArray := (hd ⟨17, .data⟩ (by simp) rfl).now
      have h2 : a.eval (.tmp 55) = .agg (ints .u8 dg).toArray := (hd ⟨20, .data⟩ (by simp) rfl).now
      unfold execOp
      simp only [h1, h2, Sem.run_bind, arr_guard, Result.andThen_ok, eql_same dg hgl.out, Sem.run_pure], Sub.refl W, hg, Sp.tv rfl⟩))
  case s22 => exact st_pick rfl rfl (src_dep (j := 16) (e := ⟨16, .data⟩) (by simp) rfl rfl rfl) (src_dep (j := 21) (e := ⟨21, .data⟩) (by simp) rfl rfl rfl)
  case s23 => exact st_move rfl (.inr rfl) (src_dep (j := 22) (e := ⟨22, .data⟩) (by simp) rfl rfl rfl)
  case fin =>
    intro a W h1 h2 h3 h4 h5
    have b0 : a.tmps.getD 0 undef = .bool true := (h4 23 (by show 23 < 24; omega)).now
    have hz : a.tmps.size = 58 := h2
    have hdf : a.defers = [] := h1
    rw [act_eq hz hdf]
    simp only [show List.range 58 = [0, 1, 2, 3, 4, 5, 6, 7, 8, 9, 10, 11, 12, 13, 14, 15, 16, 17, 18, 19, 20, 21, 22, 23, 24, 25, 26, 27, 28, 29, 30, 31, 32, 33, 34, 35, 36, 37, 38, 39, 40, 41, 42, 43, 44, 45, 46, 47, 48, 49, 50, 51, 52, 53, 54, 55, 56, 57] from rfl, List.map_cons, List.map_nil, b0]
    go_wp2_with fail
    go_ret
    exact ⟨rfl, e14'.trans (h5.mono e14'.size)⟩
end Go.Proofs.YtchaahnhpeoomaaGreat
