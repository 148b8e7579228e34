/-
  The statement ChainRight: what is found is a row to somebody who is trusted.
-/
import Derived.Test.YtchaahnhpeoomaaGreatPChY
namespace Go.Proofs.YtchaahnhpeoomaaGreat
set_option linter.unusedVariables false
set_option linter.unusedSimpArgs false
set_option maxRecDepth 20000
open Go.RowKit
theorem crs_take {W : World} {A : Option Addr} {cs : List Crt} {c k : Nat} (h : Crs W A cs) (hk : k ≤ cs.length) (hc : cs.length ≤ c) (hm : c ≤ 9223372036854775807) : ∃ A', (∀ (z : Int) (U : World), z = (k : Int) → (Instr.sliceAt 31 (.slice A cs.length c) none (some (.int .i64 z)) none).run Tryz.prog U = .ok (.slice A' k c) U) ∧ Crs W A' (cs.take k) := by
 have h1 : (0 : Int) ≤ (k : Int) := by omega
 have h3 : (k : Int) ≤ (c : Int) := by omega
 have h5 : (cs.length : Int) ≤ (c : Int) := by omega
 rcases h with rfl | ⟨g, o, rfl, R⟩
 ·obtain rfl : k = 0 := by simpa using hk
  refine ⟨if c = 0 then A else A.map (·.add (0 * 24)), fun z U hz => ?_, .inl rfl⟩
  subst hz
  go_simp
 ·refine ⟨some ⟨g, o, none⟩, fun z U hz => ?_, .inr ⟨g, o, rfl, R.1, fun i v hv => R.2 i v ?_⟩⟩
  ·subst hz
   have e : (⟨g, o, none⟩ : Addr).add (0 * 24) = ⟨g, o, none⟩ := by rw [addr_addO]; simp
   go_simp
  ·rw [← List.take_append_drop k cs, crtCells_append, List.getElem?_append_left (List.getElem?_eq_some_iff.1 hv).1]
   exact hv
theorem fa_chcase0 (g off : Nat) (W : World) : (Instr.fieldAt 36 (.pointer (some ⟨g, off, none⟩)) 0).run Tryz.prog W = .ok (.pointer (some ⟨g, off, none⟩)) W := by go_simp
theorem st_skipV {P : Program} {ops : Array Oper} {Q : Exit → Act → World → Prop} {Base : Act → Prop} {dst : Nat → Nat} {tags : Nat → Tg} {i : Nat} {o : Oper} {G : World → Prop} {j : Nat} {b c : Bool} {e : Edge} (hg : o.guard = some (j, b)) (he : e ∈ o.after) (heb : Region.binds .any e = true) (hej : e.on = j) (hT : tags j = tv (.bool c)) (hbc : c ≠ b) (hd : (ops[j]?).bind (·.dst) = some (dst j)) (ht : tags i = tv undef) :
  StepOk P ops Q Base dst (fun i v w => Sp (tags i) v w) G i o := by
 intro a w hb hdp hG K hK
 have h2 := hdp e he heb
 rw [hej, hT] at h2
 have h3 : a.tmps.getD (dst j) undef = .bool c := h2.now
 have hw : Region.wanted o (yielded ops a.tmps) = false := by
  simp only [Region.wanted, hg, yielded, hd, Option.bind_some, Option.bind_eq_bind]
  rw [Array.getD_eq_getD_getElem?] at h3
  cases h4 : a.tmps[dst j]? with
  | none => rfl
  | some v =>
   rw [h4] at h3
   obtain rfl : v = .bool c := h3
   simp [hbc]
 rw [if_neg (by rw [hw]; simp)]
 exact hK undef w (by show Sp (tags i) undef w; rw [ht]; exact Sp.tv rfl) (Sub.refl w) hG
theorem st_skipU {P : Program} {ops : Array Oper} {Q : Exit → Act → World → Prop} {Base : Act → Prop} {dst : Nat → Nat} {tags : Nat → Tg} {i : Nat} {o : Oper} {G : World → Prop} {j : Nat} {b : Bool} {e : Edge} (hg : o.guard = some (j, b)) (he : e ∈ o.after) (heb : Region.binds .any e = true) (hej : e.on = j) (hT : tags j = tv undef) (hd : (ops[j]?).bind (·.dst) = some (dst j)) (ht : tags i = tv undef) :
  StepOk P ops Q Base dst (fun i v w => Sp (tags i) v w) G i o := by
 intro a w hb hdp hG K hK
 have h2 := hdp e he heb
 rw [hej, hT] at h2
 have h3 : a.tmps.getD (dst j) undef = undef := h2.now
 have hw : Region.wanted o (yielded ops a.tmps) = false := by
  simp only [Region.wanted, hg, yielded, hd, Option.bind_some, Option.bind_eq_bind]
  rw [Array.getD_eq_getD_getElem?] at h3
  cases h4 : a.tmps[dst j]? with
  | none => rfl
  | some v =>
   rw [h4] at h3
   obtain rfl : v = undef := h3
   rfl
 rw [if_neg (by rw [hw]; simp)]
 exact hK undef w (by show Sp (tags i) undef w; rw [ht]; exact Sp.tv rfl) (Sub.refl w) hG
theorem st_bin {P : Program} {ops : Array Oper} {Q : Exit → Act → World → Prop} {Base : Act → Prop} {dst : Nat → Nat} {tags : Nat → Tg} {i : Nat} {o : Oper} {G : World → Prop} {x y : Operand} {V U R : Value} (hgd : o.guard = none) (hx : Src o Base dst tags G x (tv V)) (hy : Src o Base dst tags G y (tv U)) (hrun : ∀ a : Act, a.eval x = V → a.eval y = U → ∀ W, (execOp a.eval o).run P W = .ok (.value R) W) (ht : tags i = tv R) :
  StepOk P ops Q Base dst (fun i v w => Sp (tags i) v w) G i o :=
 st_run hgd fun a w hba hd hg => ⟨R, w, hrun a (hx a w hba hd hg).now (hy a w hba hd hg).now w, Sub.refl w, hg, by rw [ht]; exact Sp.tv rfl⟩
theorem cf_works (vs : Array Value) (w : World) : (callFunc 22 vs).run Tryz.prog w = .ok (.enter 22 vs) w := by kernel_rfl
theorem st_works {ops : Array Oper} {Q : Exit → Act → World → Prop} {Base : Act → Prop} {dst : Nat → Nat} {tags : Nat → Tg} {w0 : World} {i : Nat} {o : Oper} (hgd : o.guard = none) (ho : o.op = .call { callee := .value (.func 22), args := #[], argTypes := #[] }) (ht : tags i = tv (.bool true)) :
  StepOk Tryz.prog ops Q Base dst (fun i v w => Sp (tags i) v w) (fun w => Below w0.heap.size w0 w) i o :=
 st_call hgd (fun a W => run_call ho cf_works a W) fun a W hb hd hg => by
  have e0 : (#[] : Array Operand).map a.eval = #[] := by simp
  rw [e0]
  refine (works13_any W).mono ?_
  rintro e W' ⟨rfl, q⟩
  exact ⟨_, rfl, q, by rw [ht]; exact Sp.tv rfl⟩
section
variable {ops : Array Oper} {Q : Exit → Act → World → Prop} {Base : Act → Prop} {dst : Nat → Nat} {tags : Nat → Tg} {i : Nat} {o : Oper}
theorem st_sub {G : World → Prop} {m n : Int} (hgd : o.guard = none) (x y : Operand) (ho : o.op = .binOp .sub 3 x y 3) (ht : tags i = tv (.int .i64 (m - n))) (hx : Src o Base dst tags G x (tv (.int .i64 m))) (hy : Src o Base dst tags G y (tv (.int .i64 n))) (hr : -9223372036854775808 ≤ m - n ∧ m - n ≤ 9223372036854775807) :
  StepOk Tryz.prog ops Q Base dst (fun i v w => Sp (tags i) v w) G i o :=
 st_run hgd fun a w hba hd hg => by
  have h1 : a.eval x = .int .i64 m := (hx a w hba hd hg).now
  have h2 : a.eval y = .int .i64 n := (hy a w hba hd hg).now
  have hc : IntKind.i64.wrap (m - n) = m - n := IntWalk.i64_in _ (by omega)
  refine ⟨.int .i64 (m - n), w, ?_, Sub.refl w, hg, by rw [ht]; exact Sp.tv rfl⟩
  unfold execOp
  simp only [ho, h1, h2]
  go_simp
end
structure RowF (lf : Crt) (cs : List Crt) (tr : Crt → Bool) (L : List Crt) (b : Bool) : Prop where
 len : L.length ≤ 8
 is : b = decide (0 < L.length)
 last : ∀ (j : Nat) (d : Crt), L[j]? = some d → tr d = decide (j + 1 = L.length)
 mem : ∀ d ∈ L, d ∈ (hse lf cs).reach
 sign : ∀ (j : Nat) (c d : Crt), L[j]? = some c → L[j + 1]? = some d → sgB c d = true
 fit : ∀ (j : Nat) (d : Crt), L[j]? = some d → 0 < j → d.path < 0 ∨ (j : Int) - 1 ≤ d.path
 head : 0 < L.length → L.take 1 = [lf]
theorem row_facts {lf : Crt} {cs : List Crt} {tr : Crt → Bool} {r : Option (List Crt)} (hr : (hse lf cs).find tr = r) : RowF lf cs tr (r.getD []) r.isSome := by
 cases r with
 | none => exact ⟨by simp, rfl, fun j d h => by simp at h, fun d h => by simp at h, fun j c d h => by simp at h, fun j d h => by simp at h, fun h => by simp at h⟩
 | some r =>
  obtain ⟨l, L, h1, h2, rfl, h3, h4, h5, h6⟩ := Chn.find_spec (hse lf cs) hr
  have get : ∀ (j : Nat) (d : Crt), (L.map (hse lf cs).at)[j]? = some d → ∃ p, L[j]? = some p ∧ (hse lf cs).at p = d := fun j d h => by
   rw [List.getElem?_map, Option.map_eq_some_iff] at h
   exact h
  refine ⟨by simp; omega, by simp; omega, fun j d h => ?_, fun d h => ?_, fun j c d hc hd => ?_, fun j d h hj => ?_, fun _ => ?_⟩
  ·obtain ⟨p, hp, rfl⟩ := get j d h
   rw [(h5 j p hp).2]
   show decide (j = l) = decide (j + 1 = (L.map (hse lf cs).at).length)
   rw [List.length_map, h3]
   simp
  ·obtain ⟨p, hp, rfl⟩ := List.mem_map.1 h
   obtain ⟨j, hj⟩ := List.mem_iff_getElem?.1 hp
   have hl : j < L.length := (List.getElem?_eq_some_iff.1 hj).1
   exact (Chn.reach_mem _).2 ⟨j, by omega, p, (h5 j p hj).1, rfl⟩
  ·obtain ⟨p, hp, rfl⟩ := get j c hc
   obtain ⟨q, hq, rfl⟩ := get (j + 1) d hd
   exact h6 j p q hp hq
  ·obtain ⟨p, hp, rfl⟩ := get j d h
   obtain ⟨k, rfl⟩ : ∃ k, j = k + 1 := ⟨j - 1, by omega⟩
   have q := ((Chn.mem_lvl_succ _).1 (h5 _ p hp).1).2.1
   have q2 : (decide (((hse lf cs).at p).path < 0) || decide (((k + 1 : Nat) : Int) - 1 ≤ ((hse lf cs).at p).path)) = true := q
   simpa using q2
  ·obtain ⟨x, L', rfl⟩ : ∃ x L', L = x :: L' := by
    cases L with
    | nil => simp at h3
    | cons x L' => exact ⟨x, L', rfl⟩
   obtain rfl : x = -1 := by simpa using h4
   rfl
theorem ia_certZ (g off n c i : Nat) (z : Int) (hz : z = (i : Int)) (h : i < n) (W : World) : (Instr.indexAt 31 (.slice (some ⟨g, off, none⟩) n c) (.int .i64 z)).run Tryz.prog W = .ok (.pointer (some ⟨g, off + i * 24, none⟩)) W := by
 rw [hz]
 exact ia_cert g off n c i h W
def riT (b0 bp : Bool) (g1 o1 n1 c1 ix : Nat) (e d : Crt) : Nat → Tg
 | 0 => tv (.int .i64 (ix : Int))
 | 1 => tv (.bool b0)
 | 2 => tv (.bool b0)
 | 3 => bif b0 then tv (.slice (some ⟨g1, o1, none⟩) n1 c1) else tv undef
 | 4 => bif b0 then tv (.int .i64 (ix : Int)) else tv undef
 | 5 => bif b0 then tv (.int .i64 ((ix : Int) - 1)) else tv undef
 | 6 => bif b0 then tv (.pointer (some ⟨g1, o1 + (ix - 1) * 24, none⟩)) else tv undef
 | 7 => bif b0 then tv e.val else tv undef
 | 8 => bif b0 then tv (.slice (some ⟨g1, o1, none⟩) n1 c1) else tv undef
 | 9 => bif b0 then tv (.int .i64 (ix : Int)) else tv undef
 | 10 => bif b0 then tv (.pointer (some ⟨g1, o1 + ix * 24, none⟩)) else tv undef
 | 11 => bif b0 then tv d.val else tv undef
 | 12 => bif b0 then tv (.bool true) else tv undef
 | 13 => bif b0 then tv (.bool false) else tv undef
 | 14 => bif b0 then tv (.bool false) else tv undef
 | 15 => bif b0 then tv (.slice (some ⟨g1, o1, none⟩) n1 c1) else tv undef
 | 16 => bif b0 then tv (.int .i64 (ix : Int)) else tv undef
 | 17 => bif b0 then tv (.pointer (some ⟨g1, o1 + ix * 24, none⟩)) else tv undef
 | 18 => bif b0 then tv (.pointer (some ⟨g1, o1 + ix * 24 + 21, none⟩)) else tv undef
 | 19 => bif b0 then tv (.int .i64 d.path) else tv undef
 | 20 => bif b0 then tv (.bool bp) else tv undef
 | 21 => bif b0 then tv (.bool bp) else tv undef
 | 22 => bif (b0 && bp) then tv (.slice (some ⟨g1, o1, none⟩) n1 c1) else tv undef
 | 23 => bif (b0 && bp) then tv (.int .i64 (ix : Int)) else tv undef
 | 24 => bif (b0 && bp) then tv (.pointer (some ⟨g1, o1 + ix * 24, none⟩)) else tv undef
 | 25 => bif (b0 && bp) then tv (.pointer (some ⟨g1, o1 + ix * 24 + 21, none⟩)) else tv undef
 | 26 => bif (b0 && bp) then tv (.int .i64 d.path) else tv undef
 | 27 => bif (b0 && bp) then tv (.int .i64 (ix : Int)) else tv undef
 | 28 => bif (b0 && bp) then tv (.int .i64 ((ix : Int) - 1)) else tv undef
 | 29 => bif (b0 && bp) then tv (.bool false) else tv undef
 | 30 => bif b0 then tv (.bool false) else tv undef
 | 31 => bif b0 then tv (.bool false) else tv undef
 | _ => tv (.bool false)
def reT (b : Bool) (A1 : Option Addr) (n1 c1 g0 : Nat) (lf : Crt) : Nat → Tg
 | 0 => tv (.slice A1 n1 c1)
 | 1 => tv (.int .i64 (n1 : Int))
 | 2 => tv (.bool !b)
 | 3 => tv (.bool !b)
 | 4 => bif b then tv (.slice A1 n1 c1) else tv undef
 | 5 => bif b then tCr [lf] else tv undef
 | 6 => bif b then tv (.pointer (some ⟨g0, 0, none⟩)) else tv undef
 | 7 => bif b then tv lf.val else tv undef
 | 8 => bif b then tCr [lf] else tv undef
 | 9 => bif b then tv (.bool true) else tv undef
 | _ => tv (.bool true)
theorem rg140 : List.range 140 = [0, 1, 2, 3, 4, 5, 6, 7, 8, 9, 10, 11, 12, 13, 14, 15, 16, 17, 18, 19, 20, 21, 22, 23, 24, 25, 26, 27, 28, 29, 30, 31, 32, 33, 34, 35, 36, 37, 38, 39, 40, 41, 42, 43, 44, 45, 46, 47, 48, 49, 50, 51, 52, 53, 54, 55, 56, 57, 58, 59, 60, 61, 62, 63, 64, 65, 66, 67, 68, 69, 70, 71, 72, 73, 74, 75, 76, 77, 78, 79, 80, 81, 82, 83, 84, 85, 86, 87, 88, 89, 90, 91, 92, 93, 94, 95, 96, 97, 98, 99, 100, 101, 102, 103, 104, 105, 106, 107, 108, 109, 110, 111, 112, 113, 114, 115, 116, 117, 118, 119, 120, 121, 122, 123, 124, 125, 126, 127, 128, 129, 130, 131, 132, 133, 134, 135, 136, 137, 138, 139] := rfl
set_option maxRecDepth 100000 in
set_option maxHeartbeats 12800000 in
theorem cnRi_any (t : CIn) (w : World) (q : QCasec w t) : Calls Tryz.prog 14 #[.agg (CCasec t).toArray] w (RetW true w) := by
 obtain ⟨lf, ⟨pA, pc, cs⟩, ⟨tA, tc, ts⟩⟩ := t
 obtain ⟨L0, hL0⟩ : ∃ L, L = CCasec (lf, ⟨pA, pc, cs⟩, ⟨tA, tc, ts⟩) := ⟨_, rfl⟩
 rw [← hL0]
 obtain ⟨g0, hg0⟩ : ∃ g, g = w.heap.size := ⟨_, rfl⟩
 obtain ⟨w0, hw0⟩ : ∃ u, u = w.alloc (.cells L0.toArray 36) := ⟨_, rfl⟩
 have hE : Below w.heap.size w w0 := by rw [hw0]; exact (Below.refl _ _).alloc (Nat.le_refl _) _
 have B0 : Row w0 g0 0 L0 := by rw [hw0, hg0]; exact row_new _
 have CW : CaseW w0 g0 (lf, ⟨pA, pc, cs⟩, ⟨tA, tc, ts⟩) := ⟨by rw [← hL0]; exact B0, q.below hE⟩
 clear B0
 replace hL0 := Lib.hid hL0
 go_enter Tryz.func14, Tryz.ntmps14
 go_upto_region 1 with fail
 refine wp_world hw0 ?_
 rw [← hg0]
 clear hw0
 replace hg0 := Lib.hid hg0
 have lc : (Tryz.prog.info? 36).map (·.size) = some L0.length := by rw [hL0.out]; exact sz_case13 _
 have BL : Row w0 g0 0 L0 := by rw [hL0.out]; exact CW.row
 go_wp2_with ((with_reducible refine wpList_load_mid ?_ 36 (.tmp 1) ?_ g0 0 ?_ L0 _ BL.rng Tryz.underlying36 ?_ lc ?_); (· rfl); (· rfl); (· rfl); (· rfl))
 rw [show (Value.agg L0.toArray) = .agg (CCasec (lf, ⟨pA, pc, cs⟩, ⟨tA, tc, ts⟩)).toArray by rw [hL0.out]]
 refine (large13_any _ w0 CW.q).mono ?_
 clear BL lc
 rintro r1 w1 ⟨big, rfl, hsm, b⟩
 replace CW := CW.below b
 replace hE := hE.trans (b.mono hE.size)
 clear b hL0
 have k24 := CW.pool
 simp only at k24
 cases big
 case true =>
  go_wp2_with fail
  refine (works13_any _).mono ?_
  rintro r w' ⟨rfl, b⟩
  go_wp2_with fail
  go_ret
  exact ⟨rfl, hE.trans (b.mono hE.size)⟩
 case false =>
  replace hsm := hsm rfl
  have hl7 := hsm.1
  simp only at hl7
  have P1 : PoolOk w1 lf cs := CW.may hsm (fun c hc => List.mem_cons_of_mem _ hc) (by omega)
  obtain ⟨r1, hr1⟩ : ∃ r, r = (hse lf cs).find (trB ts) := ⟨_, rfl⟩
  have RF := row_facts hr1.symm
  have hiff : r1.isSome = (hse lf cs).reach.any (trB ts) := by rw [hr1]; exact Chn.find_iff _
  obtain ⟨L1, hL1⟩ : ∃ L, L = r1.getD [] := ⟨_, rfl⟩
  obtain ⟨b1, hb1⟩ : ∃ b, b = r1.isSome := ⟨_, rfl⟩
  obtain ⟨L3, hL3⟩ : ∃ L, L = (hse lf cs).reach := ⟨_, rfl⟩
  have hsub : ∀ d ∈ L1, d ∈ L3 := by rw [hL1, hL3]; exact RF.mem
  rw [← hb1, ← hL3] at hiff
  rw [← hL1, ← hb1] at RF
  have s3 : L3.length ≤ 1 + cs.length := by rw [hL3]; exact Chn.reach_len (H := hse lf cs)
  have okM : ∀ c ∈ L3, c ∈ lf :: cs := by rw [hL3]; exact reach_sub
  have hff := find_go P1 CW.crs (pc := pc) CW.anc
  have hfh := fun W (q : Below w1.heap.size w1 W) => reach_go (P1.below q) (CW.below q).crs (pc := pc)
  unfold FndP at hff
  unfold RchP at hfh
  rw [← hr1, ← hL1, ← hb1] at hff
  simp only [← hL3] at hfh
  unfold Crt.val at hff hfh
  replace hr1 := Lib.hid hr1
  replace hL1 := Lib.hid hL1
  replace hb1 := Lib.hid hb1
  replace hL3 := Lib.hid hL3
  replace hiff := Lib.hid hiff
  go_wp2_with ((with_reducible refine wpList_load_mid ?_ 30 (.tmp 13) ?_ g0 0 ?_ lf.cells _ CW.leaf.rng Tryz.underlying30 ?_ (sz_crt _) ?_); (· rfl); (· rfl); (· rfl); (· rfl))
  refine hff.mono ?_
  rintro e2 w2 ⟨b2, A1, c1, rfl, n1, m1, C1⟩
  have bz := b2
  replace hE := hE.trans (b2.mono hE.size)
  replace CW := CW.below b2
  have k24 := CW.pool
  simp only at k24
  clear hff b2
  go_wp2_with ((with_reducible refine wpList_load_mid ?_ 30 (.tmp 22) ?_ g0 0 ?_ lf.cells _ CW.leaf.rng Tryz.underlying30 ?_ (sz_crt _) ?_); (· rfl); (· rfl); (· rfl); (· rfl))
  refine (hfh w2 bz).mono ?_
  rintro e3 w3 ⟨b3, g3, c3, rfl, n3, m3, C3⟩
  replace hE := hE.trans (b3.mono hE.size)
  replace CW := CW.below b3
  replace C1 := C1.below b3
  clear hfh b3 bz P1 k24
  go_wp2_with fail
  go_loopw [6, 7] (fun t6 t7 wr => ∃ ix : Nat, t7 = .int .i64 (ix : Int) ∧ ix ≤ L3.length ∧ t6 = .bool ((L3.take ix).any (trB ts)) ∧ Below w3.heap.size w3 wr) (fun _ t _ => L3.length - (intOf t).toNat)
  case atStart => exact ⟨0, rfl, Nat.zero_le _, rfl, Below.refl _ _⟩
  case round =>
   obtain ⟨ix, rfl, hi, rfl, er⟩ := hrel
   have z1 : (ix : Int) ≤ 100 := by omega
   by_cases hlt : ix < L3.length
   ·have z2 : (ix : Int) < (L3.length : Int) := by omega
    obtain ⟨d, hd⟩ : ∃ d, L3[ix]? = some d := ⟨_, List.getElem?_eq_getElem hlt⟩
    obtain ⟨p, hp⟩ : ∃ p, p = (L3.take ix).any (trB ts) := ⟨_, rfl⟩
    have HT : (L3.take (ix + 1)).any (trB ts) = (p || trB ts d) := by rw [List.take_add_one, hd, List.any_append, hp]; simp
    rw [← hp]
    replace hp := Lib.hid hp
    replace HT := Lib.hid HT
    cases p
    case true =>
     go_wp2_with fail
     go_roundw
     case rel => exact ⟨ix + 1, by go_num, by omega, by rw [HT.out]; rfl, er⟩
     case measure =>
      simp [intOf]
      omega
    case false =>
     have Rd' := (crt_row C3 hd).below er
     rw [Nat.zero_add] at Rd'
     have od := (CW.below er).ok d (okM d (List.mem_of_getElem? hd))
     have hq := (CW.below er).anc.call _ d (Below.refl _ _) od
     simp only [List.push_toArray, List.append_toArray, List.cons_append, List.nil_append] at hq
     unfold Crt.val at hq
     go_wp2_with ((with_reducible refine wpList_load_if 30 (.tmp 38) ?_ g3 (ix * 24) d.cells _ Rd'.rng Tryz.underlying30 ?_ (sz_crt _) ?_ ?_ ?_); (· rfl); (· rfl); (· rfl); (· rfl))
     refine Calls.mono hq ?_
     rintro e4 w4 ⟨rfl, b4⟩
     clear hq od Rd'
     go_wp2_with fail
     go_roundw
     case rel => exact ⟨ix + 1, by go_num, by omega, by rw [HT.out]; rfl, er.trans (b4.mono er.size)⟩
     case measure =>
      simp [intOf]
      omega
   ·have z2 : ¬ (ix : Int) < (L3.length : Int) := by omega
    obtain rfl : ix = L3.length := by omega
    rw [List.take_length, ← hiff.out]
    replace hE := hE.trans (er.mono hE.size)
    replace CW := CW.below er
    replace C1 := C1.below er
    replace C3 := C3.below er
    have k24 := CW.pool
    simp only at k24
    have z4 : ¬ (8 : Int) < (L1.length : Int) := by have := RF.len; omega
    have z5 : ¬ 1 + (cs.length : Int) < (L3.length : Int) := by omega
    have z6 : (cs.length : Int) ≤ 7 := by omega
    have zb : (b1 != b1) = false := by cases b1 <;> rfl
    have zc : b1 = decide (0 < L1.length) := RF.is
    clear er
    go_upto_region 13 with fail
    clear zb zc z4 z5 z6 z1 z2 k24
    obtain ⟨wB, rfl⟩ : ∃ u, u = wr := ⟨_, rfl⟩
    go_loopw [8] (fun t wr => ∃ ix : Nat, t = .int .i64 (ix : Int) ∧ ix ≤ L1.length ∧ Below wB.heap.size wB wr) (fun t _ => L1.length - (intOf t).toNat)
    case atStart => exact ⟨0, rfl, Nat.zero_le _, Below.refl _ _⟩
    case round =>
     obtain ⟨ix, rfl, hi, er⟩ := hrel
     have z9 : (ix : Int) ≤ 8 := by have := RF.len; omega
     have zL : (L1.length : Int) ≤ 8 := by have := RF.len; omega
     by_cases hlt : ix < L1.length
     ·have z2 : (ix : Int) < (L1.length : Int) := by omega
      obtain ⟨d, hd⟩ : ∃ d, L1[ix]? = some d := ⟨_, List.getElem?_eq_getElem hlt⟩
      have dm := hsub d (List.mem_of_getElem? hd)
      obtain ⟨g1, o1, rfl, R1⟩ := C1.resolve_left (by rintro rfl; simp at hlt)
      have CWr := CW.below er
      have Rd' := (crt_row R1 hd).below er
      have od := CWr.ok d (okM d dm)
      have dsz := hsm.2.2 d (okM d dm)
      obtain ⟨q0, hq0⟩ : ∃ p, p = trB ts d := ⟨_, rfl⟩
      have hdec : q0 = decide ((ix : Int) = (L1.length : Int) - 1) := by
       rw [hq0, RF.last ix d hd]
       exact decide_eq_decide.2 ⟨fun h => by omega, fun h => by omega⟩
      have zq : (q0 != q0) = false := by cases q0 <;> rfl
      have hq := CWr.anc.call _ d (Below.refl _ _) od
      rw [← hq0] at hq
      replace hq0 := Lib.hid hq0
      simp only [List.push_toArray, List.append_toArray, List.cons_append, List.nil_append] at hq
      unfold Crt.val at hq
      go_wp2_with ((with_reducible refine wpList_load_mid ?_ 30 (.tmp 75) ?_ g1 (o1 + ix * 24) ?_ d.cells _ Rd'.rng Tryz.underlying30 ?_ (sz_crt _) ?_); (· rfl); (· rfl); (· rfl); (· rfl))
      refine Calls.mono hq ?_
      rintro e4 w4 ⟨rfl, b4⟩
      clear hq
      replace er := er.trans (b4.mono er.size)
      replace CWr := CWr.below b4
      replace Rd' := Rd'.below b4
      replace od := od.below b4
      have hq := within_any (W := w4) (A := some ⟨g3, 0, none⟩) (c := d) (.inr ⟨g3, 0, rfl, C3.below er⟩) n3 m3 od (fun x h => CWr.ok x (okM x h)) (by omega)
      rw [wiB_mem dm] at hq
      unfold Crt.val at hq
      go_wp2_with ((with_reducible refine wpList_load_if 30 (.tmp 87) ?_ g1 (o1 + ix * 24) d.cells _ Rd'.rng Tryz.underlying30 ?_ (sz_crt _) ?_ ?_ ?_); (· rfl); (· rfl); (· rfl); (· rfl))
      refine hq.mono ?_
      rintro e5 w5 ⟨rfl, b5⟩
      clear hq b4
      replace er := er.trans (b5.mono er.size)
      replace CWr := CWr.below b5
      replace Rd' := Rd'.below b5
      replace od := od.below b5
      clear b5 hdec zq
      go_upto_region 17 with fail
      by_cases hp0 : 0 < ix
      case neg =>
       have z0 : ¬ (0 : Int) < (ix : Int) := by omega
       obtain ⟨e, he⟩ : ∃ e : Crt, e = d := ⟨_, rfl⟩
       have hd0 : Below w5.heap.size w5 w5.drew := below_drewN (Below.refl _ _) 1
       refine wp_region_steps (by kernel_rfl) (fun i => 93 + i) (fun i v W => Sp ((riT false false g1 o1 L1.length c1 ix e d) i) v W) (fun W => Below w5.heap.size w5 W) (by kernel_rfl) (by kernel_rfl) ?inj ?lt (fun i v W W' h hs => h.mono hs) hd0 ⟨?s0, ?s1, ?s2, ?s3, ?s4, ?s5, ?s6, ?s7, ?s8, ?s9, ?s10, ?s11, ?s12, ?s13, ?s14, ?s15, ?s16, ?s17, ?s18, ?s19, ?s20, ?s21, ?s22, ?s23, ?s24, ?s25, ?s26, ?s27, ?s28, ?s29, ?s30, ?s31, ?s32, trivial⟩ ?fin
       case inj =>
        intro i j hi hj h
        have h40 : i < 33 ∧ j < 33 := ⟨hi, hj⟩
        have h : 93 + i = 93 + j := h
        omega
       case lt =>
        intro i hi
        have h40 : i < 33 := hi
        show 93 + i < 140
        omega
       case s0 => exact (st_move rfl (.inl rfl) (src_base (fun i hi => by have hi : i < 33 := hi; show 93 + i ≠ 8; omega) rfl))
       case s1 => exact (st_pure (V := .int .i64 (ix : Int)) (U := .bool false) rfl (src_dep (j := 0) (e := ⟨0, .data⟩) (by simp) rfl rfl rfl) (fun a h W => by
         have h : a.eval (.tmp 93) = .int .i64 (ix : Int) := h
         unfold execOp
         simp only [h]
         go_simp) (fun W hg => Sp.tv rfl))
       case s2 => exact (st_move rfl (.inl rfl) (src_dep (j := 1) (e := ⟨1, .data⟩) (by simp) rfl rfl rfl))
       case s3 => exact (st_skipV (j := 2) (b := true) (c := false) (e := ⟨2, .guard⟩) rfl (by simp) rfl rfl rfl (by decide) rfl rfl)
       case s4 => exact (st_skipV (j := 2) (b := true) (c := false) (e := ⟨2, .guard⟩) rfl (by simp) rfl rfl rfl (by decide) rfl rfl)
       case s5 => exact (st_skipV (j := 2) (b := true) (c := false) (e := ⟨2, .guard⟩) rfl (by simp) rfl rfl rfl (by decide) rfl rfl)
       case s6 => exact (st_skipV (j := 2) (b := true) (c := false) (e := ⟨2, .guard⟩) rfl (by simp) rfl rfl rfl (by decide) rfl rfl)
       case s7 => exact (st_skipV (j := 2) (b := true) (c := false) (e := ⟨2, .guard⟩) rfl (by simp) rfl rfl rfl (by decide) rfl rfl)
       case s8 => exact (st_skipV (j := 2) (b := true) (c := false) (e := ⟨2, .guard⟩) rfl (by simp) rfl rfl rfl (by decide) rfl rfl)
       case s9 => exact (st_skipV (j := 2) (b := true) (c := false) (e := ⟨2, .guard⟩) rfl (by simp) rfl rfl rfl (by decide) rfl rfl)
       case s10 => exact (st_skipV (j := 2) (b := true) (c := false) (e := ⟨2, .guard⟩) rfl (by simp) rfl rfl rfl (by decide) rfl rfl)
       case s11 => exact (st_skipV (j := 2) (b := true) (c := false) (e := ⟨2, .guard⟩) rfl (by simp) rfl rfl rfl (by decide) rfl rfl)
       case s12 => exact (st_skipV (j := 2) (b := true) (c := false) (e := ⟨2, .guard⟩) rfl (by simp) rfl rfl rfl (by decide) rfl rfl)
       case s13 => exact (st_skipV (j := 2) (b := true) (c := false) (e := ⟨2, .guard⟩) rfl (by simp) rfl rfl rfl (by decide) rfl rfl)
       case s14 => exact (st_skipV (j := 2) (b := true) (c := false) (e := ⟨2, .guard⟩) rfl (by simp) rfl rfl rfl (by decide) rfl rfl)
       case s15 => exact (st_skipU (j := 14) (b := false) (e := ⟨14, .guard⟩) rfl (by simp) rfl rfl rfl rfl rfl)
       case s16 => exact (st_skipU (j := 14) (b := false) (e := ⟨14, .guard⟩) rfl (by simp) rfl rfl rfl rfl rfl)
       case s17 => exact (st_skipU (j := 14) (b := false) (e := ⟨14, .guard⟩) rfl (by simp) rfl rfl rfl rfl rfl)
       case s18 => exact (st_skipU (j := 14) (b := false) (e := ⟨14, .guard⟩) rfl (by simp) rfl rfl rfl rfl rfl)
       case s19 => exact (st_skipU (j := 14) (b := false) (e := ⟨14, .guard⟩) rfl (by simp) rfl rfl rfl rfl rfl)
       case s20 => exact (st_skipU (j := 14) (b := false) (e := ⟨14, .guard⟩) rfl (by simp) rfl rfl rfl rfl rfl)
       case s21 => exact (st_skipU (j := 14) (b := false) (e := ⟨14, .guard⟩) rfl (by simp) rfl rfl rfl rfl rfl)
       case s22 => exact (st_skipU (j := 21) (b := true) (e := ⟨21, .guard⟩) rfl (by simp) rfl rfl rfl rfl rfl)
       case s23 => exact (st_skipU (j := 21) (b := true) (e := ⟨21, .guard⟩) rfl (by simp) rfl rfl rfl rfl rfl)
       case s24 => exact (st_skipU (j := 21) (b := true) (e := ⟨21, .guard⟩) rfl (by simp) rfl rfl rfl rfl rfl)
       case s25 => exact (st_skipU (j := 21) (b := true) (e := ⟨21, .guard⟩) rfl (by simp) rfl rfl rfl rfl rfl)
       case s26 => exact (st_skipU (j := 21) (b := true) (e := ⟨21, .guard⟩) rfl (by simp) rfl rfl rfl rfl rfl)
       case s27 => exact (st_skipU (j := 21) (b := true) (e := ⟨21, .guard⟩) rfl (by simp) rfl rfl rfl rfl rfl)
       case s28 => exact (st_skipU (j := 21) (b := true) (e := ⟨21, .guard⟩) rfl (by simp) rfl rfl rfl rfl rfl)
       case s29 => exact (st_skipU (j := 21) (b := true) (e := ⟨21, .guard⟩) rfl (by simp) rfl rfl rfl rfl rfl)
       case s30 => exact (st_skipU (j := 14) (b := false) (e := ⟨14, .guard⟩) rfl (by simp) rfl rfl rfl rfl rfl)
       case s31 => exact (st_skipV (j := 2) (b := true) (c := false) (e := ⟨2, .guard⟩) rfl (by simp) rfl rfl rfl (by decide) rfl rfl)
       case s32 => exact (st_pick_no rfl rfl (src_dep (j := 2) (e := ⟨2, .data⟩) (by simp) rfl rfl rfl) src_const)
       case fin =>
        intro a w6 h1 h2 h3 h4 h5
        have b125 : a.tmps.getD 125 undef = .bool false := (h4 32 (by show 32 < 33; omega)).now
        have hz : a.tmps.size = 140 := h2
        have hdf : a.defers = [] := h1
        have hb := fun (k : Nat) (hk : (k < 93 ∨ 125 < k)) => h3 k (fun i (h : i < 33) => by show (93 + i) ≠ k; omega)
        rw [act_eq hz hdf]
        simp only [rg140, List.map_cons, List.map_nil, b125, hb 0 (by decide), hb 1 (by decide), hb 2 (by decide), hb 3 (by decide), hb 4 (by decide), hb 5 (by decide), hb 6 (by decide), hb 7 (by decide), hb 8 (by decide), hb 9 (by decide), hb 10 (by decide), hb 11 (by decide), hb 12 (by decide), hb 13 (by decide), hb 14 (by decide), hb 15 (by decide), hb 16 (by decide), hb 17 (by decide), hb 18 (by decide), hb 19 (by decide), hb 20 (by decide), hb 21 (by decide), hb 22 (by decide), hb 23 (by decide), hb 24 (by decide), hb 25 (by decide), hb 26 (by decide), hb 27 (by decide), hb 28 (by decide), hb 29 (by decide), hb 30 (by decide), hb 31 (by decide), hb 32 (by decide), hb 33 (by decide), hb 34 (by decide), hb 35 (by decide), hb 36 (by decide), hb 37 (by decide), hb 38 (by decide), hb 39 (by decide), hb 40 (by decide), hb 41 (by decide), hb 42 (by decide), hb 43 (by decide), hb 44 (by decide), hb 45 (by decide), hb 46 (by decide), hb 47 (by decide), hb 48 (by decide), hb 49 (by decide), hb 50 (by decide), hb 51 (by decide), hb 52 (by decide), hb 53 (by decide), hb 54 (by decide), hb 55 (by decide), hb 56 (by decide), hb 57 (by decide), hb 58 (by decide), hb 59 (by decide), hb 60 (by decide), hb 61 (by decide), hb 62 (by decide), hb 63 (by decide), hb 64 (by decide), hb 65 (by decide), hb 66 (by decide), hb 67 (by decide), hb 68 (by decide), hb 69 (by decide), hb 70 (by decide), hb 71 (by decide), hb 72 (by decide), hb 73 (by decide), hb 74 (by decide), hb 75 (by decide), hb 76 (by decide), hb 77 (by decide), hb 78 (by decide), hb 79 (by decide), hb 80 (by decide), hb 81 (by decide), hb 82 (by decide), hb 83 (by decide), hb 84 (by decide), hb 85 (by decide), hb 86 (by decide), hb 87 (by decide), hb 88 (by decide), hb 89 (by decide), hb 90 (by decide), hb 91 (by decide), hb 92 (by decide), hb 126 (by decide), hb 127 (by decide), hb 128 (by decide), hb 129 (by decide), hb 130 (by decide), hb 131 (by decide), hb 132 (by decide), hb 133 (by decide), hb 134 (by decide), hb 135 (by decide), hb 136 (by decide), hb 137 (by decide), hb 138 (by decide), hb 139 (by decide)]
        simp only [Array.getD_eq_getD_getElem?, List.getElem?_toArray, List.getElem?_cons_succ, List.getElem?_cons_zero, Option.getD_some]
        clear b125
        clear hb hz hdf h1 h2 h3 h4
        replace er := er.trans (h5.mono er.size)
        go_wp2_with fail
        go_roundw
        case rel => exact ⟨ix + 1, by go_num, by omega, er⟩
        case measure =>
         simp [intOf]
         omega
      case pos =>
       have z0 : (0 : Int) < (ix : Int) := by omega
       by_cases hpp : 0 ≤ d.path
       case neg =>
        have zp : d.path < 0 := by omega
        obtain ⟨e, he⟩ : ∃ e : Crt, L1[ix - 1]? = some e := ⟨_, List.getElem?_eq_getElem (by omega)⟩
        have hsg : sgB e d = true := RF.sign (ix - 1) e d he (by rw [show ix - 1 + 1 = ix by omega]; exact hd)
        have em := okM e (hsub e (List.mem_of_getElem? he))
        have esz := hsm.2.2 e em
        have oe := CWr.ok e em
        have Re' := (crt_row R1 he).below er
        have hz1 : (ix : Int) - 1 = ((ix - 1 : Nat) : Int) := by omega
        replace hz1 := Lib.hid hz1
        have hd0 : Below w5.heap.size w5 w5.drew := below_drewN (Below.refl _ _) 1
        refine wp_region_steps (by kernel_rfl) (fun i => 93 + i) (fun i v W => Sp ((riT true false g1 o1 L1.length c1 ix e d) i) v W) (fun W => Below w5.heap.size w5 W) (by kernel_rfl) (by kernel_rfl) ?inj ?lt (fun i v W W' h hs => h.mono hs) hd0 ⟨?s0, ?s1, ?s2, ?s3, ?s4, ?s5, ?s6, ?s7, ?s8, ?s9, ?s10, ?s11, ?s12, ?s13, ?s14, ?s15, ?s16, ?s17, ?s18, ?s19, ?s20, ?s21, ?s22, ?s23, ?s24, ?s25, ?s26, ?s27, ?s28, ?s29, ?s30, ?s31, ?s32, trivial⟩ ?fin
        case inj =>
         intro i j hi hj h
         have h40 : i < 33 ∧ j < 33 := ⟨hi, hj⟩
         have h : 93 + i = 93 + j := h
         omega
        case lt =>
         intro i hi
         have h40 : i < 33 := hi
         show 93 + i < 140
         omega
        case s0 => exact (st_move rfl (.inl rfl) (src_base (fun i hi => by have hi : i < 33 := hi; show 93 + i ≠ 8; omega) rfl))
        case s1 => exact (st_pure (V := .int .i64 (ix : Int)) (U := .bool true) rfl (src_dep (j := 0) (e := ⟨0, .data⟩) (by simp) rfl rfl rfl) (fun a h W => by
          have h : a.eval (.tmp 93) = .int .i64 (ix : Int) := h
          unfold execOp
          simp only [h]
          go_simp) (fun W hg => Sp.tv rfl))
        case s2 => exact (st_move rfl (.inl rfl) (src_dep (j := 1) (e := ⟨1, .data⟩) (by simp) rfl rfl rfl))
        case s3 => exact (st_guard (j := 2) (b := true) (e := ⟨2, .guard⟩) rfl (by simp) rfl rfl rfl rfl (st_move rfl (.inl rfl) (src_base (fun i hi => by have hi : i < 33 := hi; show 93 + i ≠ 3; omega) rfl)))
        case s4 => exact (st_guard (j := 2) (b := true) (e := ⟨2, .guard⟩) rfl (by simp) rfl rfl rfl rfl (st_move rfl (.inl rfl) (src_base (fun i hi => by have hi : i < 33 := hi; show 93 + i ≠ 8; omega) rfl)))
        case s5 => exact (st_guard (j := 2) (b := true) (e := ⟨2, .guard⟩) rfl (by simp) rfl rfl rfl rfl (st_sub rfl (.tmp 97) (.const (.int .i64 1)) rfl rfl (src_dep (j := 4) (e := ⟨4, .data⟩) (by simp) rfl rfl rfl) src_const (by omega)))
        case s6 => exact (st_guard (j := 2) (b := true) (e := ⟨2, .guard⟩) rfl (by simp) rfl rfl rfl rfl (st_index rfl rfl rfl (src_dep (j := 3) (e := ⟨3, .data⟩) (by simp) rfl rfl rfl) (src_dep (j := 5) (e := ⟨5, .data⟩) (by simp) rfl rfl rfl) (fun W => ia_certZ g1 o1 L1.length c1 (ix - 1) _ hz1.out (by omega) W)))
        case s7 => exact (st_guard (j := 2) (b := true) (e := ⟨2, .guard⟩) rfl (by simp) rfl rfl rfl rfl (st_loadR (b := g1) (off := (o1 + (ix - 1) * 24)) rfl rfl rfl (src_dep (j := 6) (e := ⟨6, .data⟩) (by simp) rfl rfl rfl) Tryz.underlying30 rfl (sz_crt _) (fun W h => (Re'.below h).rng)))
        case s8 => exact (st_guard (j := 2) (b := true) (e := ⟨2, .guard⟩) rfl (by simp) rfl rfl rfl rfl (st_move rfl (.inl rfl) (src_base (fun i hi => by have hi : i < 33 := hi; show 93 + i ≠ 3; omega) rfl)))
        case s9 => exact (st_guard (j := 2) (b := true) (e := ⟨2, .guard⟩) rfl (by simp) rfl rfl rfl rfl (st_move rfl (.inl rfl) (src_base (fun i hi => by have hi : i < 33 := hi; show 93 + i ≠ 8; omega) rfl)))
        case s10 => exact (st_guard (j := 2) (b := true) (e := ⟨2, .guard⟩) rfl (by simp) rfl rfl rfl rfl (st_index rfl rfl rfl (src_dep (j := 8) (e := ⟨8, .data⟩) (by simp) rfl rfl rfl) (src_dep (j := 9) (e := ⟨9, .data⟩) (by simp) rfl rfl rfl) (fun W => ia_cert g1 o1 L1.length c1 ix hlt W)))
        case s11 => exact (st_guard (j := 2) (b := true) (e := ⟨2, .guard⟩) rfl (by simp) rfl rfl rfl rfl (st_loadR (b := g1) (off := (o1 + ix * 24)) rfl rfl rfl (src_dep (j := 10) (e := ⟨10, .data⟩) (by simp) rfl rfl rfl) Tryz.underlying30 rfl (sz_crt _) (fun W h => (Rd'.below h).rng)))
        case s12 => exact (st_guard (j := 2) (b := true) (e := ⟨2, .guard⟩) rfl (by simp) rfl rfl rfl rfl (st_signed (c := e) (d := d) rfl (.tmp 100) (.tmp 104) _ rfl true hsg rfl (src_dep (j := 7) (e := ⟨7, .data⟩) (by simp) rfl rfl rfl) (src_dep (j := 11) (e := ⟨11, .data⟩) (by simp) rfl rfl rfl) oe od (Nat.le_trans esz.1 (by decide)) (Nat.le_trans dsz.2 (by decide))))
        case s13 => exact (st_guard (j := 2) (b := true) (e := ⟨2, .guard⟩) rfl (by simp) rfl rfl rfl rfl (st_pure (V := .bool true) (U := .bool false) rfl (src_dep (j := 12) (e := ⟨12, .data⟩) (by simp) rfl rfl rfl) (fun a h W => by
           have h : a.eval (.tmp 105) = .bool true := h
           unfold execOp
           simp only [h]
           rfl) (fun W hg => Sp.tv rfl)))
        case s14 => exact (st_guard (j := 2) (b := true) (e := ⟨2, .guard⟩) rfl (by simp) rfl rfl rfl rfl (st_move rfl (.inl rfl) (src_dep (j := 13) (e := ⟨13, .data⟩) (by simp) rfl rfl rfl)))
        case s15 => exact (st_guard (j := 14) (b := false) (e := ⟨14, .guard⟩) rfl (by simp) rfl rfl rfl rfl (st_move rfl (.inl rfl) (src_base (fun i hi => by have hi : i < 33 := hi; show 93 + i ≠ 3; omega) rfl)))
        case s16 => exact (st_guard (j := 14) (b := false) (e := ⟨14, .guard⟩) rfl (by simp) rfl rfl rfl rfl (st_move rfl (.inl rfl) (src_base (fun i hi => by have hi : i < 33 := hi; show 93 + i ≠ 8; omega) rfl)))
        case s17 => exact (st_guard (j := 14) (b := false) (e := ⟨14, .guard⟩) rfl (by simp) rfl rfl rfl rfl (st_index rfl rfl rfl (src_dep (j := 15) (e := ⟨15, .data⟩) (by simp) rfl rfl rfl) (src_dep (j := 16) (e := ⟨16, .data⟩) (by simp) rfl rfl rfl) (fun W => ia_cert g1 o1 L1.length c1 ix hlt W)))
        case s18 => exact (st_guard (j := 14) (b := false) (e := ⟨14, .guard⟩) rfl (by simp) rfl rfl rfl rfl (st_field rfl rfl rfl (src_dep (j := 17) (e := ⟨17, .data⟩) (by simp) rfl rfl rfl) (fun W => fa_cert10 g1 (o1 + ix * 24) W)))
        case s19 => exact (st_guard (j := 14) (b := false) (e := ⟨14, .guard⟩) rfl (by simp) rfl rfl rfl rfl (st_load rfl rfl rfl (src_dep (j := 18) (e := ⟨18, .data⟩) (by simp) rfl rfl rfl) (ld_int _ _) (fun W h => (Rd'.below h).cell (i := 21) rfl)))
        case s20 => exact (st_guard (j := 14) (b := false) (e := ⟨14, .guard⟩) rfl (by simp) rfl rfl rfl rfl (st_pure (V := .int .i64 d.path) (U := .bool false) rfl (src_dep (j := 19) (e := ⟨19, .data⟩) (by simp) rfl rfl rfl) (fun a h W => by
          have h : a.eval (.tmp 112) = .int .i64 d.path := h
          unfold execOp
          simp only [h]
          go_simp) (fun W hg => Sp.tv rfl)))
        case s21 => exact (st_guard (j := 14) (b := false) (e := ⟨14, .guard⟩) rfl (by simp) rfl rfl rfl rfl (st_move rfl (.inl rfl) (src_dep (j := 20) (e := ⟨20, .data⟩) (by simp) rfl rfl rfl)))
        case s22 => exact (st_skipV (j := 21) (b := true) (c := false) (e := ⟨21, .guard⟩) rfl (by simp) rfl rfl rfl (by decide) rfl rfl)
        case s23 => exact (st_skipV (j := 21) (b := true) (c := false) (e := ⟨21, .guard⟩) rfl (by simp) rfl rfl rfl (by decide) rfl rfl)
        case s24 => exact (st_skipV (j := 21) (b := true) (c := false) (e := ⟨21, .guard⟩) rfl (by simp) rfl rfl rfl (by decide) rfl rfl)
        case s25 => exact (st_skipV (j := 21) (b := true) (c := false) (e := ⟨21, .guard⟩) rfl (by simp) rfl rfl rfl (by decide) rfl rfl)
        case s26 => exact (st_skipV (j := 21) (b := true) (c := false) (e := ⟨21, .guard⟩) rfl (by simp) rfl rfl rfl (by decide) rfl rfl)
        case s27 => exact (st_skipV (j := 21) (b := true) (c := false) (e := ⟨21, .guard⟩) rfl (by simp) rfl rfl rfl (by decide) rfl rfl)
        case s28 => exact (st_skipV (j := 21) (b := true) (c := false) (e := ⟨21, .guard⟩) rfl (by simp) rfl rfl rfl (by decide) rfl rfl)
        case s29 => exact (st_skipV (j := 21) (b := true) (c := false) (e := ⟨21, .guard⟩) rfl (by simp) rfl rfl rfl (by decide) rfl rfl)
        case s30 => exact (st_guard (j := 14) (b := false) (e := ⟨14, .guard⟩) rfl (by simp) rfl rfl rfl rfl (st_pick_no rfl rfl (src_dep (j := 21) (e := ⟨21, .data⟩) (by simp) rfl rfl rfl) src_const))
        case s31 => exact (st_guard (j := 2) (b := true) (e := ⟨2, .guard⟩) rfl (by simp) rfl rfl rfl rfl (st_pick_no rfl rfl (src_dep (j := 14) (e := ⟨14, .data⟩) (by simp) rfl rfl rfl) (src_dep (j := 30) (e := ⟨30, .data⟩) (by simp) rfl rfl rfl)))
        case s32 => exact (st_pick rfl rfl (src_dep (j := 2) (e := ⟨2, .data⟩) (by simp) rfl rfl rfl) (src_dep (j := 31) (e := ⟨31, .data⟩) (by simp) rfl rfl rfl))
        case fin =>
         intro a w6 h1 h2 h3 h4 h5
         have b125 : a.tmps.getD 125 undef = .bool false := (h4 32 (by show 32 < 33; omega)).now
         have hz : a.tmps.size = 140 := h2
         have hdf : a.defers = [] := h1
         have hb := fun (k : Nat) (hk : (k < 93 ∨ 125 < k)) => h3 k (fun i (h : i < 33) => by show (93 + i) ≠ k; omega)
         rw [act_eq hz hdf]
         simp only [rg140, List.map_cons, List.map_nil, b125, hb 0 (by decide), hb 1 (by decide), hb 2 (by decide), hb 3 (by decide), hb 4 (by decide), hb 5 (by decide), hb 6 (by decide), hb 7 (by decide), hb 8 (by decide), hb 9 (by decide), hb 10 (by decide), hb 11 (by decide), hb 12 (by decide), hb 13 (by decide), hb 14 (by decide), hb 15 (by decide), hb 16 (by decide), hb 17 (by decide), hb 18 (by decide), hb 19 (by decide), hb 20 (by decide), hb 21 (by decide), hb 22 (by decide), hb 23 (by decide), hb 24 (by decide), hb 25 (by decide), hb 26 (by decide), hb 27 (by decide), hb 28 (by decide), hb 29 (by decide), hb 30 (by decide), hb 31 (by decide), hb 32 (by decide), hb 33 (by decide), hb 34 (by decide), hb 35 (by decide), hb 36 (by decide), hb 37 (by decide), hb 38 (by decide), hb 39 (by decide), hb 40 (by decide), hb 41 (by decide), hb 42 (by decide), hb 43 (by decide), hb 44 (by decide), hb 45 (by decide), hb 46 (by decide), hb 47 (by decide), hb 48 (by decide), hb 49 (by decide), hb 50 (by decide), hb 51 (by decide), hb 52 (by decide), hb 53 (by decide), hb 54 (by decide), hb 55 (by decide), hb 56 (by decide), hb 57 (by decide), hb 58 (by decide), hb 59 (by decide), hb 60 (by decide), hb 61 (by decide), hb 62 (by decide), hb 63 (by decide), hb 64 (by decide), hb 65 (by decide), hb 66 (by decide), hb 67 (by decide), hb 68 (by decide), hb 69 (by decide), hb 70 (by decide), hb 71 (by decide), hb 72 (by decide), hb 73 (by decide), hb 74 (by decide), hb 75 (by decide), hb 76 (by decide), hb 77 (by decide), hb 78 (by decide), hb 79 (by decide), hb 80 (by decide), hb 81 (by decide), hb 82 (by decide), hb 83 (by decide), hb 84 (by decide), hb 85 (by decide), hb 86 (by decide), hb 87 (by decide), hb 88 (by decide), hb 89 (by decide), hb 90 (by decide), hb 91 (by decide), hb 92 (by decide), hb 126 (by decide), hb 127 (by decide), hb 128 (by decide), hb 129 (by decide), hb 130 (by decide), hb 131 (by decide), hb 132 (by decide), hb 133 (by decide), hb 134 (by decide), hb 135 (by decide), hb 136 (by decide), hb 137 (by decide), hb 138 (by decide), hb 139 (by decide)]
         simp only [Array.getD_eq_getD_getElem?, List.getElem?_toArray, List.getElem?_cons_succ, List.getElem?_cons_zero, Option.getD_some]
         clear b125
         clear hb hz hdf h1 h2 h3 h4
         replace er := er.trans (h5.mono er.size)
         go_wp2_with fail
         go_roundw
         case rel => exact ⟨ix + 1, by go_num, by omega, er⟩
         case measure =>
          simp [intOf]
          omega
       case pos =>
        obtain ⟨e, he⟩ : ∃ e : Crt, L1[ix - 1]? = some e := ⟨_, List.getElem?_eq_getElem (by omega)⟩
        have hsg : sgB e d = true := RF.sign (ix - 1) e d he (by rw [show ix - 1 + 1 = ix by omega]; exact hd)
        have em := okM e (hsub e (List.mem_of_getElem? he))
        have esz := hsm.2.2 e em
        have oe := CWr.ok e em
        have Re' := (crt_row R1 he).below er
        have hz1 : (ix : Int) - 1 = ((ix - 1 : Nat) : Int) := by omega
        replace hz1 := Lib.hid hz1
        have hfit : ¬ d.path < (ix : Int) - 1 := by rcases RF.fit ix d hd hp0 with h | h <;> omega
        have hd0 : Below w5.heap.size w5 w5.drew := below_drewN (Below.refl _ _) 1
        refine wp_region_steps (by kernel_rfl) (fun i => 93 + i) (fun i v W => Sp ((riT true true g1 o1 L1.length c1 ix e d) i) v W) (fun W => Below w5.heap.size w5 W) (by kernel_rfl) (by kernel_rfl) ?inj ?lt (fun i v W W' h hs => h.mono hs) hd0 ⟨?s0, ?s1, ?s2, ?s3, ?s4, ?s5, ?s6, ?s7, ?s8, ?s9, ?s10, ?s11, ?s12, ?s13, ?s14, ?s15, ?s16, ?s17, ?s18, ?s19, ?s20, ?s21, ?s22, ?s23, ?s24, ?s25, ?s26, ?s27, ?s28, ?s29, ?s30, ?s31, ?s32, trivial⟩ ?fin
        case inj =>
         intro i j hi hj h
         have h40 : i < 33 ∧ j < 33 := ⟨hi, hj⟩
         have h : 93 + i = 93 + j := h
         omega
        case lt =>
         intro i hi
         have h40 : i < 33 := hi
         show 93 + i < 140
         omega
        case s0 => exact (st_move rfl (.inl rfl) (src_base (fun i hi => by have hi : i < 33 := hi; show 93 + i ≠ 8; omega) rfl))
        case s1 => exact (st_pure (V := .int .i64 (ix : Int)) (U := .bool true) rfl (src_dep (j := 0) (e := ⟨0, .data⟩) (by simp) rfl rfl rfl) (fun a h W => by
          have h : a.eval (.tmp 93) = .int .i64 (ix : Int) := h
          unfold execOp
          simp only [h]
          go_simp) (fun W hg => Sp.tv rfl))
        case s2 => exact (st_move rfl (.inl rfl) (src_dep (j := 1) (e := ⟨1, .data⟩) (by simp) rfl rfl rfl))
        case s3 => exact (st_guard (j := 2) (b := true) (e := ⟨2, .guard⟩) rfl (by simp) rfl rfl rfl rfl (st_move rfl (.inl rfl) (src_base (fun i hi => by have hi : i < 33 := hi; show 93 + i ≠ 3; omega) rfl)))
        case s4 => exact (st_guard (j := 2) (b := true) (e := ⟨2, .guard⟩) rfl (by simp) rfl rfl rfl rfl (st_move rfl (.inl rfl) (src_base (fun i hi => by have hi : i < 33 := hi; show 93 + i ≠ 8; omega) rfl)))
        case s5 => exact (st_guard (j := 2) (b := true) (e := ⟨2, .guard⟩) rfl (by simp) rfl rfl rfl rfl (st_sub rfl (.tmp 97) (.const (.int .i64 1)) rfl rfl (src_dep (j := 4) (e := ⟨4, .data⟩) (by simp) rfl rfl rfl) src_const (by omega)))
        case s6 => exact (st_guard (j := 2) (b := true) (e := ⟨2, .guard⟩) rfl (by simp) rfl rfl rfl rfl (st_index rfl rfl rfl (src_dep (j := 3) (e := ⟨3, .data⟩) (by simp) rfl rfl rfl) (src_dep (j := 5) (e := ⟨5, .data⟩) (by simp) rfl rfl rfl) (fun W => ia_certZ g1 o1 L1.length c1 (ix - 1) _ hz1.out (by omega) W)))
        case s7 => exact (st_guard (j := 2) (b := true) (e := ⟨2, .guard⟩) rfl (by simp) rfl rfl rfl rfl (st_loadR (b := g1) (off := (o1 + (ix - 1) * 24)) rfl rfl rfl (src_dep (j := 6) (e := ⟨6, .data⟩) (by simp) rfl rfl rfl) Tryz.underlying30 rfl (sz_crt _) (fun W h => (Re'.below h).rng)))
        case s8 => exact (st_guard (j := 2) (b := true) (e := ⟨2, .guard⟩) rfl (by simp) rfl rfl rfl rfl (st_move rfl (.inl rfl) (src_base (fun i hi => by have hi : i < 33 := hi; show 93 + i ≠ 3; omega) rfl)))
        case s9 => exact (st_guard (j := 2) (b := true) (e := ⟨2, .guard⟩) rfl (by simp) rfl rfl rfl rfl (st_move rfl (.inl rfl) (src_base (fun i hi => by have hi : i < 33 := hi; show 93 + i ≠ 8; omega) rfl)))
        case s10 => exact (st_guard (j := 2) (b := true) (e := ⟨2, .guard⟩) rfl (by simp) rfl rfl rfl rfl (st_index rfl rfl rfl (src_dep (j := 8) (e := ⟨8, .data⟩) (by simp) rfl rfl rfl) (src_dep (j := 9) (e := ⟨9, .data⟩) (by simp) rfl rfl rfl) (fun W => ia_cert g1 o1 L1.length c1 ix hlt W)))
        case s11 => exact (st_guard (j := 2) (b := true) (e := ⟨2, .guard⟩) rfl (by simp) rfl rfl rfl rfl (st_loadR (b := g1) (off := (o1 + ix * 24)) rfl rfl rfl (src_dep (j := 10) (e := ⟨10, .data⟩) (by simp) rfl rfl rfl) Tryz.underlying30 rfl (sz_crt _) (fun W h => (Rd'.below h).rng)))
        case s12 => exact (st_guard (j := 2) (b := true) (e := ⟨2, .guard⟩) rfl (by simp) rfl rfl rfl rfl (st_signed (c := e) (d := d) rfl (.tmp 100) (.tmp 104) _ rfl true hsg rfl (src_dep (j := 7) (e := ⟨7, .data⟩) (by simp) rfl rfl rfl) (src_dep (j := 11) (e := ⟨11, .data⟩) (by simp) rfl rfl rfl) oe od (Nat.le_trans esz.1 (by decide)) (Nat.le_trans dsz.2 (by decide))))
        case s13 => exact (st_guard (j := 2) (b := true) (e := ⟨2, .guard⟩) rfl (by simp) rfl rfl rfl rfl (st_pure (V := .bool true) (U := .bool false) rfl (src_dep (j := 12) (e := ⟨12, .data⟩) (by simp) rfl rfl rfl) (fun a h W => by
           have h : a.eval (.tmp 105) = .bool true := h
           unfold execOp
           simp only [h]
           rfl) (fun W hg => Sp.tv rfl)))
        case s14 => exact (st_guard (j := 2) (b := true) (e := ⟨2, .guard⟩) rfl (by simp) rfl rfl rfl rfl (st_move rfl (.inl rfl) (src_dep (j := 13) (e := ⟨13, .data⟩) (by simp) rfl rfl rfl)))
        case s15 => exact (st_guard (j := 14) (b := false) (e := ⟨14, .guard⟩) rfl (by simp) rfl rfl rfl rfl (st_move rfl (.inl rfl) (src_base (fun i hi => by have hi : i < 33 := hi; show 93 + i ≠ 3; omega) rfl)))
        case s16 => exact (st_guard (j := 14) (b := false) (e := ⟨14, .guard⟩) rfl (by simp) rfl rfl rfl rfl (st_move rfl (.inl rfl) (src_base (fun i hi => by have hi : i < 33 := hi; show 93 + i ≠ 8; omega) rfl)))
        case s17 => exact (st_guard (j := 14) (b := false) (e := ⟨14, .guard⟩) rfl (by simp) rfl rfl rfl rfl (st_index rfl rfl rfl (src_dep (j := 15) (e := ⟨15, .data⟩) (by simp) rfl rfl rfl) (src_dep (j := 16) (e := ⟨16, .data⟩) (by simp) rfl rfl rfl) (fun W => ia_cert g1 o1 L1.length c1 ix hlt W)))
        case s18 => exact (st_guard (j := 14) (b := false) (e := ⟨14, .guard⟩) rfl (by simp) rfl rfl rfl rfl (st_field rfl rfl rfl (src_dep (j := 17) (e := ⟨17, .data⟩) (by simp) rfl rfl rfl) (fun W => fa_cert10 g1 (o1 + ix * 24) W)))
        case s19 => exact (st_guard (j := 14) (b := false) (e := ⟨14, .guard⟩) rfl (by simp) rfl rfl rfl rfl (st_load rfl rfl rfl (src_dep (j := 18) (e := ⟨18, .data⟩) (by simp) rfl rfl rfl) (ld_int _ _) (fun W h => (Rd'.below h).cell (i := 21) rfl)))
        case s20 => exact (st_guard (j := 14) (b := false) (e := ⟨14, .guard⟩) rfl (by simp) rfl rfl rfl rfl (st_pure (V := .int .i64 d.path) (U := .bool true) rfl (src_dep (j := 19) (e := ⟨19, .data⟩) (by simp) rfl rfl rfl) (fun a h W => by
          have h : a.eval (.tmp 112) = .int .i64 d.path := h
          unfold execOp
          simp only [h]
          go_simp) (fun W hg => Sp.tv rfl)))
        case s21 => exact (st_guard (j := 14) (b := false) (e := ⟨14, .guard⟩) rfl (by simp) rfl rfl rfl rfl (st_move rfl (.inl rfl) (src_dep (j := 20) (e := ⟨20, .data⟩) (by simp) rfl rfl rfl)))
        case s22 => exact (st_guard (j := 21) (b := true) (e := ⟨21, .guard⟩) rfl (by simp) rfl rfl rfl rfl (st_move rfl (.inl rfl) (src_base (fun i hi => by have hi : i < 33 := hi; show 93 + i ≠ 3; omega) rfl)))
        case s23 => exact (st_guard (j := 21) (b := true) (e := ⟨21, .guard⟩) rfl (by simp) rfl rfl rfl rfl (st_move rfl (.inl rfl) (src_base (fun i hi => by have hi : i < 33 := hi; show 93 + i ≠ 8; omega) rfl)))
        case s24 => exact (st_guard (j := 21) (b := true) (e := ⟨21, .guard⟩) rfl (by simp) rfl rfl rfl rfl (st_index rfl rfl rfl (src_dep (j := 22) (e := ⟨22, .data⟩) (by simp) rfl rfl rfl) (src_dep (j := 23) (e := ⟨23, .data⟩) (by simp) rfl rfl rfl) (fun W => ia_cert g1 o1 L1.length c1 ix hlt W)))
        case s25 => exact (st_guard (j := 21) (b := true) (e := ⟨21, .guard⟩) rfl (by simp) rfl rfl rfl rfl (st_field rfl rfl rfl (src_dep (j := 24) (e := ⟨24, .data⟩) (by simp) rfl rfl rfl) (fun W => fa_cert10 g1 (o1 + ix * 24) W)))
        case s26 => exact (st_guard (j := 21) (b := true) (e := ⟨21, .guard⟩) rfl (by simp) rfl rfl rfl rfl (st_load rfl rfl rfl (src_dep (j := 25) (e := ⟨25, .data⟩) (by simp) rfl rfl rfl) (ld_int _ _) (fun W h => (Rd'.below h).cell (i := 21) rfl)))
        case s27 => exact (st_guard (j := 21) (b := true) (e := ⟨21, .guard⟩) rfl (by simp) rfl rfl rfl rfl (st_move rfl (.inl rfl) (src_base (fun i hi => by have hi : i < 33 := hi; show 93 + i ≠ 8; omega) rfl)))
        case s28 => exact (st_guard (j := 21) (b := true) (e := ⟨21, .guard⟩) rfl (by simp) rfl rfl rfl rfl (st_sub rfl (.tmp 120) (.const (.int .i64 1)) rfl rfl (src_dep (j := 27) (e := ⟨27, .data⟩) (by simp) rfl rfl rfl) src_const (by omega)))
        case s29 => exact (st_guard (j := 21) (b := true) (e := ⟨21, .guard⟩) rfl (by simp) rfl rfl rfl rfl (st_bin (x := .tmp 119) (y := .tmp 121) rfl (src_dep (j := 26) (e := ⟨26, .data⟩) (by simp) rfl rfl rfl) (src_dep (j := 28) (e := ⟨28, .data⟩) (by simp) rfl rfl rfl) (fun a h1 h2 W => by
          have h1 : a.eval (.tmp 119) = .int .i64 d.path := h1
          have h2 : a.eval (.tmp 121) = .int .i64 ((ix : Int) - 1) := h2
          unfold execOp
          simp only [h1, h2]
          go_simp) rfl))
        case s30 => exact (st_guard (j := 14) (b := false) (e := ⟨14, .guard⟩) rfl (by simp) rfl rfl rfl rfl (st_pick rfl rfl (src_dep (j := 21) (e := ⟨21, .data⟩) (by simp) rfl rfl rfl) (src_dep (j := 29) (e := ⟨29, .data⟩) (by simp) rfl rfl rfl)))
        case s31 => exact (st_guard (j := 2) (b := true) (e := ⟨2, .guard⟩) rfl (by simp) rfl rfl rfl rfl (st_pick_no rfl rfl (src_dep (j := 14) (e := ⟨14, .data⟩) (by simp) rfl rfl rfl) (src_dep (j := 30) (e := ⟨30, .data⟩) (by simp) rfl rfl rfl)))
        case s32 => exact (st_pick rfl rfl (src_dep (j := 2) (e := ⟨2, .data⟩) (by simp) rfl rfl rfl) (src_dep (j := 31) (e := ⟨31, .data⟩) (by simp) rfl rfl rfl))
        case fin =>
         intro a w6 h1 h2 h3 h4 h5
         have b125 : a.tmps.getD 125 undef = .bool false := (h4 32 (by show 32 < 33; omega)).now
         have hz : a.tmps.size = 140 := h2
         have hdf : a.defers = [] := h1
         have hb := fun (k : Nat) (hk : (k < 93 ∨ 125 < k)) => h3 k (fun i (h : i < 33) => by show (93 + i) ≠ k; omega)
         rw [act_eq hz hdf]
         simp only [rg140, List.map_cons, List.map_nil, b125, hb 0 (by decide), hb 1 (by decide), hb 2 (by decide), hb 3 (by decide), hb 4 (by decide), hb 5 (by decide), hb 6 (by decide), hb 7 (by decide), hb 8 (by decide), hb 9 (by decide), hb 10 (by decide), hb 11 (by decide), hb 12 (by decide), hb 13 (by decide), hb 14 (by decide), hb 15 (by decide), hb 16 (by decide), hb 17 (by decide), hb 18 (by decide), hb 19 (by decide), hb 20 (by decide), hb 21 (by decide), hb 22 (by decide), hb 23 (by decide), hb 24 (by decide), hb 25 (by decide), hb 26 (by decide), hb 27 (by decide), hb 28 (by decide), hb 29 (by decide), hb 30 (by decide), hb 31 (by decide), hb 32 (by decide), hb 33 (by decide), hb 34 (by decide), hb 35 (by decide), hb 36 (by decide), hb 37 (by decide), hb 38 (by decide), hb 39 (by decide), hb 40 (by decide), hb 41 (by decide), hb 42 (by decide), hb 43 (by decide), hb 44 (by decide), hb 45 (by decide), hb 46 (by decide), hb 47 (by decide), hb 48 (by decide), hb 49 (by decide), hb 50 (by decide), hb 51 (by decide), hb 52 (by decide), hb 53 (by decide), hb 54 (by decide), hb 55 (by decide), hb 56 (by decide), hb 57 (by decide), hb 58 (by decide), hb 59 (by decide), hb 60 (by decide), hb 61 (by decide), hb 62 (by decide), hb 63 (by decide), hb 64 (by decide), hb 65 (by decide), hb 66 (by decide), hb 67 (by decide), hb 68 (by decide), hb 69 (by decide), hb 70 (by decide), hb 71 (by decide), hb 72 (by decide), hb 73 (by decide), hb 74 (by decide), hb 75 (by decide), hb 76 (by decide), hb 77 (by decide), hb 78 (by decide), hb 79 (by decide), hb 80 (by decide), hb 81 (by decide), hb 82 (by decide), hb 83 (by decide), hb 84 (by decide), hb 85 (by decide), hb 86 (by decide), hb 87 (by decide), hb 88 (by decide), hb 89 (by decide), hb 90 (by decide), hb 91 (by decide), hb 92 (by decide), hb 126 (by decide), hb 127 (by decide), hb 128 (by decide), hb 129 (by decide), hb 130 (by decide), hb 131 (by decide), hb 132 (by decide), hb 133 (by decide), hb 134 (by decide), hb 135 (by decide), hb 136 (by decide), hb 137 (by decide), hb 138 (by decide), hb 139 (by decide)]
         simp only [Array.getD_eq_getD_getElem?, List.getElem?_toArray, List.getElem?_cons_succ, List.getElem?_cons_zero, Option.getD_some]
         clear b125
         clear hb hz hdf h1 h2 h3 h4
         replace er := er.trans (h5.mono er.size)
         go_wp2_with fail
         go_roundw
         case rel => exact ⟨ix + 1, by go_num, by omega, er⟩
         case measure =>
          simp [intOf]
          omega
     ·have z2 : ¬ (ix : Int) < (L1.length : Int) := by omega
      replace hE := hE.trans (er.mono hE.size)
      replace CW := CW.below er
      replace C1 := C1.below er
      clear er C3
      go_upto_region 19 with fail
      by_cases h0 : 0 < L1.length
      case pos =>
       have z0 : ¬ (L1.length : Int) = 0 := by omega
       have hne : ¬ L1 = [] := by rintro rfl; simp at h0
       obtain ⟨AH, hTr, CH⟩ := crs_take (k := 1) C1 (by omega) n1 m1
       rw [RF.head (by omega)] at CH
       have olf : lf.ok _ := CW.ok lf (by simp)
       have hd0 : Below wr.heap.size wr wr.drew := below_drewN (Below.refl _ _) 1
       refine wp_region_steps (by kernel_rfl) (fun i => if i = 14 then 2 else 126 + i) (fun i v W => Sp ((reT true A1 L1.length c1 g0 lf) i) v W) (fun W => Below wr.heap.size wr W) (by kernel_rfl) (by kernel_rfl) ?inj ?lt (fun i v W W' h hs => h.mono hs) hd0 ⟨?s0, ?s1, ?s2, ?s3, ?s4, ?s5, ?s6, ?s7, ?s8, ?s9, ?s10, ?s11, ?s12, ?s13, ?s14, trivial⟩ ?fin
       case inj =>
        intro i j hi hj h
        have h40 : i < 15 ∧ j < 15 := ⟨hi, hj⟩
        have h : (if i = 14 then 2 else 126 + i) = (if j = 14 then 2 else 126 + j) := h
        (repeat' split at h) <;> omega
       case lt =>
        intro i hi
        have h40 : i < 15 := hi
        show (if i = 14 then 2 else 126 + i) < 140
        (repeat' split) <;> omega
       case s0 => exact (st_move rfl (.inl rfl) (src_base (fun i hi => by have hi : i < 15 := hi; show (if i = 14 then 2 else 126 + i) ≠ 3; split <;> omega) rfl))
       case s1 => exact (st_pure (V := .slice A1 L1.length c1) (U := .int .i64 (L1.length : Int)) rfl (src_dep (j := 0) (e := ⟨0, .data⟩) (by simp) rfl rfl rfl) (fun a h W => by
         have h3 : (#[.tmp 126] : Array Operand).map a.eval = #[.slice A1 L1.length c1] := by simp only [List.map_toArray, List.map_cons, List.map_nil]; exact congrArg (fun v => #[v]) h
         unfold execOp
         simp only [h3]
         go_simp) (fun W hg => Sp.tv rfl))
       case s2 => exact (st_pure (V := .int .i64 (L1.length : Int)) (U := .bool false) rfl (src_dep (j := 1) (e := ⟨1, .data⟩) (by simp) rfl rfl rfl) (fun a h W => by
         have h : a.eval (.tmp 127) = .int .i64 (L1.length : Int) := h
         unfold execOp
         simp only [h]
         go_simp) (fun W hg => Sp.tv rfl))
       case s3 => exact (st_move rfl (.inl rfl) (src_dep (j := 2) (e := ⟨2, .data⟩) (by simp) rfl rfl rfl))
       case s4 => exact (st_guard (j := 3) (b := false) (e := ⟨3, .guard⟩) rfl (by simp) rfl rfl rfl rfl (st_move rfl (.inl rfl) (src_base (fun i hi => by have hi : i < 15 := hi; show (if i = 14 then 2 else 126 + i) ≠ 3; split <;> omega) rfl)))
       case s5 => exact (st_guard (j := 3) (b := false) (e := ⟨3, .guard⟩) rfl (by simp) rfl rfl rfl rfl (st_run rfl fun a U hba hdp hg => by
         have h1 : a.eval (.tmp 130) = .slice A1 L1.length c1 := (hdp ⟨4, .data⟩ (by simp) rfl).now
         have hrun := hTr 1 U rfl
         refine ⟨.slice AH 1 c1, U, ?_, Sub.refl U, hg, Sp.tCr (L := [lf]) (by show 1 ≤ _; omega) m1 (CH.below hg)⟩
         unfold execOp
         have h2 : (some (Operand.const (.int .i64 1))).map a.eval = some (.int .i64 1) := rfl
         simp only [h1, h2, Option.map_none]
         first | exact congrArg _ hrun | (simp only [Sem.run_bind, hrun]; rfl) | go_simp))
       case s6 => exact (st_guard (j := 3) (b := false) (e := ⟨3, .guard⟩) rfl (by simp) rfl rfl rfl rfl (st_field rfl rfl rfl (src_base (fun i hi => by have hi : i < 15 := hi; show (if i = 14 then 2 else 126 + i) ≠ _; (repeat' split) <;> omega) rfl) (fun W => fa_chcase0 g0 0 W)))
       case s7 => exact (st_guard (j := 3) (b := false) (e := ⟨3, .guard⟩) rfl (by simp) rfl rfl rfl rfl (st_loadR (b := g0) (off := 0) rfl rfl rfl (src_dep (j := 6) (e := ⟨6, .data⟩) (by simp) rfl rfl rfl) Tryz.underlying30 rfl (sz_crt _) (fun W h => (CW.leaf.below h).rng)))
       case s8 => exact (st_guard (j := 3) (b := false) (e := ⟨3, .guard⟩) rfl (by simp) rfl rfl rfl rfl (st_cert1 rfl (.tmp 133) rfl rfl (src_dep (j := 7) (e := ⟨7, .data⟩) (by simp) rfl rfl rfl)))
       case s9 => exact (st_guard (j := 3) (b := false) (e := ⟨3, .guard⟩) rfl (by simp) rfl rfl rfl rfl (st_same (cs := [lf]) (ds := [lf]) rfl (.tmp 131) (.tmp 134) _ rfl true (decide_eq_true rfl) rfl (src_dep (j := 5) (e := ⟨5, .data⟩) (by simp) rfl rfl rfl) (src_dep (j := 8) (e := ⟨8, .data⟩) (by simp) rfl rfl rfl) (fun x hx => by rw [List.mem_singleton.1 hx]; exact olf) (fun x hx => by rw [List.mem_singleton.1 hx]; exact olf) (by simp)))
       case s10 => exact (st_pick_no rfl rfl (src_dep (j := 3) (e := ⟨3, .data⟩) (by simp) rfl rfl rfl) (src_dep (j := 9) (e := ⟨9, .data⟩) (by simp) rfl rfl rfl))
       case s11 => exact (st_move rfl (.inl rfl) (src_dep (j := 10) (e := ⟨10, .data⟩) (by simp) rfl rfl rfl))
       case s12 => exact (st_guard (j := 11) (b := true) (e := ⟨11, .guard⟩) rfl (by simp) rfl rfl rfl rfl (st_works rfl rfl rfl))
       case s13 => exact (st_pick rfl rfl (src_dep (j := 11) (e := ⟨11, .data⟩) (by simp) rfl rfl rfl) (src_dep (j := 12) (e := ⟨12, .data⟩) (by simp) rfl rfl rfl))
       case s14 => exact (st_move rfl (.inr rfl) (src_dep (j := 13) (e := ⟨13, .data⟩) (by simp) rfl rfl rfl))
       case fin =>
        intro a w6 h1 h2 h3 h4 h5
        have b2 : a.tmps.getD 2 undef = .bool true := (h4 14 (by show 14 < 15; omega)).now
        have hz : a.tmps.size = 140 := h2
        have hdf : a.defers = [] := h1
        rw [act_eq hz hdf]
        simp only [rg140, List.map_cons, List.map_nil, b2]
        clear b2 hz hdf h1 h2 h3 h4
        replace hE := hE.trans (h5.mono hE.size)
        go_wp2_with fail
        go_ret
        exact ⟨rfl, hE⟩
      case neg =>
       have z0 : (L1.length : Int) = 0 := by omega
       have hd0 : Below wr.heap.size wr wr.drew := below_drewN (Below.refl _ _) 1
       refine wp_region_steps (by kernel_rfl) (fun i => if i = 14 then 2 else 126 + i) (fun i v W => Sp ((reT false A1 L1.length c1 g0 lf) i) v W) (fun W => Below wr.heap.size wr W) (by kernel_rfl) (by kernel_rfl) ?inj ?lt (fun i v W W' h hs => h.mono hs) hd0 ⟨?s0, ?s1, ?s2, ?s3, ?s4, ?s5, ?s6, ?s7, ?s8, ?s9, ?s10, ?s11, ?s12, ?s13, ?s14, trivial⟩ ?fin
       case inj =>
        intro i j hi hj h
        have h40 : i < 15 ∧ j < 15 := ⟨hi, hj⟩
        have h : (if i = 14 then 2 else 126 + i) = (if j = 14 then 2 else 126 + j) := h
        (repeat' split at h) <;> omega
       case lt =>
        intro i hi
        have h40 : i < 15 := hi
        show (if i = 14 then 2 else 126 + i) < 140
        (repeat' split) <;> omega
       case s0 => exact (st_move rfl (.inl rfl) (src_base (fun i hi => by have hi : i < 15 := hi; show (if i = 14 then 2 else 126 + i) ≠ 3; split <;> omega) rfl))
       case s1 => exact (st_pure (V := .slice A1 L1.length c1) (U := .int .i64 (L1.length : Int)) rfl (src_dep (j := 0) (e := ⟨0, .data⟩) (by simp) rfl rfl rfl) (fun a h W => by
         have h3 : (#[.tmp 126] : Array Operand).map a.eval = #[.slice A1 L1.length c1] := by simp only [List.map_toArray, List.map_cons, List.map_nil]; exact congrArg (fun v => #[v]) h
         unfold execOp
         simp only [h3]
         go_simp) (fun W hg => Sp.tv rfl))
       case s2 => exact (st_pure (V := .int .i64 (L1.length : Int)) (U := .bool true) rfl (src_dep (j := 1) (e := ⟨1, .data⟩) (by simp) rfl rfl rfl) (fun a h W => by
         have h : a.eval (.tmp 127) = .int .i64 (L1.length : Int) := h
         unfold execOp
         simp only [h]
         go_simp) (fun W hg => Sp.tv rfl))
       case s3 => exact (st_move rfl (.inl rfl) (src_dep (j := 2) (e := ⟨2, .data⟩) (by simp) rfl rfl rfl))
       case s4 => exact (st_skipV (j := 3) (b := false) (c := true) (e := ⟨3, .guard⟩) rfl (by simp) rfl rfl rfl (by decide) rfl rfl)
       case s5 => exact (st_skipV (j := 3) (b := false) (c := true) (e := ⟨3, .guard⟩) rfl (by simp) rfl rfl rfl (by decide) rfl rfl)
       case s6 => exact (st_skipV (j := 3) (b := false) (c := true) (e := ⟨3, .guard⟩) rfl (by simp) rfl rfl rfl (by decide) rfl rfl)
       case s7 => exact (st_skipV (j := 3) (b := false) (c := true) (e := ⟨3, .guard⟩) rfl (by simp) rfl rfl rfl (by decide) rfl rfl)
       case s8 => exact (st_skipV (j := 3) (b := false) (c := true) (e := ⟨3, .guard⟩) rfl (by simp) rfl rfl rfl (by decide) rfl rfl)
       case s9 => exact (st_skipV (j := 3) (b := false) (c := true) (e := ⟨3, .guard⟩) rfl (by simp) rfl rfl rfl (by decide) rfl rfl)
       case s10 => exact (st_pick rfl rfl (src_dep (j := 3) (e := ⟨3, .data⟩) (by simp) rfl rfl rfl) src_const)
       case s11 => exact (st_move rfl (.inl rfl) (src_dep (j := 10) (e := ⟨10, .data⟩) (by simp) rfl rfl rfl))
       case s12 => exact (st_guard (j := 11) (b := true) (e := ⟨11, .guard⟩) rfl (by simp) rfl rfl rfl rfl (st_works rfl rfl rfl))
       case s13 => exact (st_pick rfl rfl (src_dep (j := 11) (e := ⟨11, .data⟩) (by simp) rfl rfl rfl) (src_dep (j := 12) (e := ⟨12, .data⟩) (by simp) rfl rfl rfl))
       case s14 => exact (st_move rfl (.inr rfl) (src_dep (j := 13) (e := ⟨13, .data⟩) (by simp) rfl rfl rfl))
       case fin =>
        intro a w6 h1 h2 h3 h4 h5
        have b2 : a.tmps.getD 2 undef = .bool true := (h4 14 (by show 14 < 15; omega)).now
        have hz : a.tmps.size = 140 := h2
        have hdf : a.defers = [] := h1
        rw [act_eq hz hdf]
        simp only [rg140, List.map_cons, List.map_nil, b2]
        clear b2 hz hdf h1 h2 h3 h4
        replace hE := hE.trans (h5.mono hE.size)
        go_wp2_with fail
        go_ret
        exact ⟨rfl, hE⟩
end Go.Proofs.YtchaahnhpeoomaaGreat
