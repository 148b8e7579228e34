/-
 The statement ChainMore: one more certificate, or one more who is trusted, loses nobody.
-/
import Derived.Test.YtchaahnhpeoomaaGreatPCnOt
namespace Go.Proofs.YtchaahnhpeoomaaGreat
set_option linter.unusedVariables false
set_option linter.unusedSimpArgs false
set_option maxRecDepth 20000
open Go.RowKit
theorem own_form {W : World} {B n size : Nat} {e : TypeId} {v : Value} {xs : List Value} (h : W.ownsRow B e size v n xs) : ∃ A c, v = .slice A n c ∧ n ≤ c ∧ c ≤ 9223372036854775807 ∧ (n = 0 ∨ ∃ g, A = some ⟨g, 0, none⟩ ∧ B ≤ g ∧ Row W g 0 xs) := by
 rcases h.2 with ⟨h1, h2⟩ | ⟨g, cap, cur, h1, hB, h3, h4, h5, h6, h7⟩
 ·subst h2
  exact ⟨none, 0, h1, Nat.le_refl _, Nat.zero_le _, .inl rfl⟩
 ·refine ⟨_, cap, h1, h4, h5, .inr ⟨g, rfl, hB, heap_lt h3, fun i u hu => ?_⟩⟩
  have hi : i < n * size := by rw [← h.1]; exact (List.getElem?_eq_some_iff.1 hu).1
  rw [← h7, List.getElem?_take_of_lt hi] at hu
  rw [Nat.zero_add]
  simp [World.cell?, h3, by simpa using hu]
theorem info_mat : (Tryz.prog.info? 22).map (fun i => (i.zero, i.size, i.bytes)) = some (some (.slice none 0 0), 1, 24) := by kernel_rfl
abbrev vals (ts : List Sl) : List Value := (ts.map fun s => [s.val]).flatten
theorem vals_len (ts : List Sl) : (vals ts).length = ts.length * 1 := by
 induction ts with
 | nil => rfl
 | cons s ts ih =>
  show ([s.val] ++ vals ts).length = _
  rw [List.length_append, ih]
  simp
  omega
theorem vals_one (ts : List Sl) : ∀ u ∈ vals ts, u.oneCell' = true := fun u hu => by
 simp only [vals, List.mem_flatten, List.mem_map] at hu
 obtain ⟨l, ⟨s, _, rfl⟩, h⟩ := hu
 rw [List.mem_singleton.1 h]
 rfl
theorem fa_chcase0 (g off : Nat) (W : World) : (Instr.fieldAt 36 (.pointer (some ⟨g, off, none⟩)) 0).run Tryz.prog W = .ok (.pointer (some ⟨g, off, none⟩)) W := by go_simp
theorem fa_chcase1 (g off : Nat) (W : World) : (Instr.fieldAt 36 (.pointer (some ⟨g, off, none⟩)) 1).run Tryz.prog W = .ok (.pointer (some ⟨g, off + 24, none⟩)) W := by go_simp
theorem st_skipV {P : Program} {ops : Array Oper} {Q : Exit → Act → World → Prop} {Base : Act → Prop} {dst : Nat → Nat} {tags : Nat → Tg} {i : Nat} {o : Oper} {G : World → Prop} {j : Nat} {b c : Bool} {e : Edge} (hg : o.guard = some (j, b)) (he : e ∈ o.after) (heb : Region.binds .any e = true) (hej : e.on = j) (hT : tags j = tv (.bool c)) (hbc : c ≠ b) (hd : (ops[j]?).bind (·.dst) = some (dst j)) (ht : tags i = tv undef) :
  StepOk P ops Q Base dst (fun i v w => Sp (tags i) v w) G i o := by
 intro a w hb hdp hG K hK
 have h2 := hdp e he heb
 rw [hej, hT] at h2
 have h3 : a.tmps.getD (dst j) undef = .bool c := h2.now
 have hw : Region.wanted o (yielded ops a.tmps) = false := by
  simp only [Region.wanted, hg, yielded, hd, Option.bind_some, Option.bind_eq_bind]
  rw [Array.getD_eq_getD_getElem?] at h3
  cases h4 : a.tmps[dst j]? with
  | none => rfl
  | some v =>
   rw [h4] at h3
   obtain rfl : v = .bool c := h3
   simp [hbc]
 rw [if_neg (by rw [hw]; simp)]
 exact hK undef w (by show Sp (tags i) undef w; rw [ht]; exact Sp.tv rfl) (Sub.refl w) hG
theorem st_skipU {P : Program} {ops : Array Oper} {Q : Exit → Act → World → Prop} {Base : Act → Prop} {dst : Nat → Nat} {tags : Nat → Tg} {i : Nat} {o : Oper} {G : World → Prop} {j : Nat} {b : Bool} {e : Edge} (hg : o.guard = some (j, b)) (he : e ∈ o.after) (heb : Region.binds .any e = true) (hej : e.on = j) (hT : tags j = tv undef) (hd : (ops[j]?).bind (·.dst) = some (dst j)) (ht : tags i = tv undef) :
  StepOk P ops Q Base dst (fun i v w => Sp (tags i) v w) G i o := by
 intro a w hb hdp hG K hK
 have h2 := hdp e he heb
 rw [hej, hT] at h2
 have h3 : a.tmps.getD (dst j) undef = undef := h2.now
 have hw : Region.wanted o (yielded ops a.tmps) = false := by
  simp only [Region.wanted, hg, yielded, hd, Option.bind_some, Option.bind_eq_bind]
  rw [Array.getD_eq_getD_getElem?] at h3
  cases h4 : a.tmps[dst j]? with
  | none => rfl
  | some v =>
   rw [h4] at h3
   obtain rfl : v = undef := h3
   rfl
 rw [if_neg (by rw [hw]; simp)]
 exact hK undef w (by show Sp (tags i) undef w; rw [ht]; exact Sp.tv rfl) (Sub.refl w) hG
theorem st_bin {P : Program} {ops : Array Oper} {Q : Exit → Act → World → Prop} {Base : Act → Prop} {dst : Nat → Nat} {tags : Nat → Tg} {i : Nat} {o : Oper} {G : World → Prop} {x y : Operand} {V U R : Value} (hgd : o.guard = none) (hx : Src o Base dst tags G x (tv V)) (hy : Src o Base dst tags G y (tv U)) (hrun : ∀ a : Act, a.eval x = V → a.eval y = U → ∀ W, (execOp a.eval o).run P W = .ok (.value R) W) (ht : tags i = tv R) :
  StepOk P ops Q Base dst (fun i v w => Sp (tags i) v w) G i o :=
 st_run hgd fun a w hba hd hg => ⟨R, w, hrun a (hx a w hba hd hg).now (hy a w hba hd hg).now w, Sub.refl w, hg, by rw [ht]; exact Sp.tv rfl⟩
theorem cf_works (vs : Array Value) (w : World) : (callFunc 22 vs).run Tryz.prog w = .ok (.enter 22 vs) w := by kernel_rfl
theorem st_works {ops : Array Oper} {Q : Exit → Act → World → Prop} {Base : Act → Prop} {dst : Nat → Nat} {tags : Nat → Tg} {w0 : World} {i : Nat} {o : Oper} (hgd : o.guard = none) (ho : o.op = .call { callee := .value (.func 22), args := #[], argTypes := #[] }) (ht : tags i = tv (.bool true)) :
  StepOk Tryz.prog ops Q Base dst (fun i v w => Sp (tags i) v w) (fun w => Below w0.heap.size w0 w) i o :=
 st_call hgd (fun a W => run_call ho cf_works a W) fun a W hb hd hg => by
  have e0 : (#[] : Array Operand).map a.eval = #[] := by simp
  rw [e0]
  refine (works13_any W).mono ?_
  rintro e W' ⟨rfl, q⟩
  exact ⟨_, rfl, q, by rw [ht]; exact Sp.tv rfl⟩
def moT (b1 : Bool) (g0 : Nat) (A1 A2 pA : Option Addr) (n1 n2 n c1 c2 pc : Nat) (lf : Crt) (p2 cs L3 L4 : List Crt) : Nat → Tg
 | 0 => tv (.bool b1)
 | 1 => tv (.bool !b1)
 | 2 => tv (.bool !b1)
 | 3 => bif b1 then tv (.bool true) else tv undef
 | 4 => bif b1 then tv (.bool true) else tv undef
 | 5 => bif b1 then tv (.slice A2 n2 c2) else tv undef
 | 6 => bif b1 then tv (.int .i64 (n2 : Int)) else tv undef
 | 7 => bif b1 then tv (.slice A1 n1 c1) else tv undef
 | 8 => bif b1 then tv (.int .i64 (n1 : Int)) else tv undef
 | 9 => bif b1 then tv (.bool true) else tv undef
 | 10 => bif b1 then tv (.bool true) else tv undef
 | 13 => tv (.pointer (some ⟨g0, 0, none⟩))
 | 14 => tv lf.val
 | 15 => tCr p2
 | 16 => tCr L4
 | 17 => tv (.int .i64 (L4.length : Int))
 | 18 => tv (.pointer (some ⟨g0, 0, none⟩))
 | 19 => tv lf.val
 | 20 => tv (.pointer (some ⟨g0, 0 + 24, none⟩))
 | 21 => tv (.slice pA n pc)
 | 22 => tCr L3
 | 23 => tv (.int .i64 (L3.length : Int))
 | _ => tv (.bool true)
theorem rg104 : List.range 104 = [0, 1, 2, 3, 4, 5, 6, 7, 8, 9, 10, 11, 12, 13, 14, 15, 16, 17, 18, 19, 20, 21, 22, 23, 24, 25, 26, 27, 28, 29, 30, 31, 32, 33, 34, 35, 36, 37, 38, 39, 40, 41, 42, 43, 44, 45, 46, 47, 48, 49, 50, 51, 52, 53, 54, 55, 56, 57, 58, 59, 60, 61, 62, 63, 64, 65, 66, 67, 68, 69, 70, 71, 72, 73, 74, 75, 76, 77, 78, 79, 80, 81, 82, 83, 84, 85, 86, 87, 88, 89, 90, 91, 92, 93, 94, 95, 96, 97, 98, 99, 100, 101, 102, 103] := rfl
set_option maxRecDepth 100000 in
set_option maxHeartbeats 12800000 in
theorem cnMo_any (t : CIn) (c : Crt) (s : Sl) (w : World) (q : QCasec w t) (qc : CrtIn w c) (qs : s.ok w) : Calls Tryz.prog 4 #[.agg (CCasec t).toArray, .agg c.cells.toArray, s.val] w (RetW true w) := by
 obtain ⟨lf, ⟨pA, pc, cs⟩, ⟨tA, tc, ts⟩⟩ := t
 obtain ⟨L0, hL0⟩ : ∃ L, L = CCasec (lf, ⟨pA, pc, cs⟩, ⟨tA, tc, ts⟩) := ⟨_, rfl⟩
 rw [← hL0]
 obtain ⟨g0, hg0⟩ : ∃ g, g = w.heap.size := ⟨_, rfl⟩
 obtain ⟨u0, hu0⟩ : ∃ u, u = w.alloc (.cells L0.toArray 36) := ⟨_, rfl⟩
 obtain ⟨w0, hw0⟩ : ∃ u, u = u0.alloc (.cells c.cells.toArray 30) := ⟨_, rfl⟩
 obtain ⟨gb, hgb⟩ : ∃ g, g = w.heap.size + 1 := ⟨_, rfl⟩
 have hu1 : u0.heap.size = gb := by rw [hu0, hgb]; simp
 have eu : Below w.heap.size w u0 := by rw [hu0]; exact (Below.refl _ _).alloc (Nat.le_refl _) _
 have ev : Below u0.heap.size u0 w0 := by rw [hw0]; exact (Below.refl _ _).alloc (Nat.le_refl _) _
 have hE : Below w.heap.size w w0 := eu.trans (ev.mono eu.size)
 have B0 : Row u0 g0 0 L0 := by rw [hu0, hg0]; exact row_new _
 replace B0 := B0.below ev
 have B1 : Row w0 gb 0 c.cells := by rw [hw0, ← hu1]; exact row_new _
 have CW : CaseW w0 g0 (lf, ⟨pA, pc, cs⟩, ⟨tA, tc, ts⟩) := ⟨by rw [← hL0]; exact B0, q.below hE⟩
 clear B0
 replace hL0 := Lib.hid hL0
 go_enter Tryz.func4, Tryz.ntmps4
 go_upto_region 1 with fail
 refine wp_world (W' := w0) (by rw [hw0, hu0]) ?_
 rw [← hgb, ← hg0]
 clear hw0 hu0 eu ev hu1
 replace hgb := Lib.hid hgb
 replace hg0 := Lib.hid hg0
 have lc : (Tryz.prog.info? 36).map (·.size) = some L0.length := by rw [hL0.out]; exact sz_case13 _
 have BL : Row w0 g0 0 L0 := by rw [hL0.out]; exact CW.row
 go_wp2_with ((with_reducible refine wpList_load_mid ?_ 36 (.tmp 3) ?_ g0 0 ?_ L0 _ BL.rng Tryz.underlying36 ?_ lc ?_); (· rfl); (· rfl); (· rfl); (· rfl))
 rw [show (Value.agg L0.toArray) = .agg (CCasec (lf, ⟨pA, pc, cs⟩, ⟨tA, tc, ts⟩)).toArray by rw [hL0.out]]
 refine (large13_any _ w0 CW.q).mono ?_
 clear BL lc
 rintro r1 w1 ⟨big, rfl, hsm, b⟩
 replace CW := CW.below b
 replace B1 := B1.below b
 replace hE := hE.trans (b.mono hE.size)
 clear b hL0
 have k24 := CW.pool
 simp only at k24
 have kt : w1.cell? ⟨gb, 1, none⟩ = some (.slice c.tbs.A c.tbs.xs.length c.tbs.c) := by have q := B1.cell (i := 1) (v := .slice c.tbs.A c.tbs.xs.length c.tbs.c) rfl; rwa [Nat.zero_add] at q
 have kk : w1.cell? ⟨gb, 17, none⟩ = some (.slice c.key.A c.key.xs.length c.key.c) := by have q := B1.cell (i := 17) (v := .slice c.key.A c.key.xs.length c.key.c) rfl; rwa [Nat.zero_add] at q
 replace qc := qc.below hE
 replace qs := qs.below hE
 cases big
 case true =>
  go_wp2_with fail
  refine (works13_any _).mono ?_
  rintro r w' ⟨rfl, b⟩
  go_wp2_with fail
  go_ret
  exact ⟨rfl, hE.trans (b.mono hE.size)⟩
 case false =>
  replace hsm := hsm rfl
  by_cases h6 : cs.length ≤ 6
  case neg =>
   have z6 : (6 : Int) < (cs.length : Int) := by omega
   go_wp2_with fail
   refine (works13_any _).mono ?_
   rintro r w' ⟨rfl, b⟩
   go_wp2_with fail
   go_ret
   exact ⟨rfl, hE.trans (b.mono hE.size)⟩
  have z6 : ¬ (6 : Int) < (cs.length : Int) := by omega
  by_cases h7 : c.tbs.xs.length ≤ 8192
  case neg =>
   have z7 : (8192 : Int) < (c.tbs.xs.length : Int) := by omega
   go_wp2_with fail
   refine (works13_any _).mono ?_
   rintro r w' ⟨rfl, b⟩
   go_wp2_with fail
   go_ret
   exact ⟨rfl, hE.trans (b.mono hE.size)⟩
  have z7 : ¬ (8192 : Int) < (c.tbs.xs.length : Int) := by omega
  by_cases h8 : c.key.xs.length ≤ 600
  case neg =>
   have z8 : (600 : Int) < (c.key.xs.length : Int) := by omega
   go_wp2_with fail
   refine (works13_any _).mono ?_
   rintro r w' ⟨rfl, b⟩
   go_wp2_with fail
   go_ret
   exact ⟨rfl, hE.trans (b.mono hE.size)⟩
  have z8 : ¬ (600 : Int) < (c.key.xs.length : Int) := by omega
  obtain ⟨B, hB⟩ : ∃ B, B = w1.heap.size := ⟨_, rfl⟩
  have o0 : w1.ownsRow B 30 24 (.slice none 0 0) 0 (crtCells []) := World.ownsRow_nil w1 B 30 24
  have eB : Below B w1 w1 := Below.refl _ _
  replace hB := Lib.hid hB
  go_upto_region 5 with (at_builtin; refine wpList_append_crs rfl (.tmp 35) (.tmp 37) rfl B (.slice none 0 0) [] 0 rfl o0 pA cs.length pc cs rfl rfl CW.crs (by omega) (by rw [hB.out]; exact Nat.le_refl _) ?_; intro v4 w4 o4 h4)
  have e4 := h4 w1 eB
  rw [Nat.zero_add, List.nil_append] at o4
  have e4x : Below w1.heap.size w1 w4 := by rw [← hB.out]; exact e4
  have B14 := B1.below e4x
  have hs4 : B ≤ w4.heap.size := by rw [hB.out]; exact e4x.size
  clear o0 h4 k24 kt kk
  go_upto_region 6 with (first
   | ((with_reducible refine wpList_load_mid ?_ 30 (.tmp 4) ?_ gb 0 ?_ c.cells _ B14.rng Tryz.underlying30 ?_ (sz_crt _) ?_); (· rfl); (· rfl); (· rfl); (· rfl))
   | (refine wpList_build_certV rfl (.tmp 40) rfl c rfl ?_; intro gN wN hgN RN eN)
   | (at_builtin; refine wpList_append_crs rfl (.tmp 39) (.tmp 41) rfl B v4 cs cs.length rfl (row_below o4 eN) (some ⟨gN, 0, none⟩) 1 1 [c] rfl rfl (.inr ⟨gN, 0, rfl, by simpa [crtCells] using RN⟩) (by omega) (Nat.le_trans hs4 eN.size) ?_; intro v5 w5 o5 h5))
  have e5 := h5 w1 (e4.trans (eN.mono hs4))
  have e5x : Below w1.heap.size w1 w5 := by rw [← hB.out]; exact e5
  clear B14 e4x hs4 RN hgN eN o4 h5 e4
  replace hE := hE.trans (e5x.mono hE.size)
  replace CW := CW.below e5x
  replace qc := qc.below e5x
  replace qs := qs.below e5x
  clear e5x e5 eB B1 hB
  obtain ⟨A5, c5, rfl, n5, m5, C5⟩ := own_crs (by simp) o5
  clear o5
  obtain ⟨p2, hp2⟩ : ∃ p, p = cs ++ [c] := ⟨_, rfl⟩
  have hn2 : p2.length = cs.length + 1 := by rw [hp2]; simp
  rw [← hp2] at C5 n5
  rw [← hp2]
  replace hp2 := Lib.hid hp2
  replace hn2 := Lib.hid hn2
  go_upto_region 7 with fail
  obtain ⟨g8, hg8⟩ : ∃ g, g = w5.heap.size := ⟨_, rfl⟩
  obtain ⟨w6, hw6⟩ : ∃ u, u = w5.alloc (.cells #[.slice none 0 0] 34) := ⟨_, rfl⟩
  have e6 : Below w5.heap.size w5 w6 := by rw [hw6]; exact (Below.refl _ _).alloc (Nat.le_refl _) _
  have z6w : w6.heap.size = g8 + 1 := by rw [hw6, hg8]; simp
  have T6 : Cut w6 g8 0 [.slice none 0 0] := by rw [hw6, hg8]; exact Cut.of_heap (heap_alloc_new _ _) fun i v hv => by simpa using hv
  refine wp_world hw6 ?_
  rw [← hg8]
  clear hw6
  replace hg8 := Lib.hid hg8
  replace z6w := Lib.hid z6w
  obtain ⟨B2, hB2⟩ : ∃ b, b = w6.heap.size := ⟨_, rfl⟩
  have hgB : g8 < B2 := by have := z6w.out; omega
  replace hB2 := Lib.hid hB2
  have q0 : w6.ownsRow B2 22 1 (.slice none 0 0) 0 [] := World.ownsRow_nil w6 B2 22 1
  have k25 := (CW.below e6).trust
  simp only at k25
  have R25 := (CW.q.2.2.below e6 (Q' := fun s => s.ok w6) fun _ q => q.below e6)
  have htl := hsm.2.1
  simp only at htl
  have kc6 : w6.cell? ⟨g8, 0, none⟩ = some (.slice none 0 0) := by have q := T6.cell (i := 0) (v := .slice none 0 0) rfl; rwa [Nat.zero_add] at q
  go_upto_region 8 with (at_builtin; refine wpList_append_R rfl (.tmp 45) (.tmp 48) 32 rfl B2 22 (.slice none 0 0) 1 24 Tryz.underlying32 info_mat rfl (by decide) (.slice none 0 0) 0 [] rfl q0 tA ts.length tc (vals ts) rfl (vals_len ts) (R25.row.imp (fun h => by rw [show ts = [] from h]; rfl) id) (vals_one ts) (by omega) (by decide) (by rw [hB2.out]; exact Nat.le_refl _) ?_; intro v7 w7 o7 gr7; obtain ⟨A7, c7, rfl, n7, m7, F7⟩ := own_form o7; have T7 := T6.grown gr7 (fun e => by cases e); (have kc7 : w7.cell? ⟨g8, 0, none⟩ = some (.slice none 0 0) := (by have q := T7.cell (i := 0) (v := .slice none 0 0) rfl; rwa [Nat.zero_add] at q); have kf7 : w7.frozen? ⟨g8, 0, none⟩ = false := (by have q := T7.frozen (i := 0) (v := .slice none 0 0) rfl; rwa [Nat.zero_add] at q)))
  have b7 : Below w6.heap.size w6 w7 := (Below.refl _ _).grown gr7 (Nat.le_refl _) (fun j hj => by cases hj)
  have e7 : Below w5.heap.size w5 w7 := e6.trans (b7.mono e6.size)
  obtain ⟨w8, hw8⟩ : ∃ u, u = w7.setCell ⟨g8, 0, none⟩ (.slice A7 ts.length c7) := ⟨_, rfl⟩
  have e8 : Below w5.heap.size w5 w8 := by rw [hw8]; exact e7.setCell (p := ⟨g8, 0, none⟩) (by show _ ≤ g8; rw [hg8.out]; exact Nat.le_refl _) _
  have T8 : Cut w8 g8 0 [.slice A7 ts.length c7] := by rw [hw8]; have q := T7.set (i := 0) rfl (.slice A7 ts.length c7); rw [Nat.zero_add] at q; exact q
  have q8 : w8.ownsRow B2 22 1 (.slice A7 ts.length c7) ts.length (vals ts) := by
   rw [Nat.zero_add, List.nil_append] at o7
   rw [hw8]
   exact row_keep o7 fun k hk => Below.heap_setCell _ _ _ _ (by have := (o7.lt k hk).1; show k ≠ g8; omega)
  have z8w : w8.heap.size = w7.heap.size := by rw [hw8]; simp
  refine wp_world hw8 ?_
  clear hw8 T7 kc7 kf7 o7 gr7 F7 kc6 k25 T6
  have hB7 : B2 ≤ w8.heap.size := by rw [z8w, hB2.out]; exact b7.size
  clear b7 e7
  have kc8 : w8.cell? ⟨g8, 0, none⟩ = some (.slice A7 ts.length c7) := by have q := T8.cell (i := 0) (v := .slice A7 ts.length c7) rfl; rwa [Nat.zero_add] at q
  have e9 : Below w8.heap.size w8 (w8.alloc (.cells #[s.val] 22)) := (Below.refl _ _).alloc (Nat.le_refl _) _
  have R9 : Row (w8.alloc (.cells #[s.val] 22)) w8.heap.size 0 [s.val] := row_new _
  have T9 := T8.below e9
  have q9 := row_below q8 e9
  go_upto_region 9 with (first
   | (refine wpList_build_sls rfl [.tmp 53] [s] 1 #[(0, .tmp 53)] rfl rfl (by rfl) rfl (by decide) (by decide) ?_)
   | (at_builtin; (refine wpList_append_R rfl (.tmp 52) (.tmp 54) 32 rfl B2 22 (.slice none 0 0) 1 24 Tryz.underlying32 info_mat rfl (by decide) (.slice A7 ts.length c7) ts.length (vals ts) rfl q9 (some ⟨w8.heap.size, 0, none⟩) 1 1 (vals [s]) rfl (vals_len [s]) (.inr ⟨w8.heap.size, 0, rfl, R9⟩) (vals_one [s]) (by omega) (by decide) (Nat.le_trans hB7 e9.size) ?_); intro v10 w10 o10 gr10; obtain ⟨A10, c10, rfl, n10, m10, F10⟩ := own_form o10; have T10 := T9.grown gr10 (fun e => by have := (q9.lt _ e).1; omega); (have kc10 : w10.cell? ⟨g8, 0, none⟩ = some (.slice A7 ts.length c7) := (by have q := T10.cell (i := 0) (v := .slice A7 ts.length c7) rfl; rwa [Nat.zero_add] at q); have kf10 : w10.frozen? ⟨g8, 0, none⟩ = false := (by have q := T10.frozen (i := 0) (v := .slice A7 ts.length c7) rfl; rwa [Nat.zero_add] at q))))
  have e9x : Below w5.heap.size w5 (w8.alloc (.cells #[s.val] 22)) := e8.trans (e9.mono e8.size)
  have e10 : Below w5.heap.size w5 w10 := e9x.grown gr10 e9x.size (fun j hj => by have := (q9.lt j hj).1; have := hg8.out; omega)
  obtain ⟨w11, hw11⟩ : ∃ u, u = w10.setCell ⟨g8, 0, none⟩ (.slice A10 (ts.length + 1) c10) := ⟨_, rfl⟩
  have e11 : Below w5.heap.size w5 w11 := by rw [hw11]; exact e10.setCell (p := ⟨g8, 0, none⟩) (by show _ ≤ g8; rw [hg8.out]; exact Nat.le_refl _) _
  have T11 : Cut w11 g8 0 [.slice A10 (ts.length + 1) c10] := by rw [hw11]; have q := T10.set (i := 0) rfl (.slice A10 (ts.length + 1) c10); rw [Nat.zero_add] at q; exact q
  have R11 : ∃ g, A10 = some ⟨g, 0, none⟩ ∧ B2 ≤ g ∧ Row w11 g 0 (vals (ts ++ [s])) := by
   rcases F10 with h | ⟨g, h1, h2, h3⟩
   ·omega
   ·refine ⟨g, h1, h2, ?_⟩
    have e : vals (ts ++ [s]) = vals ts ++ vals [s] := by simp [vals]
    rw [hw11, e]
    exact h3.far (p := ⟨g8, 0, none⟩) (by show g ≠ g8; omega) _
  refine wp_world hw11 ?_
  clear hw11 T10 kc10 kf10 o10 gr10 F10 kc8 T8 T9 q8 q9 R9 e9x e10 e9 e8 e6 hB7 z8w R25
  have k11 : w11.cell? ⟨g8, 0, none⟩ = some (.slice A10 (ts ++ [s]).length c10) := by
   have q := T11.cell (i := 0) (v := .slice A10 (ts.length + 1) c10) rfl
   rw [Nat.zero_add] at q
   rw [q, List.length_append]
   rfl
  obtain ⟨gr, hA10, hgr, Rr⟩ := R11
  have AN : Anc w11 24 #[.pointer (some ⟨g8, 0, none⟩)] (trB (ts ++ [s])) := anc_is (t := ⟨A10, c10, ts ++ [s]⟩) k11 ⟨by show (ts ++ [s]).length ≤ c10; rw [List.length_append]; exact n10, m10, .inr ⟨gr, 0, hA10, Rr⟩, fun x hx => by
   rcases List.mem_append.1 hx with h | h
   ·exact (CW.q.2.2.each x h).below e11
   ·rw [List.mem_singleton.1 h]; exact qs.below e11⟩
  clear k11 T11 hgr Rr hA10
  replace hE := hE.trans (e11.mono hE.size)
  replace CW := CW.below e11
  replace qc := qc.below e11
  replace C5 := C5.below e11
  clear e11 qs hg8 z6w hB2 hgB
  have P1 : PoolOk w11 lf cs := CW.may hsm (fun c hc => List.mem_cons_of_mem _ hc) (by omega)
  have P2 : PoolOk w11 lf p2 := P1.more qc.ok h7 h8 (fun x hx => by
   rw [hp2.out] at hx
   exact (List.mem_append.1 hx).symm.imp (fun h => List.mem_singleton.1 h) id) (by have := hn2.out; omega)
  have hlk : Chn.Like (hse lf p2) (hse lf cs) := ⟨rfl, rfl, rfl⟩
  have hpp : ∀ x ∈ (hse lf cs).pool, x ∈ (hse lf p2).pool := fun x hx => by show x ∈ p2; rw [hp2.out]; exact List.mem_append_left _ hx
  have htr : ∀ x, trB ts x = true → trB (ts ++ [s]) x = true := fun x hx => by unfold trB at *; rw [List.any_append, hx]; rfl
  obtain ⟨r1, hr1⟩ : ∃ r, r = (hse lf cs).find (trB ts) := ⟨_, rfl⟩
  obtain ⟨r2, hr2⟩ : ∃ r, r = (hse lf p2).find (trB (ts ++ [s])) := ⟨_, rfl⟩
  have hmore : ∀ x, r1 = some x → ∃ y, r2 = some y ∧ y.length ≤ x.length := fun x hx => by rw [hr2]; exact Chn.find_more hlk hpp htr (by rw [← hr1, hx])
  obtain ⟨L1, hL1⟩ : ∃ L, L = r1.getD [] := ⟨_, rfl⟩
  obtain ⟨b1, hb1⟩ : ∃ b, b = r1.isSome := ⟨_, rfl⟩
  obtain ⟨L2, hL2⟩ : ∃ L, L = r2.getD [] := ⟨_, rfl⟩
  obtain ⟨b2, hb2⟩ : ∃ b, b = r2.isSome := ⟨_, rfl⟩
  obtain ⟨L3, hL3⟩ : ∃ L, L = (hse lf cs).reach := ⟨_, rfl⟩
  obtain ⟨L4, hL4⟩ : ∃ L, L = (hse lf p2).reach := ⟨_, rfl⟩
  have h34 : (L3.length : Int) ≤ (L4.length : Int) := by rw [hL3, hL4]; have := Chn.more_reach hlk (c := c) hp2.out; omega
  have hbb : b1 = true → b2 = true ∧ (L2.length : Int) ≤ (L1.length : Int) := fun h => by
   rw [hb1] at h
   obtain ⟨x, hx⟩ := Option.isSome_iff_exists.1 h
   obtain ⟨y, hy, hl⟩ := hmore x hx
   rw [hb2, hL1, hL2, hx, hy]
   exact ⟨rfl, by show ((y.length : Nat) : Int) ≤ (x.length : Int); omega⟩
  have hff := find_go P1 CW.crs (pc := pc) CW.anc
  have hfg := fun W (q : Below w11.heap.size w11 W) => find_go (P2.below q) (C5.below q) (pc := c5) (AN.below q)
  unfold FndP at hff hfg
  rw [← hr1, ← hL1, ← hb1] at hff
  simp only [← hr2, ← hL2, ← hb2] at hfg
  unfold Crt.val at hff hfg
  clear hmore hpp htr
  replace hr1 := Lib.hid hr1
  replace hr2 := Lib.hid hr2
  replace hL1 := Lib.hid hL1
  replace hL2 := Lib.hid hL2
  replace hb1 := Lib.hid hb1
  replace hb2 := Lib.hid hb2
  replace hL3 := Lib.hid hL3
  replace hL4 := Lib.hid hL4
  replace hbb := Lib.hid hbb
  replace h34 := Lib.hid h34
  have k24 := CW.pool
  simp only at k24
  go_wp2_with ((with_reducible refine wpList_load_mid ?_ 30 (.tmp 58) ?_ g0 0 ?_ lf.cells _ CW.leaf.rng Tryz.underlying30 ?_ (sz_crt _) ?_); (· rfl); (· rfl); (· rfl); (· rfl))
  refine hff.mono ?_
  rintro ea w12 ⟨b12, A1, c1, rfl, n1, m1, C1⟩
  replace hE := hE.trans (b12.mono hE.size)
  replace CW := CW.below b12
  clear hff C1
  go_wp2_with ((with_reducible refine wpList_load_mid ?_ 30 (.tmp 68) ?_ g0 0 ?_ lf.cells _ CW.leaf.rng Tryz.underlying30 ?_ (sz_crt _) ?_); (· rfl); (· rfl); (· rfl); (· rfl))
  refine (hfg w12 b12).mono ?_
  rintro eb w13 ⟨b13, A2, c2, rfl, n2, m2, C2⟩
  replace hE := hE.trans (b13.mono hE.size)
  replace CW := CW.below b13
  replace C5 := (C5.below b12).below b13
  replace P1 := (P1.below b12).below b13
  replace P2 := (P2.below b12).below b13
  clear hfg C2 b12 b13 AN
  go_upto_region 11 with fail
  have k24 := CW.pool
  simp only at k24
  have hcap := CW.q.2.1.cap
  have hmax := CW.q.2.1.max
  simp only at hcap hmax
  cases b1
  case false =>
   have hd0 : Below w13.heap.size w13 w13.drew := below_drewN (Below.refl _ _) 1
   refine wp_region_steps (by kernel_rfl) (fun i => if i = 29 then 6 else 75 + i) (fun i v W => Sp ((moT false g0 A1 A2 pA L1.length L2.length cs.length c1 c2 pc lf p2 cs L3 L4) i) v W) (fun W => Below w13.heap.size w13 W) (by kernel_rfl) (by kernel_rfl) ?inj ?lt (fun i v W W' h hs => h.mono hs) hd0 ⟨?s0, ?s1, ?s2, ?s3, ?s4, ?s5, ?s6, ?s7, ?s8, ?s9, ?s10, ?s11, ?s12, ?s13, ?s14, ?s15, ?s16, ?s17, ?s18, ?s19, ?s20, ?s21, ?s22, ?s23, ?s24, ?s25, ?s26, ?s27, ?s28, ?s29, trivial⟩ ?fin
   case inj =>
    intro i j hi hj h
    have h40 : i < 30 ∧ j < 30 := ⟨hi, hj⟩
    have h : (if i = 29 then 6 else 75 + i) = (if j = 29 then 6 else 75 + j) := h
    (repeat' split at h) <;> omega
   case lt =>
    intro i hi
    have h40 : i < 30 := hi
    show (if i = 29 then 6 else 75 + i) < 104
    (repeat' split) <;> omega
   case s0 => exact (st_move rfl (.inl rfl) (src_base (fun i hi => by have hi : i < 30 := hi; show (if i = 29 then 6 else 75 + i) ≠ _; (repeat' split) <;> omega) rfl))
   case s1 => exact (st_pure (V := .bool false) (U := .bool true) rfl (src_dep (j := 0) (e := ⟨0, .data⟩) (by simp) rfl rfl rfl) (fun a h W => by
      have h : a.eval (.tmp 75) = .bool false := h
      unfold execOp
      simp only [h]
      rfl) (fun W hg => Sp.tv rfl))
   case s2 => exact (st_move rfl (.inl rfl) (src_dep (j := 1) (e := ⟨1, .data⟩) (by simp) rfl rfl rfl))
   case s3 => exact (st_skipV (j := 2) (b := false) (c := true) (e := ⟨2, .guard⟩) rfl (by simp) rfl rfl rfl (by decide) rfl rfl)
   case s4 => exact (st_skipV (j := 2) (b := false) (c := true) (e := ⟨2, .guard⟩) rfl (by simp) rfl rfl rfl (by decide) rfl rfl)
   case s5 => exact (st_skipU (j := 4) (b := true) (e := ⟨4, .guard⟩) rfl (by simp) rfl rfl rfl rfl rfl)
   case s6 => exact (st_skipU (j := 4) (b := true) (e := ⟨4, .guard⟩) rfl (by simp) rfl rfl rfl rfl rfl)
   case s7 => exact (st_skipU (j := 4) (b := true) (e := ⟨4, .guard⟩) rfl (by simp) rfl rfl rfl rfl rfl)
   case s8 => exact (st_skipU (j := 4) (b := true) (e := ⟨4, .guard⟩) rfl (by simp) rfl rfl rfl rfl rfl)
   case s9 => exact (st_skipU (j := 4) (b := true) (e := ⟨4, .guard⟩) rfl (by simp) rfl rfl rfl rfl rfl)
   case s10 => exact (st_skipV (j := 2) (b := false) (c := true) (e := ⟨2, .guard⟩) rfl (by simp) rfl rfl rfl (by decide) rfl rfl)
   case s11 => exact (st_pick rfl rfl (src_dep (j := 2) (e := ⟨2, .data⟩) (by simp) rfl rfl rfl) src_const)
   case s12 => exact (st_move rfl (.inl rfl) (src_dep (j := 11) (e := ⟨11, .data⟩) (by simp) rfl rfl rfl))
   case s13 => exact (st_guard (j := 12) (b := true) (e := ⟨12, .guard⟩) rfl (by simp) rfl rfl rfl rfl (st_field rfl rfl rfl (src_base (fun i hi => by have hi : i < 30 := hi; show (if i = 29 then 6 else 75 + i) ≠ _; (repeat' split) <;> omega) rfl) (fun W => fa_chcase0 g0 0 W)))
   case s14 => exact (st_guard (j := 12) (b := true) (e := ⟨12, .guard⟩) rfl (by simp) rfl rfl rfl rfl (st_loadR (b := g0) (off := 0) rfl rfl rfl (src_dep (j := 13) (e := ⟨13, .data⟩) (by simp) rfl rfl rfl) Tryz.underlying30 rfl (sz_crt _) (fun W h => (CW.leaf.below h).rng)))
   case s15 => exact (st_guard (j := 12) (b := true) (e := ⟨12, .guard⟩) rfl (by simp) rfl rfl rfl rfl (st_move rfl (.inl rfl) (Src.cr (L := p2) (src_base (fun i hi => by have hi : i < 30 := hi; show (if i = 29 then 6 else 75 + i) ≠ 7; (repeat' split) <;> omega) rfl) n5 m5 C5)))
   case s16 => exact (st_guard (j := 12) (b := true) (e := ⟨12, .guard⟩) rfl (by simp) rfl rfl rfl rfl (st_reach (lf := lf) (cs := p2) rfl (.tmp 89) (.tmp 90) _ rfl (by rw [← hL4.out]; rfl) (src_dep (j := 14) (e := ⟨14, .data⟩) (by simp) rfl rfl rfl) (src_dep (j := 15) (e := ⟨15, .data⟩) (by simp) rfl rfl rfl) P2))
   case s17 => exact (st_guard (j := 12) (b := true) (e := ⟨12, .guard⟩) rfl (by simp) rfl rfl rfl rfl (st_len rfl (.tmp 91) rfl _ rfl rfl (src_dep (j := 16) (e := ⟨16, .data⟩) (by simp) rfl rfl rfl)))
   case s18 => exact (st_guard (j := 12) (b := true) (e := ⟨12, .guard⟩) rfl (by simp) rfl rfl rfl rfl (st_field rfl rfl rfl (src_base (fun i hi => by have hi : i < 30 := hi; show (if i = 29 then 6 else 75 + i) ≠ _; (repeat' split) <;> omega) rfl) (fun W => fa_chcase0 g0 0 W)))
   case s19 => exact (st_guard (j := 12) (b := true) (e := ⟨12, .guard⟩) rfl (by simp) rfl rfl rfl rfl (st_loadR (b := g0) (off := 0) rfl rfl rfl (src_dep (j := 18) (e := ⟨18, .data⟩) (by simp) rfl rfl rfl) Tryz.underlying30 rfl (sz_crt _) (fun W h => (CW.leaf.below h).rng)))
   case s20 => exact (st_guard (j := 12) (b := true) (e := ⟨12, .guard⟩) rfl (by simp) rfl rfl rfl rfl (st_field rfl rfl rfl (src_base (fun i hi => by have hi : i < 30 := hi; show (if i = 29 then 6 else 75 + i) ≠ _; (repeat' split) <;> omega) rfl) (fun W => fa_chcase1 g0 0 W)))
   case s21 => exact (st_guard (j := 12) (b := true) (e := ⟨12, .guard⟩) rfl (by simp) rfl rfl rfl rfl (st_load rfl rfl rfl (src_dep (j := 20) (e := ⟨20, .data⟩) (by simp) rfl rfl rfl) (ld_certs _ _) (fun W h => (CW.below h).pool)))
   case s22 => exact (st_guard (j := 12) (b := true) (e := ⟨12, .guard⟩) rfl (by simp) rfl rfl rfl rfl (st_reach (lf := lf) (cs := cs) rfl (.tmp 94) (.tmp 96) _ rfl (by rw [← hL3.out]; rfl) (src_dep (j := 19) (e := ⟨19, .data⟩) (by simp) rfl rfl rfl) (Src.cr (L := cs) (src_dep (j := 21) (e := ⟨21, .data⟩) (by simp) rfl rfl rfl) hcap hmax CW.crs) P1))
   case s23 => exact (st_guard (j := 12) (b := true) (e := ⟨12, .guard⟩) rfl (by simp) rfl rfl rfl rfl (st_len rfl (.tmp 97) rfl _ rfl rfl (src_dep (j := 22) (e := ⟨22, .data⟩) (by simp) rfl rfl rfl)))
   case s24 => exact (st_guard (j := 12) (b := true) (e := ⟨12, .guard⟩) rfl (by simp) rfl rfl rfl rfl (st_bin (x := .tmp 92) (y := .tmp 98) rfl (src_dep (j := 17) (e := ⟨17, .data⟩) (by simp) rfl rfl rfl) (src_dep (j := 23) (e := ⟨23, .data⟩) (by simp) rfl rfl rfl) (fun a h1 h2 W => by
     have h1 : a.eval (.tmp 92) = .int .i64 (L4.length : Int) := h1
     have h2 : a.eval (.tmp 98) = .int .i64 (L3.length : Int) := h2
     unfold execOp
     have h34 := h34.out
     simp only [h1, h2]
     go_simp) rfl))
   case s25 => exact (st_pick rfl rfl (src_dep (j := 12) (e := ⟨12, .data⟩) (by simp) rfl rfl rfl) (src_dep (j := 24) (e := ⟨24, .data⟩) (by simp) rfl rfl rfl))
   case s26 => exact (st_move rfl (.inl rfl) (src_dep (j := 25) (e := ⟨25, .data⟩) (by simp) rfl rfl rfl))
   case s27 => exact (st_guard (j := 26) (b := true) (e := ⟨26, .guard⟩) rfl (by simp) rfl rfl rfl rfl (st_works rfl rfl rfl))
   case s28 => exact (st_pick rfl rfl (src_dep (j := 26) (e := ⟨26, .data⟩) (by simp) rfl rfl rfl) (src_dep (j := 27) (e := ⟨27, .data⟩) (by simp) rfl rfl rfl))
   case s29 => exact (st_move rfl (.inr rfl) (src_dep (j := 28) (e := ⟨28, .data⟩) (by simp) rfl rfl rfl))
   case fin =>
    intro a w14 h1 h2 h3 h4 h5
    have b6 : a.tmps.getD 6 undef = .bool true := (h4 29 (by show 29 < 30; omega)).now
    have hz : a.tmps.size = 104 := h2
    have hdf : a.defers = [] := h1
    rw [act_eq hz hdf]
    simp only [rg104, List.map_cons, List.map_nil, b6]
    clear b6 hz hdf h1 h2 h3 h4
    replace hE := hE.trans (h5.mono hE.size)
    go_wp2_with fail
    go_ret
    exact ⟨rfl, hE⟩
  case true =>
   obtain ⟨rfl, h12⟩ := hbb.out rfl
   have hd0 : Below w13.heap.size w13 w13.drew := below_drewN (Below.refl _ _) 1
   refine wp_region_steps (by kernel_rfl) (fun i => if i = 29 then 6 else 75 + i) (fun i v W => Sp ((moT true g0 A1 A2 pA L1.length L2.length cs.length c1 c2 pc lf p2 cs L3 L4) i) v W) (fun W => Below w13.heap.size w13 W) (by kernel_rfl) (by kernel_rfl) ?inj ?lt (fun i v W W' h hs => h.mono hs) hd0 ⟨?s0, ?s1, ?s2, ?s3, ?s4, ?s5, ?s6, ?s7, ?s8, ?s9, ?s10, ?s11, ?s12, ?s13, ?s14, ?s15, ?s16, ?s17, ?s18, ?s19, ?s20, ?s21, ?s22, ?s23, ?s24, ?s25, ?s26, ?s27, ?s28, ?s29, trivial⟩ ?fin
   case inj =>
    intro i j hi hj h
    have h40 : i < 30 ∧ j < 30 := ⟨hi, hj⟩
    have h : (if i = 29 then 6 else 75 + i) = (if j = 29 then 6 else 75 + j) := h
    (repeat' split at h) <;> omega
   case lt =>
    intro i hi
    have h40 : i < 30 := hi
    show (if i = 29 then 6 else 75 + i) < 104
    (repeat' split) <;> omega
   case s0 => exact (st_move rfl (.inl rfl) (src_base (fun i hi => by have hi : i < 30 := hi; show (if i = 29 then 6 else 75 + i) ≠ _; (repeat' split) <;> omega) rfl))
   case s1 => exact (st_pure (V := .bool true) (U := .bool false) rfl (src_dep (j := 0) (e := ⟨0, .data⟩) (by simp) rfl rfl rfl) (fun a h W => by
      have h : a.eval (.tmp 75) = .bool true := h
      unfold execOp
      simp only [h]
      rfl) (fun W hg => Sp.tv rfl))
   case s2 => exact (st_move rfl (.inl rfl) (src_dep (j := 1) (e := ⟨1, .data⟩) (by simp) rfl rfl rfl))
   case s3 => exact (st_guard (j := 2) (b := false) (e := ⟨2, .guard⟩) rfl (by simp) rfl rfl rfl rfl (st_move rfl (.inl rfl) (src_base (fun i hi => by have hi : i < 30 := hi; show (if i = 29 then 6 else 75 + i) ≠ 12; split <;> omega) rfl)))
   case s4 => exact (st_guard (j := 2) (b := false) (e := ⟨2, .guard⟩) rfl (by simp) rfl rfl rfl rfl (st_move rfl (.inl rfl) (src_dep (j := 3) (e := ⟨3, .data⟩) (by simp) rfl rfl rfl)))
   case s5 => exact (st_guard (j := 4) (b := true) (e := ⟨4, .guard⟩) rfl (by simp) rfl rfl rfl rfl (st_move rfl (.inl rfl) (src_base (fun i hi => by have hi : i < 30 := hi; show (if i = 29 then 6 else 75 + i) ≠ 11; (repeat' split) <;> omega) rfl)))
   case s6 => exact (st_guard (j := 4) (b := true) (e := ⟨4, .guard⟩) rfl (by simp) rfl rfl rfl rfl (st_pure (V := .slice A2 L2.length c2) (U := .int .i64 (L2.length : Int)) rfl (src_dep (j := 5) (e := ⟨5, .data⟩) (by simp) rfl rfl rfl) (fun a h W => by
     have h3 : (#[.tmp 80] : Array Operand).map a.eval = #[.slice A2 L2.length c2] := by simp only [List.map_toArray, List.map_cons, List.map_nil]; exact congrArg (fun v => #[v]) h
     unfold execOp
     simp only [h3]
     go_simp) (fun W hg => Sp.tv rfl)))
   case s7 => exact (st_guard (j := 4) (b := true) (e := ⟨4, .guard⟩) rfl (by simp) rfl rfl rfl rfl (st_move rfl (.inl rfl) (src_base (fun i hi => by have hi : i < 30 := hi; show (if i = 29 then 6 else 75 + i) ≠ 9; (repeat' split) <;> omega) rfl)))
   case s8 => exact (st_guard (j := 4) (b := true) (e := ⟨4, .guard⟩) rfl (by simp) rfl rfl rfl rfl (st_pure (V := .slice A1 L1.length c1) (U := .int .i64 (L1.length : Int)) rfl (src_dep (j := 7) (e := ⟨7, .data⟩) (by simp) rfl rfl rfl) (fun a h W => by
     have h3 : (#[.tmp 82] : Array Operand).map a.eval = #[.slice A1 L1.length c1] := by simp only [List.map_toArray, List.map_cons, List.map_nil]; exact congrArg (fun v => #[v]) h
     unfold execOp
     simp only [h3]
     go_simp) (fun W hg => Sp.tv rfl)))
   case s9 => exact (st_guard (j := 4) (b := true) (e := ⟨4, .guard⟩) rfl (by simp) rfl rfl rfl rfl (st_bin (x := .tmp 81) (y := .tmp 83) rfl (src_dep (j := 6) (e := ⟨6, .data⟩) (by simp) rfl rfl rfl) (src_dep (j := 8) (e := ⟨8, .data⟩) (by simp) rfl rfl rfl) (fun a h1 h2 W => by
     have h1 : a.eval (.tmp 81) = .int .i64 (L2.length : Int) := h1
     have h2 : a.eval (.tmp 83) = .int .i64 (L1.length : Int) := h2
     unfold execOp
     simp only [h1, h2]
     go_simp) rfl))
   case s10 => exact (st_guard (j := 2) (b := false) (e := ⟨2, .guard⟩) rfl (by simp) rfl rfl rfl rfl (st_pick rfl rfl (src_dep (j := 4) (e := ⟨4, .data⟩) (by simp) rfl rfl rfl) (src_dep (j := 9) (e := ⟨9, .data⟩) (by simp) rfl rfl rfl)))
   case s11 => exact (st_pick_no rfl rfl (src_dep (j := 2) (e := ⟨2, .data⟩) (by simp) rfl rfl rfl) (src_dep (j := 10) (e := ⟨10, .data⟩) (by simp) rfl rfl rfl))
   case s12 => exact (st_move rfl (.inl rfl) (src_dep (j := 11) (e := ⟨11, .data⟩) (by simp) rfl rfl rfl))
   case s13 => exact (st_guard (j := 12) (b := true) (e := ⟨12, .guard⟩) rfl (by simp) rfl rfl rfl rfl (st_field rfl rfl rfl (src_base (fun i hi => by have hi : i < 30 := hi; show (if i = 29 then 6 else 75 + i) ≠ _; (repeat' split) <;> omega) rfl) (fun W => fa_chcase0 g0 0 W)))
   case s14 => exact (st_guard (j := 12) (b := true) (e := ⟨12, .guard⟩) rfl (by simp) rfl rfl rfl rfl (st_loadR (b := g0) (off := 0) rfl rfl rfl (src_dep (j := 13) (e := ⟨13, .data⟩) (by simp) rfl rfl rfl) Tryz.underlying30 rfl (sz_crt _) (fun W h => (CW.leaf.below h).rng)))
   case s15 => exact (st_guard (j := 12) (b := true) (e := ⟨12, .guard⟩) rfl (by simp) rfl rfl rfl rfl (st_move rfl (.inl rfl) (Src.cr (L := p2) (src_base (fun i hi => by have hi : i < 30 := hi; show (if i = 29 then 6 else 75 + i) ≠ 7; (repeat' split) <;> omega) rfl) n5 m5 C5)))
   case s16 => exact (st_guard (j := 12) (b := true) (e := ⟨12, .guard⟩) rfl (by simp) rfl rfl rfl rfl (st_reach (lf := lf) (cs := p2) rfl (.tmp 89) (.tmp 90) _ rfl (by rw [← hL4.out]; rfl) (src_dep (j := 14) (e := ⟨14, .data⟩) (by simp) rfl rfl rfl) (src_dep (j := 15) (e := ⟨15, .data⟩) (by simp) rfl rfl rfl) P2))
   case s17 => exact (st_guard (j := 12) (b := true) (e := ⟨12, .guard⟩) rfl (by simp) rfl rfl rfl rfl (st_len rfl (.tmp 91) rfl _ rfl rfl (src_dep (j := 16) (e := ⟨16, .data⟩) (by simp) rfl rfl rfl)))
   case s18 => exact (st_guard (j := 12) (b := true) (e := ⟨12, .guard⟩) rfl (by simp) rfl rfl rfl rfl (st_field rfl rfl rfl (src_base (fun i hi => by have hi : i < 30 := hi; show (if i = 29 then 6 else 75 + i) ≠ _; (repeat' split) <;> omega) rfl) (fun W => fa_chcase0 g0 0 W)))
   case s19 => exact (st_guard (j := 12) (b := true) (e := ⟨12, .guard⟩) rfl (by simp) rfl rfl rfl rfl (st_loadR (b := g0) (off := 0) rfl rfl rfl (src_dep (j := 18) (e := ⟨18, .data⟩) (by simp) rfl rfl rfl) Tryz.underlying30 rfl (sz_crt _) (fun W h => (CW.leaf.below h).rng)))
   case s20 => exact (st_guard (j := 12) (b := true) (e := ⟨12, .guard⟩) rfl (by simp) rfl rfl rfl rfl (st_field rfl rfl rfl (src_base (fun i hi => by have hi : i < 30 := hi; show (if i = 29 then 6 else 75 + i) ≠ _; (repeat' split) <;> omega) rfl) (fun W => fa_chcase1 g0 0 W)))
   case s21 => exact (st_guard (j := 12) (b := true) (e := ⟨12, .guard⟩) rfl (by simp) rfl rfl rfl rfl (st_load rfl rfl rfl (src_dep (j := 20) (e := ⟨20, .data⟩) (by simp) rfl rfl rfl) (ld_certs _ _) (fun W h => (CW.below h).pool)))
   case s22 => exact (st_guard (j := 12) (b := true) (e := ⟨12, .guard⟩) rfl (by simp) rfl rfl rfl rfl (st_reach (lf := lf) (cs := cs) rfl (.tmp 94) (.tmp 96) _ rfl (by rw [← hL3.out]; rfl) (src_dep (j := 19) (e := ⟨19, .data⟩) (by simp) rfl rfl rfl) (Src.cr (L := cs) (src_dep (j := 21) (e := ⟨21, .data⟩) (by simp) rfl rfl rfl) hcap hmax CW.crs) P1))
   case s23 => exact (st_guard (j := 12) (b := true) (e := ⟨12, .guard⟩) rfl (by simp) rfl rfl rfl rfl (st_len rfl (.tmp 97) rfl _ rfl rfl (src_dep (j := 22) (e := ⟨22, .data⟩) (by simp) rfl rfl rfl)))
   case s24 => exact (st_guard (j := 12) (b := true) (e := ⟨12, .guard⟩) rfl (by simp) rfl rfl rfl rfl (st_bin (x := .tmp 92) (y := .tmp 98) rfl (src_dep (j := 17) (e := ⟨17, .data⟩) (by simp) rfl rfl rfl) (src_dep (j := 23) (e := ⟨23, .data⟩) (by simp) rfl rfl rfl) (fun a h1 h2 W => by
     have h1 : a.eval (.tmp 92) = .int .i64 (L4.length : Int) := h1
     have h2 : a.eval (.tmp 98) = .int .i64 (L3.length : Int) := h2
     unfold execOp
     have h34 := h34.out
     simp only [h1, h2]
     go_simp) rfl))
   case s25 => exact (st_pick rfl rfl (src_dep (j := 12) (e := ⟨12, .data⟩) (by simp) rfl rfl rfl) (src_dep (j := 24) (e := ⟨24, .data⟩) (by simp) rfl rfl rfl))
   case s26 => exact (st_move rfl (.inl rfl) (src_dep (j := 25) (e := ⟨25, .data⟩) (by simp) rfl rfl rfl))
   case s27 => exact (st_guard (j := 26) (b := true) (e := ⟨26, .guard⟩) rfl (by simp) rfl rfl rfl rfl (st_works rfl rfl rfl))
   case s28 => exact (st_pick rfl rfl (src_dep (j := 26) (e := ⟨26, .data⟩) (by simp) rfl rfl rfl) (src_dep (j := 27) (e := ⟨27, .data⟩) (by simp) rfl rfl rfl))
   case s29 => exact (st_move rfl (.inr rfl) (src_dep (j := 28) (e := ⟨28, .data⟩) (by simp) rfl rfl rfl))
   case fin =>
    intro a w14 h1 h2 h3 h4 h5
    have b6 : a.tmps.getD 6 undef = .bool true := (h4 29 (by show 29 < 30; omega)).now
    have hz : a.tmps.size = 104 := h2
    have hdf : a.defers = [] := h1
    rw [act_eq hz hdf]
    simp only [rg104, List.map_cons, List.map_nil, b6]
    clear b6 hz hdf h1 h2 h3 h4
    replace hE := hE.trans (h5.mono hE.size)
    go_wp2_with fail
    go_ret
    exact ⟨rfl, hE⟩
end Go.Proofs.YtchaahnhpeoomaaGreat
