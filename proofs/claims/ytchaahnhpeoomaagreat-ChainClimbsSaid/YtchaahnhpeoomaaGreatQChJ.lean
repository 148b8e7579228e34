/-
  chain.Find: the shortest row of certificates from one to somebody who is trusted.
-/
import Derived.Test.YtchaahnhpeoomaaGreatQChI
namespace Go.Proofs.YtchaahnhpeoomaaGreat
set_option linter.unusedVariables false
set_option linter.unusedSimpArgs false
set_option maxRecDepth 20000
open Go.RowKit
theorem Anc.below {w0 w1 : World} {f : Nat} {fst : Array Value} {tr : Crt → Bool} (h : Anc w0 f fst tr) (hb : Below w0.heap.size w0 w1) : Anc w1 f fst tr := ⟨h.cf, fun U c q ok => h.call U c (hb.trans (q.mono hb.size)) ok⟩
theorem Hm.new {w0 U U' : World} {lf : Crt} {cs : List Crt} {pA : Option Addr} {pc hb mb : Nat} (h : Hm w0 lf cs pA pc hb mb U) {r : Option Nat} (g : U.grownBy U' r) (hr : ∀ b, r = some b → b ≠ hb ∧ b ≠ mb ∧ w0.heap.size ≤ b) : Hm w0 lf cs pA pc hb mb U' :=
 ⟨⟨g.os.trans h.below.os, g.tape.trans h.below.tape, g.output.trans h.below.output, Nat.le_trans h.below.size g.size, fun k hk => (g.block k (Nat.lt_of_lt_of_le hk h.below.size) (fun e => by have := (hr k e.symm).2.2; omega)).trans (h.below.block k hk)⟩,
  h.row.keep g.size (g.block hb h.row.1 (fun e => (hr hb e.symm).1 rfl)), h.hn, h.mn, h.ne, h.tbl.kept (g.block mb h.tbl.lt (fun e => (hr mb e.symm).2.1 rfl))⟩
theorem own_row {W : World} {B : Nat} {v : Value} {l : List Int} (h : W.ownsRow B 3 1 v l.length (l.map intV)) : ∃ A c, v = .slice A l.length c ∧ (l = [] ∨ ∃ b, A = some ⟨b, 0, none⟩ ∧ B ≤ b ∧ Row W b 0 (l.map intV)) := by
 rcases h.2 with ⟨h1, h2⟩ | ⟨g, cap, cur, h1, hB, h3, h4, h5, h6, h7⟩
 ·obtain rfl : l = [] := List.eq_nil_of_length_eq_zero h2
  exact ⟨none, 0, h1, .inl rfl⟩
 ·refine ⟨some ⟨g, 0, none⟩, cap, h1, .inr ⟨g, rfl, hB, heap_lt h3, fun i u hu => ?_⟩⟩
  have hi : i < l.length := by simpa using (List.getElem?_eq_some_iff.1 hu).1
  rw [← h7, List.getElem?_take_of_lt (by omega)] at hu
  rw [Nat.zero_add]
  simp [World.cell?, h3, by simpa using hu]
def ffL (g10 g9 g8 g5 g3 f : Nat) (fst : Array Value) (hb : Nat) (V : Nat → Value) (lf : Crt) : List (Nat × List Value) :=
 [(g10, [Value.func (.func 48) #[] #[.pointer (some ⟨g5, 0, none⟩), .pointer (some ⟨g8, 0, none⟩)]]), (g9, (List.range 8).map V), (g8, [Value.pointer (some ⟨hb, 0, none⟩)]), (g5, [Value.func (.func f) fst #[]]), (g3, lf.cells)]
theorem wpList_build_certO {ops : Array Oper} {rest : List Oper} {o : Oper} {a : Act} {w : World} {Q : Exit → Act → World → Prop} (hgd : o.guard = none) (x : Operand) (ho : o.op = .buildSlice 31 1 #[(0, x)]) (c : Crt) (hx : a.eval x = .agg c.cells.toArray)
  (h : ∀ g w', Hid (g = w.heap.size) → w'.ownsRow w.heap.size 30 24 (.slice (some ⟨g, 0, none⟩) 1 1) 1 (crtCells [c]) → Below w.heap.size w w' → wpList Tryz.prog ops Q rest (a.put o.dst (.slice (some ⟨g, 0, none⟩) 1 1)) w') : wpList Tryz.prog ops Q (o :: rest) a w :=
 wpList_build_cert hgd x ho c hx (h _ _ rfl ⟨by simp [crtCells_length], .inr ⟨_, 1, c.cells.toArray, rfl, Nat.le_refl _, heap_alloc_new _ _, Nat.le_refl _, by decide, by simp [Crt.cells_length], by simp [crtCells, List.take_of_length_le, Crt.cells_length]⟩⟩ ((Below.refl _ _).alloc (Nat.le_refl _) _))
theorem wpList_append_crtG {w : World} {ops : Array Oper} {rest : List Oper} {o : Oper} {a : Act} {Q : Exit → Act → World → Prop} (hgd : o.guard = none) (s x : Operand) (ho : o.op = .call { callee := .builtin .append, args := #[s, x], argTypes := #[31, 31] })
  (B : Nat) (v : Value) (l : List Crt) (n : Nat) (hs : a.eval s = v) (hn : n = l.length) (hown : w.ownsRow B 30 24 v n (crtCells l)) (g : Nat) (c : Crt) (hx : a.eval x = .slice (some ⟨g, 0, none⟩) 1 1) {B' : Nat} (hR : w.ownsRow B' 30 24 (.slice (some ⟨g, 0, none⟩) 1 1) 1 (crtCells [c])) (hsm : n ≤ 1000) (hB : B ≤ w.heap.size)
  (h : ∀ v' w', w'.ownsRow B 30 24 v' (n + 1) (crtCells (l ++ [c])) → w.grownBy w' v.ownBlock → (v'.ownBlock = v.ownBlock ∨ v'.ownBlock = some w.heap.size) → wpList Tryz.prog ops Q rest (a.put o.dst v') w') : wpList Tryz.prog ops Q (o :: rest) a w := by
 subst hn
 refine wpList_append_V hgd s x _ ho B 30 (.agg Crt.none.cells.toArray) 24 224 Tryz.underlying31 info_cert rfl (by decide) v l.length (crtCells l) hs hown ⟨g, 0, none⟩ 1 1 (crtCells [c]) hx (by simp [crtCells_length]) (fun j u hj => hR.cells (g := g) rfl j u hj) (crtCells_one [c]) (by simp only [maxLen]; omega) (by omega) hB (fun v' w' o1 g1 l1 => ?_)
 rw [← crtCells_append] at o1
 exact h v' w' o1 g1 l1
theorem own_none (v : Value) : v.ownBlock = none ∨ v.ownBlock ≠ none := by
 cases v.ownBlock with
 | none => exact .inl rfl
 | some b => exact .inr (by simp)
theorem own_crt {W : World} {B n : Nat} {v : Value} {l : List Crt} (h : W.ownsRow B 30 24 v n (crtCells l)) (hn : 0 < n) : ∃ g c, v = .slice (some ⟨g, 0, none⟩) n c ∧ n ≤ c ∧ c ≤ maxLen ∧ B ≤ g ∧ Row W g 0 (crtCells l) := by
 rcases h.2 with ⟨_, h2⟩ | ⟨g, cap, cur, h1, hB, h3, h4, h5, h6, h7⟩
 ·omega
 ·refine ⟨g, cap, h1, h4, h5, hB, heap_lt h3, fun i u hu => ?_⟩
  have hi : i < n * 24 := by rw [← h.1]; exact (List.getElem?_eq_some_iff.1 hu).1
  rw [← h7, List.getElem?_take_of_lt hi] at hu
  rw [Nat.zero_add]
  simp [World.cell?, h3, by simpa using hu]
theorem Lv.far {W W' : World} {B g2 Br : Nat} {V : Nat → Value} {L : Nat → List Int} (h : Lv W B g2 V L) {r : Option Nat} (hg : W.grownBy W' r) (hr : ∀ b, r = some b → Br ≤ b) (hV : ∀ j, j < 8 → ∀ b, (V j).ownBlock = some b → b < Br) (h2 : g2 < Br) : Lv W' B g2 V L :=
 ⟨h.arr.grown hg (fun e => by have := hr g2 e; omega), fun j hj => (h.own j hj).kept hg (by
  cases e : (V j).ownBlock with
  | none => exact .inl rfl
  | some b =>
   refine .inr fun e2 => ?_
   have h1 := hV j hj b e
   have h3 := hr b e2.symm
   omega), h.apart, h.gB⟩
theorem idx_found {p : Int → Bool} {xs : List Int} (h : ∃ x ∈ xs, p x = true) : ∃ (i : Nat) (x : Int), xs[i]? = some x ∧ xs.find? p = some x ∧ idxI p xs = (i : Int) := by
 cases hf : xs.findIdx? p with
 | none =>
  rw [List.findIdx?_eq_none_iff] at hf
  obtain ⟨x, hx, hp⟩ := h
  rw [hf x hx] at hp
  cases hp
 | some i =>
  have h9 := hf
  rw [List.findIdx?_eq_some_iff_getElem] at hf
  obtain ⟨h1, h2, h3⟩ := hf
  refine ⟨i, xs[i], List.getElem?_eq_getElem h1, ?_, by unfold idxI; rw [h9]⟩
  rw [List.find?_eq_some_iff_getElem]
  exact ⟨h2, i, h1, rfl, fun j hj => by simpa using h3 j hj⟩
def FindPost (lf : Crt) (cs : List Crt) (tr : Crt → Bool) (w : World) (e : Ending) (W : World) : Prop := Below w.heap.size w W ∧ match (hse lf cs).find tr with
 | none => e = .returned (.tuple #[.slice none 0 0, .bool false])
 | some r => ∃ g c, e = .returned (.tuple #[.slice (some ⟨g, 0, none⟩) r.length c, .bool true]) ∧ r.length ≤ c ∧ c ≤ maxLen ∧ w.heap.size ≤ g ∧ Row W g 0 (crtCells r)
set_option maxRecDepth 100000 in
set_option maxHeartbeats 8000000 in
theorem find_any {w : World} {lf : Crt} {cs : List Crt} {pA : Option Addr} {pc gp op f : Nat} {fst : Array Value} {tr : Crt → Bool} (P : Pool w lf cs pA pc gp op) (A : Anc w f fst tr) :
  Calls Tryz.prog 23 #[lf.val, .slice pA cs.length pc, .func (.func f) fst #[]] w (FindPost lf cs tr w) := by
 obtain ⟨w1, hw1⟩ : ∃ u, u = w.alloc (.cells lf.cells.toArray 30) := ⟨_, rfl⟩
 obtain ⟨w2, hw2⟩ : ∃ u, u = w1.alloc (.cells #[.func (.func f) fst #[]] 41) := ⟨_, rfl⟩
 obtain ⟨g3, hg3⟩ : ∃ g, g = w.heap.size := ⟨_, rfl⟩
 obtain ⟨g5, hg5⟩ : ∃ g, g = w.heap.size + 1 := ⟨_, rfl⟩
 have z1 : w1.heap.size = g5 := by rw [hw1, hg5]; simp
 have e1 : Below w.heap.size w w1 := by rw [hw1]; exact (Below.refl _ _).alloc (Nat.le_refl _) _
 have e2' : Below w1.heap.size w1 w2 := by rw [hw2]; exact (Below.refl _ _).alloc (Nat.le_refl _) _
 have e2 : Below w.heap.size w w2 := e1.trans (e2'.mono e1.size)
 have R3 : Row w1 g3 0 lf.cells := by rw [hw1, hg3]; exact row_new _
 replace R3 := R3.below e2'
 have R5 : Row w2 g5 0 [.func (.func f) fst #[]] := by rw [hw2, ← z1]; exact row_new _
 have z2 : w2.heap.size = g5 + 1 := by rw [hw2, ← z1]; simp
 replace P := P.below e2
 replace A := A.below e2
 have hlen := P.len
 unfold Crt.val
 go_enter Tryz.func23, Tryz.ntmps23
 go_upto_region 1 with fail
 refine wp_world (W' := w2) (by rw [hw2, hw1]) ?_
 rw [← hg5, ← hg3]
 clear hw1 hw2 e1 e2' z1
 replace hg3 := Lib.hid hg3
 replace hg5 := Lib.hid hg5
 have k5 : w2.cell? ⟨g5, 0, none⟩ = some (.func (.func f) fst #[]) := R5.2 0 _ rfl
 have hne := fn_nil f fst #[]
 go_wp2_with ((with_reducible refine wpList_load_mid ?_ 30 (.tmp 3) ?_ g3 0 ?_ lf.cells _ R3.rng Tryz.underlying30 ?_ (sz_crt _) ?_); (· rfl); (· rfl); (· rfl); (· rfl))
 clear k5 hne
 refine (chOpen_any P).mono ?_
 rintro e w3 ⟨hb, mb, rfl, H3⟩
 have R33 := R3.below H3.below
 have R53 := R5.below H3.below
 have hbn := H3.hn
 have hmn := H3.mn
 have hbl := H3.row.1
 have hml := H3.tbl.lt
 go_upto_region 4 with (first
  | (refine wpList_alloc_one rfl 95 rfl (.pointer none) rfl zero_hp ?_; intro g8 w4 hg8 C8 z4 e4)
  | (refine wpList_store_one rfl 95 (.tmp 8) (.tmp 25) rfl g8 (.pointer (some ⟨hb, 0, none⟩)) _ rfl rfl C8 (sto_ptr g8 _ _) ?_; intro w5 gr5 z5 D8))
 have H5 : Hm w2 lf cs pA pc hb mb w5 := (H3.grow e4).new gr5 (fun b e => by cases e; have := hg8.out; have := H3.below.size; omega)
 have R8 : Row w5 g8 0 [.pointer (some ⟨hb, 0, none⟩)] := Row.of_cut D8
 have e35 : Below w3.heap.size w3 w5 := below_only e4 gr5 e4.size (by rw [hg8.out]; exact Nat.le_refl _)
 have R35 := R33.below e35
 have R55 := R53.below e35
 have k8 : w5.cell? ⟨g8, 0, none⟩ = some (.pointer (some ⟨hb, 0, none⟩)) := R8.2 0 _ rfl
 clear C8 z4 e4 gr5 z5 D8 R33 R53 R3 R5
 go_wp2_with fail
 clear k8
 refine (levels_any P H5).mono ?_
 rintro e w6 ⟨V, rfl, gr6, t6, own6⟩
 have H6 := H5.step gr6 t6
 have R36 : Row w6 g3 0 lf.cells := R35.keep gr6.size (gr6.block g3 R35.1 (fun e => by have := Option.some.inj e; have := hg3.out; have := hg5.out; omega))
 have R56 : Row w6 g5 0 [.func (.func f) fst #[]] := R55.keep gr6.size (gr6.block g5 R55.1 (fun e => by have := Option.some.inj e; have := hg5.out; omega))
 have R86 : Row w6 g8 0 [.pointer (some ⟨hb, 0, none⟩)] := R8.keep gr6.size (gr6.block g8 R8.1 (fun e => by have := Option.some.inj e; have := hg8.out; omega))
 have hs56 := gr6.size
 have hs35 := e35.size
 have hs23 := H3.below.size
 have h8l := R8.1
 have hVone : ∀ u ∈ (List.range 8).map V, u.oneCell' = true := fun u hu => by
  obtain ⟨j, hj, rfl⟩ := List.mem_map.1 hu
  obtain ⟨A', n', c', e'⟩ := slice_of (own6 j (List.mem_range.1 hj))
  rw [e']
  rfl
 go_upto_region 5 with (first
  | ((with_reducible refine wpList_alloc_row ?_ 98 ?_ ((List.range 8).map fun _ => Value.slice none 0 0) zero_lv ?_); (· rfl); (· rfl); intro g9 w7 hg9 C9 z7 e7)
  | (refine wpList_store_cut rfl 98 (.tmp 9) (.tmp 27) rfl g9 0 ((List.range 8).map V) _ rfl rfl C9 (by simp) sz_lv hVone ?_; intro w8 hst))
 have e68 : Below w6.heap.size w6 w8 := below_only e7 hst.1 e7.size (by rw [hg9.out]; exact Nat.le_refl _)
 have R9 : Row w8 g9 0 ((List.range 8).map V) := Row.of_cut hst.2.2.1
 clear C9 z7 e7 hst
 go_upto_region 6 with (first
  | (refine wpList_alloc_one rfl 90 rfl .nilFunc rfl zero_fn ?_; intro g10 w9 hg10 C10 z9 e9)
  | (refine wpList_store_one rfl 90 (.tmp 10) (.tmp 28) rfl g10 (.func (.func 48) #[] #[.pointer (some ⟨g5, 0, none⟩), .pointer (some ⟨g8, 0, none⟩)]) _ rfl rfl C10 (sto_fn g10 _ _ _ _) ?_; intro w10 gr10 z10 D10))
 have e810 : Below w8.heap.size w8 w10 := below_only e9 gr10 e9.size (by rw [hg10.out]; exact Nat.le_refl _)
 have R10 : Row w10 g10 0 [.func (.func 48) #[] #[.pointer (some ⟨g5, 0, none⟩), .pointer (some ⟨g8, 0, none⟩)]] := Row.of_cut D10
 have e610 : Below w6.heap.size w6 w10 := e68.trans (e810.mono e68.size)
 have hs68 := e68.size
 have h9l := R9.1
 obtain ⟨B, hB⟩ : ∃ B, B = g10 + 1 := ⟨_, rfl⟩
 have hg10' := hg10.out
 have hg9' := hg9.out
 have hg8' := hg8.out
 have hg5' := hg5.out
 have hg3' := hg3.out
 have Ff10 : Ff w2 lf cs pA pc hb mb (ffL g10 g9 g8 g5 g3 f fst hb V lf) V B w10 := by
  refine ⟨H6.grow e610, fun q hq => ?_, fun j hj => ?_, by omega, by omega⟩
  ·unfold ffL at hq
   simp only [List.mem_cons, List.not_mem_nil, or_false] at hq
   rcases hq with rfl | rfl | rfl | rfl | rfl
   ·exact ⟨by show g10 < B; omega, by show g10 ≠ mb; omega, R10⟩
   ·exact ⟨by show g9 < B; omega, by show g9 ≠ mb; omega, R9.below e810⟩
   ·exact ⟨by show g8 < B; omega, by show g8 ≠ mb; omega, R86.below e610⟩
   ·exact ⟨by show g5 < B; omega, by show g5 ≠ mb; omega, R56.below e610⟩
   ·exact ⟨by show g3 < B; omega, by show g3 ≠ mb; omega, R36.below e610⟩
  ·obtain ⟨A', c', e', hl'⟩ := own_row (own6 j hj)
   exact ⟨A', c', e', hl'.imp id fun ⟨b, h1, h2, h3⟩ => ⟨b, h1, by have := h3.1; omega, by omega, h3.below e610⟩⟩
 have hBw : w.heap.size ≤ B := by omega
 have hBs : B ≤ w10.heap.size := by have := R10.1; omega
 clear R36 R56 R86 R9 R10 R35 R55 R8 own6 H5 H6 t6 gr6 e35 C10 z9 e9 gr10 z10 D10 e68 e810 e610 hVone H3 hs56 hs35 hs23 h8l hs68 h9l hg10 hg9 hg8 hg5 hg3 hbn hmn hbl hml
 replace hg10' := Lib.hid hg10'
 replace hg9' := Lib.hid hg9'
 replace hg8' := Lib.hid hg8'
 replace hg5' := Lib.hid hg5'
 replace hg3' := Lib.hid hg3'
 replace hB := Lib.hid hB
 obtain ⟨F, hF⟩ : ∃ F, F = ffL g10 g9 g8 g5 g3 f fst hb V lf := ⟨_, rfl⟩
 rw [← hF] at Ff10
 have m10 : (g10, [Value.func (.func 48) #[] #[.pointer (some ⟨g5, 0, none⟩), .pointer (some ⟨g8, 0, none⟩)]]) ∈ F := by rw [hF]; unfold ffL; simp
 have m9 : (g9, (List.range 8).map V) ∈ F := by rw [hF]; unfold ffL; simp
 have m8 : (g8, [Value.pointer (some ⟨hb, 0, none⟩)]) ∈ F := by rw [hF]; unfold ffL; simp
 have m5 : (g5, [Value.func (.func f) fst #[]]) ∈ F := by rw [hF]; unfold ffL; simp
 have m3 : (g3, lf.cells) ∈ F := by rw [hF]; unfold ffL; simp
 clear hF
 have hsl := slice_lv g9
 obtain ⟨pL, hpL⟩ : ∃ p : Nat → Bool, p = fun k => ((hse lf cs).lvl k).any fun i => tr (atC lf cs i) := ⟨_, rfl⟩
 have hq := indexS_any V 51 #[.pointer (some ⟨g10, 0, none⟩)] cf_f2 (fun U => Below w10.heap.size w10 U) pL g9 0 8 8 (List.range 8) rfl (by omega) (fun U q => (Ff10.below q).get m9) (fun U j hj q => by
  have Fq := Ff10.below q
  obtain ⟨A', c', e', hr'⟩ := Fq.rdI (List.mem_range.1 hj)
  rw [e']
  have hc := find2_any P Fq.hm A (c := c') (Fq.get m10) (Fq.get m5) (Fq.get m8) rfl (by have := lvl_len lf cs hlen j; omega) (hr' U Fq) (fun x hx => spot_lvl hx)
  refine Calls.mono hc ?_
  rintro e U' ⟨rfl, h2⟩
  exact ⟨by rw [hpL], q.trans (h2.mono q.size)⟩) w10 (Below.refl _ _)
 rw [idxS_range, show (List.range 8).find? pL = (hse lf cs).last tr by rw [hpL]; rfl] at hq
 clear hpL
 have hlast : ∀ l, (hse lf cs).last tr = some l → l < 8 := fun l h => (Chn.last_some _ h).1
 cases hL : (hse lf cs).last tr with
 | none =>
  rw [hL] at hq
  replace hL := Lib.hid hL
  dsimp only at hq
  go_wp2_with fail
  clear hsl
  refine hq.mono ?_
  clear hq
  rintro e w11 ⟨rfl, q11⟩
  go_wp2_with fail
  go_ret2
  refine ⟨(e2.trans ((Ff10.below q11).hm.below.mono e2.size)), ?_⟩
  rw [show (hse lf cs).find tr = none by unfold Chn.House.find; rw [hL.out]; rfl]
  rfl
 | some l =>
  rw [hL] at hq
  have hl8 := hlast l hL
  replace hL := Lib.hid hL
  dsimp only at hq
  go_wp2_with fail
  clear hsl
  refine hq.mono ?_
  clear hq
  rintro e w11 ⟨rfl, q11⟩
  have F11 := Ff10.below q11
  have hB11 := Nat.le_trans hBs q11.size
  clear Ff10 q11
  have zl : ¬ (l : Int) < 0 := by omega
  have zl8 : (l : Int) ≤ 7 := by omega
  go_upto_region 10 with ((with_reducible refine wpList_alloc_row ?_ 98 ?_ ((List.range 8).map fun _ => Value.slice none 0 0) zero_lv ?_); (· rfl); (· rfl); intro g12 w12 hg12 C12 z12 e12)
  have F12 := F11.below e12
  have hB12 : B ≤ g12 := by rw [hg12.out]; exact hB11
  have lv12 : Lv w12 (g12 + 1) g12 (fun _ => .slice none 0 0) (fun _ => []) := Lv.none C12 (Nat.lt_succ_self _)
  clear F11 C12 z12 e12 hB11 hg12
  go_wp2_with fail
  go_loopw [13] (fun t wr => ∃ (k1 : Nat) (VG : Nat → Value) (LG : Nat → List Int), t = .int .i64 ((k1 : Int) - 1) ∧ k1 ≤ l + 1 ∧ (∀ j, k1 ≤ j → j ≤ l → LG j = (hse lf cs).good tr l (l - j)) ∧ (∀ j, j < k1 → LG j = []) ∧ (∀ j, (LG j).length ≤ 16) ∧ Lv wr (g12 + 1) g12 VG LG ∧ Ff w2 lf cs pA pc hb mb F V B wr) (fun t _ => (intOf t + 1).toNat)
  case atStart => exact ⟨l + 1, _, _, congrArg (Value.int .i64) (by omega), Nat.le_refl _, fun j h1 h2 => by omega, fun j _ => rfl, fun j => Nat.zero_le _, lv12, F12⟩
  case round =>
   obtain ⟨k1, VG, LG, rfl, hk1, hG, hN, hS, lv, fr⟩ := hrel
   rcases k1 with _ | k
   ·rw [show ((0 : Nat) : Int) - 1 = -1 by omega]
    have lGall : ∀ j, j ≤ l → LG j = (hse lf cs).good tr l (l - j) := fun j hj => hG j (Nat.zero_le _) hj
    clear hN hG hk1 lv12 F12
    obtain ⟨Br, hBr⟩ : ∃ b, b = wr.heap.size := ⟨_, rfl⟩
    have hBB : B ≤ Br := by have := lv.arr.lt; omega
    have hg12B : g12 < Br := by have := lv.arr.lt; omega
    have hVlt : ∀ j, j < 8 → ∀ b, (VG j).ownBlock = some b → b < Br := fun j hj b e => by rw [hBr]; exact ((lv.own j hj).lt b e).2
    have R3r := fr.get m3
    go_upto_region 21 with (first
     | ((with_reducible refine wpList_load_mid ?_ 30 (.tmp 3) ?_ g3 0 ?_ lf.cells _ R3r.rng Tryz.underlying30 ?_ (sz_crt _) ?_); (· rfl); (· rfl); (· rfl); (· rfl))
     | (refine wpList_build_certO rfl (.tmp 78) rfl lf rfl ?_; intro g17 w20 hg17 o20 e20)
     | ((with_reducible refine wpList_alloc_one ?_ 3 ?_ (.int .i64 0) ?_ zero_int ?_); (· rfl); (· rfl); (· rfl); intro g18 w21 hg18 C18 z21 e21)
     | (refine wpList_store_int rfl (.tmp 18) (.const (.int .i64 (-1))) rfl g18 (-1) _ rfl rfl C18 ?_; intro w22 gr22 z22 D18))
    go_frame
    have hg17' : g17 = Br := by rw [hg17.out, hBr]
    have s20 := e20.size
    have h1718 : g17 < g18 := by
     have h1 := (o20.lt g17 rfl).2
     rw [hg18.out]
     exact h1
    have e22 : Below wr.heap.size wr w22 := below_only (e20.trans (e21.mono e20.size)) gr22 (e20.trans (e21.mono e20.size)).size (by rw [hg18.out]; omega)
    have o22 : w22.ownsRow Br 30 24 (.slice (some ⟨g17, 0, none⟩) 1 1) 1 (crtCells [lf]) := by
     have h1 := o20.kept (only_of_below e21 none) (.inr (by show some g17 ≠ none; simp))
     have h2 := h1.kept gr22 (.inr (by show some g17 ≠ some g18; simp; omega))
     rw [hBr]
     exact h2
    have lv22 := lv.below e22
    have fr22 := fr.below e22
    have hlm : (-1 : Int) ∈ (hse lf cs).good tr l l := by
     have h1 := Chn.last_some _ hL.out
     exact Chn.good_root _ h1.2.1
    have hBr18 : Br ≤ g18 := by omega
    replace hg17' := Lib.hid hg17'
    clear hBr hg17 s20 e20 o20 C18 hg18 z21 e21 gr22 z22 e22 R3r lv fr
    go_wp2_with fail
    go_loopw [17, 19] (fun t17 t19 wr => ∃ (m : Nat) (a : Int) (R : List Crt), t19 = .int .i64 ((m : Int) + 1) ∧ m ≤ l ∧ a ∈ (hse lf cs).good tr l (l - m) ∧ R.length = m + 1 ∧ R ++ ((hse lf cs).rowI tr l (l - m) a).map (hse lf cs).at = lf :: ((hse lf cs).rowI tr l l (-1)).map (hse lf cs).at ∧ wr.ownsRow Br 30 24 t17 (m + 1) (crtCells R) ∧ t17.ownBlock ≠ some g18 ∧ Cut wr g18 0 [.int .i64 a] ∧ Lv wr (g12 + 1) g12 VG LG ∧ Ff w2 lf cs pA pc hb mb F V B wr) (fun _ t _ => 20 - (intOf t).toNat)
    case atStart => exact ⟨0, -1, [lf], rfl, Nat.zero_le _, hlm, rfl, rfl, o22, by have := hg17'.out; show some g17 ≠ some g18; simp; omega, D18, lv22, fr22⟩
    case round =>
     clear o22 D18 lv22 fr22 hlm
     obtain ⟨m, ya, R, rfl, hm, ha, hRl, hR, o17, n17, D18, lv, fr⟩ := hrel
     have z17 : (m : Int) ≤ 7 := by omega
     by_cases hml : m < l
     ·have z18 : (m : Int) + 1 ≤ (l : Int) := by omega
      have z19 : (m : Int) + 1 < 8 := by omega
      have hGm := lGall (m + 1) (by omega)
      obtain ⟨AG, cG, eG, hcapG, hcmG, hrdG⟩ := own_rd (lv.own (m + 1) (by omega))
      obtain ⟨xs, hxs⟩ : ∃ xs, xs = LG (m + 1) := ⟨_, rfl⟩
      rw [← hxs] at eG hcapG hrdG hGm
      have hgn : xs.length ≤ 16 := by rw [hxs]; exact hS _
      replace hxs := Lib.hid hxs
      have kG : wr.cell? ⟨g12, m + 1, none⟩ = some (.slice AG xs.length cG) := by rw [← eG]; exact lv.at (by omega)
      obtain ⟨p0, hp0, hs0⟩ := Chn.good_leads (hse lf cs) (d := l - (m + 1)) (i := ya) (by rw [show l - (m + 1) + 1 = l - m by omega]; exact ha)
      rw [← hGm] at hp0
      obtain ⟨ii, x, hxi, hpx, hfi⟩ := idx_found (p := fun x => sgAt lf cs ya x) ⟨p0, hp0, hs0⟩
      have hys : Spot cs ya := spot_lvl (Chn.good_sub _ ha)
      have hxm : x ∈ (hse lf cs).good tr l (l - (m + 1)) := by rw [← hGm]; exact List.mem_of_getElem? hxi
      have hxl := Chn.good_sub _ hxm
      rw [show l - (l - (m + 1)) = m + 1 by omega] at hxl
      obtain ⟨hx0, hx1⟩ := ((Chn.mem_lvl_succ _).1 hxl).1
      have hx1 : x < (cs.length : Int) := hx1
      obtain ⟨j, rfl⟩ : ∃ j : Nat, x = (j : Int) := ⟨x.toNat, by omega⟩
      have hj : j < cs.length := by omega
      obtain ⟨c, hc⟩ : ∃ c, cs[j]? = some c := ⟨_, List.getElem?_eq_getElem hj⟩
      have hAb : ∀ U, CloI (sgAt lf cs) mb wr U → RdI U AG xs := fun U q => by
       rcases hrdG with h0 | ⟨b, o, h1, h2⟩
       ·exact .inl h0
       ·refine .inr ⟨b, o, h1, q.row h2 ?_⟩
        have h4 := ((lv.own (m + 1) (by omega)).lt b (by rw [eG, h1]; rfl)).1
        have := fr.mB
        omega
      have n18 : g18 ≠ mb := by have := fr.mB; omega
      have r18 : Row wr g18 0 [.int .i64 ya] := Row.of_cut D18
      have hq := indexI_any 56 #[.pointer (some ⟨g8, 0, none⟩), .pointer (some ⟨g18, 0, none⟩)] cf_f4 (CloI (sgAt lf cs) mb wr) (fun x => sgAt lf cs ya x) AG _ cG xs rfl (by omega) hAb (fun U x hx q => (find4_any P (q.hm fr.hm) (q.row (fr.get m8) (fr.ne m8)) (q.row r18 n18) (by rw [hGm] at hx; exact spot_lvl (Chn.good_sub _ hx)) hys).mono fun e U' h => q.next h) wr (CloI.refl fr.hm.tbl)
      rw [hfi] at hq
      have hil : ii < xs.length := (List.getElem?_eq_some_iff.1 hxi).1
      have zi : (ii : Int) < (xs.length : Int) := by omega
      replace hGm := Lib.hid hGm
      replace hpx := Lib.hid hpx
      replace hR := Lib.hid hR
      go_wp2_with fail
      clear kG
      refine hq.mono ?_
      clear hq
      rintro e wq ⟨rfl, qx⟩
      obtain ⟨bG, oG, hAG, kx⟩ := (hAb wq qx).at hxi
      have lvq := lv.kept qx.g (fun b e => by cases e; have := fr.mB; exact ⟨by omega, by omega⟩)
      have frq := fr.clo qx
      have kG : wq.cell? ⟨g12, m + 1, none⟩ = some (.slice (some ⟨bG, oG, none⟩) xs.length cG) := by rw [← hAG, ← eG]; exact lvq.at (by omega)
      have D18q := D18.grown qx.g (fun e => n18 (Option.some.inj e).symm)
      have o17q := o17.kept qx.g (by
       cases e : u17.ownBlock with
       | none => exact .inl rfl
       | some b =>
        refine .inr fun e2 => ?_
        have h1 := (o17.lt b e).1
        cases e2
        have := fr.mB
        omega)
      subst hAG
      have hA := P.A.resolve_left (by rintro rfl; simp at hj)
      subst hA
      clear hrdG hAb lv fr D18 o17 qx r18 hfi
      go_upto_region 26 with (first
       | (refine wpList_store_int rfl (.tmp 18) (.tmp 95) rfl g18 (j : Int) _ rfl rfl D18q ?_; intro w25 gr25 z25 D25))
      go_frame
      have lv25 := lvq.far gr25 (Br := Br) (fun b e => by cases e; exact hBr18) hVlt hg12B
      have fr25 := frq.new gr25 (fun b e => by cases e; omega)
      have o25 := o17q.kept gr25 (.inr n17)
      have k25 : w25.cell? ⟨g18, 0, none⟩ = some (.int .i64 (j : Int)) := D25.cell (i := 0) rfl
      have Rc := crt_row (P.row.below fr25.hm.below) hc
      have zj : (j : Int) < (cs.length : Int) := by omega
      clear kx kG lvq frq o17q gr25 z25 D18q
      go_wp2_with (first
       | ((with_reducible refine wpList_load_mid ?_ 30 (.tmp 99) ?_ gp (op + j * 24) ?_ c.cells _ Rc.rng Tryz.underlying30 ?_ (sz_crt _) ?_); (· rfl); (· rfl); (· rfl); (· rfl))
       | (refine wpList_build_certO rfl (.tmp 100) rfl c rfl ?_; intro g26 w26 hg26 o26 e26)
       | (at_builtin; refine wpList_append_crtG rfl (.tmp 96) (.tmp 101) rfl Br u17 R (m + 1) rfl hRl.symm (o25.kept (only_of_below e26 none) (own_none u17)) g26 c rfl o26 (by omega) (by have := e26.size; have := D25.lt; omega) ?_; intro v27 w27 o27 gr27 loc27))
      have s26 := e26.size
      have hg26' := hg26.out
      have h18 := D25.lt
      have gr27n : ∀ b, u17.ownBlock = some b → Br ≤ b := fun b e => (o25.lt b e).1
      have lv27 := (lv25.below e26).far gr27 (Br := Br) gr27n hVlt hg12B
      have fr27 := (fr25.below e26).new gr27 (fun b e => by have := gr27n b e; omega)
      have D27 := (D25.below e26).grown gr27 n17
      have hat : (hse lf cs).at (j : Int) = c := by
       rw [hse_at]
       unfold atC
       rw [if_neg (by omega), Int.toNat_natCast, hc]
       rfl
      have hrow : (hse lf cs).rowI tr l (l - m) ya = (j : Int) :: (hse lf cs).rowI tr l (l - (m + 1)) (j : Int) := by
       rw [show l - m = (l - (m + 1)) + 1 by omega, Chn.House.rowI]
       rw [show ((hse lf cs).good tr l (l - (m + 1))).find? (fun p => (hse lf cs).sg ((hse lf cs).at ya) ((hse lf cs).at p)) = some (j : Int) by rw [← hGm.out]; exact hpx.out]
      go_roundw
      case rel =>
       refine ⟨m + 1, (j : Int), R ++ [c], by go_num, by omega, hxm, by simp [hRl], ?_, o27, ?_, D27, lv27, fr27⟩
       ·rw [← hR.out, hrow, List.map_cons, hat, List.append_assoc]
        rfl
       ·rcases loc27 with e | e
        ·rw [e]; exact n17
        ·rw [e]
         simp
         omega
      case measure =>
       simp [intOf]
       omega
     ·obtain rfl : m = l := by omega
      have z18 : ¬ (m : Int) + 1 ≤ (m : Int) := by omega
      rw [Nat.sub_self, Chn.House.rowI, List.map_nil, List.append_nil] at hR
      obtain ⟨gR, cR, rfl, hcR, hmR, hbR, rowR⟩ := own_crt o17 (by omega)
      replace hR := Lib.hid hR
      go_wp2_with fail
      go_ret2
      refine ⟨e2.trans (fr.hm.below.mono e2.size), ?_⟩
      rw [show (hse lf cs).find tr = some R by unfold Chn.House.find; rw [hL.out, hR.out]; rfl]
      exact ⟨gR, cR, by rw [← hRl]; rfl, by omega, hmR, by omega, rowR⟩
   ·rw [show ((k + 1 : Nat) : Int) - 1 = (k : Int) by omega]
    have hkl : k ≤ l := by omega
    have k8 : k < 8 := by omega
    have zk : (k : Int) ≤ 7 := by omega
    have zk0 : (0 : Int) ≤ (k : Int) := by omega
    clear lv12 F12
    obtain ⟨A', c', e', hr'⟩ := fr.rdI k8
    have kV : wr.cell? ⟨g9, k, none⟩ = some (.slice A' ((hse lf cs).lvl k).length c') := by
     have h1 := (fr.get m9).2 k (V k) (by simp [k8])
     rw [Nat.zero_add, e'] at h1
     exact h1
    have hll := lvl_len lf cs hlen k
    obtain ⟨xs, hxs⟩ : ∃ xs, xs = (hse lf cs).lvl k := ⟨_, rfl⟩
    rw [← hxs] at kV hr' hll
    replace hxs := Lib.hid hxs
    go_wp2_with fail
    clear kV
    go_loopw [43] (fun t wr => ∃ (ix : Nat) (VG : Nat → Value) (LG : Nat → List Int), t = .int .i64 (ix : Int) ∧ ix ≤ xs.length ∧ (∀ j, k + 1 ≤ j → j ≤ l → LG j = (hse lf cs).good tr l (l - j)) ∧ (∀ j, j < k → LG j = []) ∧ (∀ j, (LG j).length ≤ 16) ∧ LG k = gdP lf cs tr l (l - k) ix ∧ Lv wr (g12 + 1) g12 VG LG ∧ Ff w2 lf cs pA pc hb mb F V B wr) (fun t _ => xs.length - (intOf t).toNat)
    case atStart => exact ⟨0, VG, LG, rfl, Nat.zero_le _, hG, fun j hj => hN j (by omega), hS, by rw [hN k (by omega)]; rfl, lv, fr⟩
    case round =>
     clear lv fr hG hN hS VG LG
     obtain ⟨ix, VG, LG, rfl, hi, hG, hN, hS, hP, lv, fr⟩ := hrel
     have z8 : (ix : Int) ≤ 16 := by omega
     by_cases hix : ix < xs.length
     ·have z9 : (ix : Int) < (xs.length : Int) := by omega
      obtain ⟨y, hy⟩ : ∃ y, xs[ix]? = some y := ⟨_, List.getElem?_eq_getElem hix⟩
      have hyl : ((hse lf cs).lvl (l - (l - k)))[ix]? = some y := by rw [show l - (l - k) = k by omega, ← hxs.out]; exact hy
      have hys : Spot cs y := spot_lvl (k := k) (by rw [← hxs.out]; exact List.mem_of_getElem? hy)
      obtain ⟨bb, bo, hAb, kyc⟩ := (hr' wr fr).at hy
      subst hAb
      go_upto_region 16 with (first
       | ((with_reducible refine wpList_alloc_one ?_ 3 ?_ (.int .i64 0) ?_ zero_int ?_); (· rfl); (· rfl); (· rfl); intro g15 w13 hg15 C15 z13 e13)
       | ((with_reducible refine wpList_store_int ?_ (.tmp 15) (.tmp 46) ?_ g15 y _ ?_ ?_ C15 ?_); (· rfl); (· rfl); (· rfl); (· rfl); intro w14 gr14 z14 D15))
      have e14 : Below wr.heap.size wr w14 := below_only e13 gr14 e13.size (by rw [hg15.out]; exact Nat.le_refl _)
      have D15 : Row w14 g15 0 [.int .i64 y] := Row.of_cut D15
      have lv14 := lv.below e14
      have fr14 := fr.below e14
      have hBr : B ≤ g15 := by have := lv.arr.lt; rw [hg15.out]; omega
      have n15 : g15 ≠ mb := by have := fr.mB; omega
      clear C15 z13 e13 gr14 z14 e14 kyc lv fr hg15
      go_frame
      obtain ⟨qb, hqb⟩ : ∃ q, q = gdQ lf cs tr l (l - k) y := ⟨_, rfl⟩
      replace hqb := Lib.hid hqb
      have Fy := fun U (fU : Ff w2 lf cs pA pc hb mb F V B U) => find1_any P fU.hm A (fU.get m5) (fU.get m8) hys
      go_upto_region 17 with fail
      go_cut [68] from 48 to 68 (fun s68 wx => s68 = .bool qb ∧ CloI (sgAt lf cs) mb w14 wx)
      case first =>
       by_cases hkeq : k = l
       ·subst hkeq
        have kc : w14.cell? ⟨g10, 0, none⟩ = some (.func (.func 48) #[] #[.pointer (some ⟨g5, 0, none⟩), .pointer (some ⟨g8, 0, none⟩)]) := (fr14.get m10).2 0 _ rfl
        have ky : w14.cell? ⟨g15, 0, none⟩ = some (.int .i64 y) := D15.2 0 _ rfl
        have hz : qb = tr (atC lf cs y) := by rw [hqb.out, Nat.sub_self]; rfl
        have Fq := Fy w14 fr14
        rw [← hz] at Fq
        clear Fy
        replace hz := Lib.hid hz
        go_wp2_with fail
        refine Fq.mono ?_
        rintro e wx ⟨rfl, qx⟩
        cases qb
        ·go_wp2_with fail
         go_meet
         case rel => exact ⟨rfl, (CloI.refl fr14.hm.tbl).below qx⟩
        ·go_wp2_with fail
         go_meet
         case rel => exact ⟨rfl, (CloI.refl fr14.hm.tbl).below qx⟩
       ·have hkl2 : k < l := by omega
        have zkl : (k : Int) < (l : Int) := by omega
        have zne : ((k : Int) == (l : Int)) = false := by simp; omega
        obtain ⟨AG, cG, eG, hcapG, hcmG, hrdG⟩ := own_rd (lv14.own (k + 1) (by omega))
        have kG : w14.cell? ⟨g12, k + 1, none⟩ = some (.slice AG (LG (k + 1)).length cG) := by rw [← eG]; exact lv14.at (by omega)
        have hGk := hG (k + 1) (Nat.le_refl _) (by omega)
        have hgn := hS (k + 1)
        have hAb : ∀ U, CloI (sgAt lf cs) mb w14 U → RdI U AG (LG (k + 1)) := fun U q => by
         rcases hrdG with h0 | ⟨b, o, h1, h2⟩
         ·exact .inl h0
         ·refine .inr ⟨b, o, h1, q.row h2 ?_⟩
          have h4 := ((lv14.own (k + 1) (by omega)).lt b (by rw [eG, h1]; rfl)).1
          have := fr14.mB
          omega
        have hq := containsI_any 53 #[.pointer (some ⟨g8, 0, none⟩), .pointer (some ⟨g15, 0, none⟩)] cf_f3 (CloI (sgAt lf cs) mb w14) (fun p => sgAt lf cs y p) AG _ cG (LG (k + 1)) rfl (by omega) hAb (fun U x hx q => (find3_any P (q.hm fr14.hm) (q.row (fr14.get m8) (fr14.ne m8)) (q.row D15 n15) (by rw [hGk] at hx; exact spot_lvl (Chn.good_sub _ hx)) hys).mono fun e U' h => q.next h) w14 (CloI.refl fr14.hm.tbl)
        have hz : qb = (LG (k + 1)).any fun p => sgAt lf cs y p := by
         rw [hqb.out, hGk, show l - k = (l - (k + 1)) + 1 by omega]
         rfl
        rw [← hz] at hq
        clear hz eG hcapG hcmG hrdG hAb hGk Fy
        generalize (LG (k + 1)).length = nn at kG hq hgn
        go_wp2_with fail
        clear kG
        refine hq.mono ?_
        clear hq
        rintro e wx ⟨rfl, qx⟩
        cases qb
        ·go_wp2_with fail
         go_meet
         case rel => exact ⟨rfl, qx⟩
        ·go_wp2_with fail
         go_meet
         case rel => exact ⟨rfl, qx⟩
      case rest =>
       obtain ⟨rfl, q16⟩ := hcut
       have fr16 := fr14.clo q16
       have lv16 := lv14.kept q16.g (fun b e => by cases e; have := fr14.mB; exact ⟨by omega, by omega⟩)
       have D16 := q16.row D15 n15
       clear q16 fr14 lv14 D15 Fy
       cases qb
       case false =>
        go_wp2_with fail
        go_roundw
        case rel => exact ⟨ix + 1, VG, LG, by go_num, by omega, hG, hN, hS, by rw [hP, gdP_no hyl hqb.out.symm], lv16, fr16⟩
        case measure =>
         simp [intOf]
         omega
       case true =>
        obtain ⟨gz, hgz⟩ : ∃ q, q = wc.heap.size := ⟨_, rfl⟩
        replace hgz := Lib.hid hgz
        have hPl := hS k
        have B16 : g12 + 1 ≤ wc.heap.size := by have := lv16.arr.lt; omega
        have k16 : ∀ U : World, Below wc.heap.size wc U → U.cell? ⟨g15, 0, none⟩ = some (.int .i64 y) := fun U b => (D16.below b).2 0 _ rfl
        go_upto_region 18 with fail
        refine wp_region_eff (by kernel_rfl) (fun i => i == 5 || i == 6 || i == 8) (fun i => i == 8) (fun i => if i = 8 then 1008 else 69 + i) (gdT g12 gz k y (VG k)) (gdG (Ff w2 lf cs pA pc hb mb F V B) (g12 + 1) g12 gz k y VG LG wc) (by kernel_rfl) (by kernel_rfl) ?hno ?inj ?hEs ?hGe ?hG ⟨?s0, ?s1, ?s2, ?s3, ?s4, ?s5, ?s6, ?s7, ?s8, trivial⟩ ?fin
        case hno =>
         intro i h v W
         have h : (i == 8) = true := h
         simp at h
         subst h; trivial
        case inj =>
         intro i j hi hj h
         have h40 : i < 9 ∧ j < 9 := ⟨hi, hj⟩
         have h : (if i = 8 then 1008 else 69 + i) = (if j = 8 then 1008 else 69 + j) := h
         (repeat' split at h) <;> omega
        case hEs =>
         intro j h
         have h : (j == 5 || j == 6 || j == 8) = true := h
         show j < 9
         simp at h
         omega
        case hGe => exact fun d d' x x' U h h6 hg => by unfold gdG at *; rw [← h 5 rfl, ← h 6 rfl, ← h 8 rfl, ← h6 6 rfl]; exact hg
        case hG => exact fun x => ⟨below_drewN (Below.refl _ _) 1, hgz.out.symm⟩
        case s0 => exact fun d_ v_ hd_ hc_ => (st_move rfl (.inl rfl) (src_base (fun i hi => by have hi : i < 9 := hi; show (if i = 8 then 1008 else 69 + i) ≠ 13; (repeat' split) <;> omega) rfl))
        case s1 => exact fun d_ v_ hd_ hc_ => (st_move rfl (.inl rfl) (src_base (fun i hi => by have hi : i < 9 := hi; show (if i = 8 then 1008 else 69 + i) ≠ 13; (repeat' split) <;> omega) rfl))
        case s2 => exact fun d_ v_ hd_ hc_ => (st_run rfl (fun a U hba hd hg => ⟨.pointer (some ⟨g12, k, none⟩), U, by
          have u1 : a.eval (.tmp 70) = .int .i64 (k : Int) := (hd ⟨1, .data⟩ (by simp) rfl).now
          have u2 : a.eval (.tmp 12) = .pointer (some ⟨g12, 0, none⟩) := (hba 12 (fun q hq => by have hq : q < 9 := hq; show (if q = 8 then 1008 else 69 + q) ≠ 12; split <;> omega)).trans rfl
          unfold execOp
          simp only [u1, u2, ia_lv0 g12 k k8, Sem.run_bind, Sem.run_pure, Result.andThen_ok], Sub.refl U, hg, Sp.tv rfl⟩))
        case s3 => exact fun d_ v_ hd_ hc_ => (st_run rfl (fun a U hba hd hg => by
          have u1 : a.eval (.tmp 71) = .pointer (some ⟨g12, k, none⟩) := (hd ⟨2, .data⟩ (by simp) rfl).now
          have h6 : d_ 6 = false := by
           cases h6 : d_ 6 with
           | false => rfl
           | true =>
            have := hc_ 6 _ rfl h6 ⟨3, .data⟩ (by simp) rfl
            rw [hd_] at this
            exact Bool.noConfusion this
          have k45 : U.cell? ⟨g12, k, none⟩ = some (VG k) := (lv16.below (gdG_g h6 hg)).at k8
          refine ⟨VG k, U, ?_, Sub.refl U, hg, Sp.tv rfl⟩
          unfold execOp
          simp only [u1, Sem.run_bind, Sem.run_pure, ld_isl _ _ U k45, Result.andThen_ok]))
        case s4 => exact fun d_ v_ hd_ hc_ => (st_load rfl rfl rfl (src_base (fun q hq => by have hq : q < 9 := hq; show (if q = 8 then 1008 else 69 + q) ≠ 15; split <;> omega) rfl) (ld_int _ _) (fun U h => by
          have h5 : d_ 5 = false := by
           cases h5 : d_ 5 with
           | false => rfl
           | true =>
            have := hc_ 5 _ rfl h5 ⟨4, .data⟩ (by simp) rfl
            rw [hd_] at this
            exact Bool.noConfusion this
          exact k16 U (gdG_f h5 h).1))
        case s5 =>
         refine eff_run rfl fun d a U hd hba hdp hal hG => ?_
         have u1 : a.eval (.tmp 73) = .int .i64 y := (hdp ⟨4, .data⟩ (by simp) rfl).now
         obtain ⟨q1, q2⟩ := gdG_f hd hG
         have h6 : d 6 = false ∧ d 8 = false := by
          unfold gdG at hG
          rw [hd] at hG
          cases h6 : d 6 <;> cases h8 : d 8 <;> rw [h6, h8] at hG
          ·exact ⟨rfl, rfl⟩
          ·exact hG.elim
          ·exact hG.elim
          ·exact hG.elim
         refine ⟨_, _, bs1_int rfl a U u1, (stat_gd _ _ _ _ _).sp (by rw [q2]; rfl), (stat_gd _ _ _ _ _).keep 5, fun v' _ _ => ?_⟩
         unfold gdG
         rw [show done1 d 5 5 = true from rfl, show done1 d 5 6 = false from h6.1, show done1 d 5 8 = false from h6.2]
         refine ⟨q1.alloc q1.size _, ?_⟩
         rw [← q2]
         exact lit_cell _ _ _
        case s6 =>
         refine eff_run rfl fun d a U hd hba hdp hal hG => ?_
         have d5 : d 5 = true := hal ⟨5, .data⟩ (by simp) rfl
         have u1 : a.eval (.tmp 72) = VG k := (hdp ⟨3, .data⟩ (by simp) rfl).now
         have u2 : a.eval (.tmp 74) = .slice (some ⟨gz, 0, none⟩) 1 1 := (hdp ⟨5, .data⟩ (by simp) rfl).now
         unfold gdG at hG
         rw [hd, d5] at hG
         cases h8 : d 8 with
         | true => rw [h8] at hG; exact hG.elim
         | false =>
          rw [h8] at hG
          obtain ⟨q1, q2⟩ : Below wc.heap.size wc U ∧ U.cell? ⟨gz, 0, none⟩ = some (.int .i64 y) := hG
          refine (app_int (by rfl) a U u1 u2 ((lv16.below q1).own k k8) q2 (by omega) (Nat.le_trans B16 q1.size)).elim fun v' hh => hh.elim fun U' hh => ⟨v', U', hh.1, (stat_gd _ _ _ _ _).sp trivial, (stat_gd _ _ _ _ _).keep 6, fun vv _ hv => ?_⟩
          obtain ⟨_, h1, h2, h3⟩ := hh
          unfold gdG
          rw [show done1 d 6 5 = true from d5, show done1 d 6 6 = true from rfl, show done1 d 6 8 = false from h8, hv (by simp)]
          exact ⟨U, q1, by simpa [intV] using h1, h2, h3⟩
        case s7 => exact fun d_ v_ hd_ hc_ => (st_run rfl (fun a U hba hd hg => ⟨.pointer (some ⟨g12, k, none⟩), U, by
          have u1 : a.eval (.tmp 69) = .int .i64 (k : Int) := (hd ⟨0, .data⟩ (by simp) rfl).now
          have u2 : a.eval (.tmp 12) = .pointer (some ⟨g12, 0, none⟩) := (hba 12 (fun q hq => by have hq : q < 9 := hq; show (if q = 8 then 1008 else 69 + q) ≠ 12; split <;> omega)).trans rfl
          unfold execOp
          simp only [u1, u2, ia_lv0 g12 k k8, Sem.run_bind, Sem.run_pure, Result.andThen_ok], Sub.refl U, hg, Sp.tv rfl⟩))
        case s8 =>
         intro d a U hd hba hdp hal hG K hK
         have d5 : d 5 = true := hal ⟨5, .phase⟩ (by simp) rfl
         have d6 : d 6 = true := hal ⟨6, .data⟩ (by simp) rfl
         have u1 : a.eval (.tmp 76) = .pointer (some ⟨g12, k, none⟩) := (hdp ⟨7, .data⟩ (by simp) rfl).now
         unfold gdG at hG
         rw [hd, d5, d6] at hG
         obtain ⟨U0, q1, q2, q3, q4⟩ := hG
         have q2 : U.ownsRow (g12 + 1) 3 1 (a.tmps.getD 75 undef) (LG k ++ [y]).length ((LG k ++ [y]).map intV) := q2
         have q4 : (a.tmps.getD 75 undef).ownBlock = (VG k).ownBlock ∨ (a.tmps.getD 75 undef).ownBlock = some U0.heap.size := q4
         have lvU := lv16.below q1
         have hblk : ∀ b, (VG k).ownBlock = some b → g12 + 1 ≤ b := fun b e => ((lvU.own k k8).lt b e).1
         have frU := (fr16.below q1).new q3 (fun b e => by have := hblk b e; omega)
         have C2 := lvU.arr.grown q3 (fun e => by have := hblk _ e; omega)
         refine step_store_sl rfl (.tmp 76) (.tmp 75) rfl g12 k _ (a.tmps.getD 75 undef) u1 rfl (slice_of q2) C2 (by simp; omega) (fun w' gr _ hcut => hK undef w' (fun _ _ => trivial) ((stat_gd _ _ _ _ _).keep 8) (fun v' hv _ => ?_))
         unfold gdG
         rw [show done1 d 8 5 = true from d5, show done1 d 8 6 = true from d6, show done1 d 8 8 = true from rfl, hv 6 (by omega) rfl]
         exact ⟨lvU.put k8 q2 q3 q4 gr hcut, frU.new gr (fun b e => by cases e; omega)⟩
        case fin =>
         intro a wz h1 h2 h3 h4 h5
         have hz : a.tmps.size = 104 := h2
         have hdf : a.defers = [] := h1
         have b0 := h3 0 (fun i hi => by have h8 : i < 9 := hi; show (if i = 8 then 1008 else 69 + i) ≠ 0; (repeat' split) <;> omega)
         replace b0 : a.tmps.getD 0 undef = .agg lf.cells.toArray := b0
         have b1 := h3 1 (fun i hi => by have h8 : i < 9 := hi; show (if i = 8 then 1008 else 69 + i) ≠ 1; (repeat' split) <;> omega)
         replace b1 : a.tmps.getD 1 undef = .slice pA cs.length pc := b1
         have b2 := h3 2 (fun i hi => by have h8 : i < 9 := hi; show (if i = 8 then 1008 else 69 + i) ≠ 2; (repeat' split) <;> omega)
         replace b2 : a.tmps.getD 2 undef = .func (.func f) fst #[] := b2
         have b3 := h3 3 (fun i hi => by have h8 : i < 9 := hi; show (if i = 8 then 1008 else 69 + i) ≠ 3; (repeat' split) <;> omega)
         replace b3 : a.tmps.getD 3 undef = .pointer (some ⟨g3, 0, none⟩) := b3
         have b4 := h3 4 (fun i hi => by have h8 : i < 9 := hi; show (if i = 8 then 1008 else 69 + i) ≠ 4; (repeat' split) <;> omega)
         replace b4 : a.tmps.getD 4 undef = undef := b4
         have b5 := h3 5 (fun i hi => by have h8 : i < 9 := hi; show (if i = 8 then 1008 else 69 + i) ≠ 5; (repeat' split) <;> omega)
         replace b5 : a.tmps.getD 5 undef = .pointer (some ⟨g5, 0, none⟩) := b5
         have b6 := h3 6 (fun i hi => by have h8 : i < 9 := hi; show (if i = 8 then 1008 else 69 + i) ≠ 6; (repeat' split) <;> omega)
         replace b6 : a.tmps.getD 6 undef = .slice none 0 0 := b6
         have b7 := h3 7 (fun i hi => by have h8 : i < 9 := hi; show (if i = 8 then 1008 else 69 + i) ≠ 7; (repeat' split) <;> omega)
         replace b7 : a.tmps.getD 7 undef = .bool false := b7
         have b8 := h3 8 (fun i hi => by have h8 : i < 9 := hi; show (if i = 8 then 1008 else 69 + i) ≠ 8; (repeat' split) <;> omega)
         replace b8 : a.tmps.getD 8 undef = .pointer (some ⟨g8, 0, none⟩) := b8
         have b9 := h3 9 (fun i hi => by have h8 : i < 9 := hi; show (if i = 8 then 1008 else 69 + i) ≠ 9; (repeat' split) <;> omega)
         replace b9 : a.tmps.getD 9 undef = .pointer (some ⟨g9, 0, none⟩) := b9
         have b10 := h3 10 (fun i hi => by have h8 : i < 9 := hi; show (if i = 8 then 1008 else 69 + i) ≠ 10; (repeat' split) <;> omega)
         replace b10 : a.tmps.getD 10 undef = .pointer (some ⟨g10, 0, none⟩) := b10
         have b11 := h3 11 (fun i hi => by have h8 : i < 9 := hi; show (if i = 8 then 1008 else 69 + i) ≠ 11; (repeat' split) <;> omega)
         replace b11 : a.tmps.getD 11 undef = .int .i64 (l : Int) := b11
         have b12 := h3 12 (fun i hi => by have h8 : i < 9 := hi; show (if i = 8 then 1008 else 69 + i) ≠ 12; (repeat' split) <;> omega)
         replace b12 : a.tmps.getD 12 undef = .pointer (some ⟨g12, 0, none⟩) := b12
         have b13 := h3 13 (fun i hi => by have h8 : i < 9 := hi; show (if i = 8 then 1008 else 69 + i) ≠ 13; (repeat' split) <;> omega)
         replace b13 : a.tmps.getD 13 undef = .int .i64 (k : Int) := b13
         have b14 := h3 14 (fun i hi => by have h8 : i < 9 := hi; show (if i = 8 then 1008 else 69 + i) ≠ 14; (repeat' split) <;> omega)
         replace b14 : a.tmps.getD 14 undef = undef := b14
         have b15 := h3 15 (fun i hi => by have h8 : i < 9 := hi; show (if i = 8 then 1008 else 69 + i) ≠ 15; (repeat' split) <;> omega)
         replace b15 : a.tmps.getD 15 undef = .pointer (some ⟨g15, 0, none⟩) := b15
         have b16 := h3 16 (fun i hi => by have h8 : i < 9 := hi; show (if i = 8 then 1008 else 69 + i) ≠ 16; (repeat' split) <;> omega)
         replace b16 : a.tmps.getD 16 undef = .func (.func 53) #[] #[.pointer (some ⟨g8, 0, none⟩), .pointer (some ⟨g15, 0, none⟩)] := b16
         have b17 := h3 17 (fun i hi => by have h8 : i < 9 := hi; show (if i = 8 then 1008 else 69 + i) ≠ 17; (repeat' split) <;> omega)
         replace b17 : a.tmps.getD 17 undef = undef := b17
         have b18 := h3 18 (fun i hi => by have h8 : i < 9 := hi; show (if i = 8 then 1008 else 69 + i) ≠ 18; (repeat' split) <;> omega)
         replace b18 : a.tmps.getD 18 undef = undef := b18
         have b19 := h3 19 (fun i hi => by have h8 : i < 9 := hi; show (if i = 8 then 1008 else 69 + i) ≠ 19; (repeat' split) <;> omega)
         replace b19 : a.tmps.getD 19 undef = undef := b19
         have b20 := h3 20 (fun i hi => by have h8 : i < 9 := hi; show (if i = 8 then 1008 else 69 + i) ≠ 20; (repeat' split) <;> omega)
         replace b20 : a.tmps.getD 20 undef = undef := b20
         have b21 := h3 21 (fun i hi => by have h8 : i < 9 := hi; show (if i = 8 then 1008 else 69 + i) ≠ 21; (repeat' split) <;> omega)
         replace b21 : a.tmps.getD 21 undef = .func (.func f) fst #[] := b21
         have b22 := h3 22 (fun i hi => by have h8 : i < 9 := hi; show (if i = 8 then 1008 else 69 + i) ≠ 22; (repeat' split) <;> omega)
         replace b22 : a.tmps.getD 22 undef = .bool false := b22
         have b23 := h3 23 (fun i hi => by have h8 : i < 9 := hi; show (if i = 8 then 1008 else 69 + i) ≠ 23; (repeat' split) <;> omega)
         replace b23 : a.tmps.getD 23 undef = .agg lf.cells.toArray := b23
         have b24 := h3 24 (fun i hi => by have h8 : i < 9 := hi; show (if i = 8 then 1008 else 69 + i) ≠ 24; (repeat' split) <;> omega)
         replace b24 : a.tmps.getD 24 undef = .slice pA cs.length pc := b24
         have b25 := h3 25 (fun i hi => by have h8 : i < 9 := hi; show (if i = 8 then 1008 else 69 + i) ≠ 25; (repeat' split) <;> omega)
         replace b25 : a.tmps.getD 25 undef = .pointer (some ⟨hb, 0, none⟩) := b25
         have b26 := h3 26 (fun i hi => by have h8 : i < 9 := hi; show (if i = 8 then 1008 else 69 + i) ≠ 26; (repeat' split) <;> omega)
         replace b26 : a.tmps.getD 26 undef = .pointer (some ⟨hb, 0, none⟩) := b26
         have b27 := h3 27 (fun i hi => by have h8 : i < 9 := hi; show (if i = 8 then 1008 else 69 + i) ≠ 27; (repeat' split) <;> omega)
         replace b27 : a.tmps.getD 27 undef = .agg #[V 0, V 1, V 2, V 3, V 4, V 5, V 6, V 7] := b27
         have b28 := h3 28 (fun i hi => by have h8 : i < 9 := hi; show (if i = 8 then 1008 else 69 + i) ≠ 28; (repeat' split) <;> omega)
         replace b28 : a.tmps.getD 28 undef = .func (.func 48) #[] #[.pointer (some ⟨g5, 0, none⟩), .pointer (some ⟨g8, 0, none⟩)] := b28
         have b29 := h3 29 (fun i hi => by have h8 : i < 9 := hi; show (if i = 8 then 1008 else 69 + i) ≠ 29; (repeat' split) <;> omega)
         replace b29 : a.tmps.getD 29 undef = .slice (some ⟨g9, 0, none⟩) 8 8 := b29
         have b30 := h3 30 (fun i hi => by have h8 : i < 9 := hi; show (if i = 8 then 1008 else 69 + i) ≠ 30; (repeat' split) <;> omega)
         replace b30 : a.tmps.getD 30 undef = .func (.func 51) #[] #[.pointer (some ⟨g10, 0, none⟩)] := b30
         have b31 := h3 31 (fun i hi => by have h8 : i < 9 := hi; show (if i = 8 then 1008 else 69 + i) ≠ 31; (repeat' split) <;> omega)
         replace b31 : a.tmps.getD 31 undef = .int .i64 (l : Int) := b31
         have b32 := h3 32 (fun i hi => by have h8 : i < 9 := hi; show (if i = 8 then 1008 else 69 + i) ≠ 32; (repeat' split) <;> omega)
         replace b32 : a.tmps.getD 32 undef = .int .i64 (l : Int) := b32
         have b33 := h3 33 (fun i hi => by have h8 : i < 9 := hi; show (if i = 8 then 1008 else 69 + i) ≠ 33; (repeat' split) <;> omega)
         replace b33 : a.tmps.getD 33 undef = .bool (decide ((l : Int) < 0)) := b33
         have b34 := h3 34 (fun i hi => by have h8 : i < 9 := hi; show (if i = 8 then 1008 else 69 + i) ≠ 34; (repeat' split) <;> omega)
         replace b34 : a.tmps.getD 34 undef = .int .i64 (l : Int) := b34
         have b35 := h3 35 (fun i hi => by have h8 : i < 9 := hi; show (if i = 8 then 1008 else 69 + i) ≠ 35; (repeat' split) <;> omega)
         replace b35 : a.tmps.getD 35 undef = .int .i64 (k : Int) := b35
         have b36 := h3 36 (fun i hi => by have h8 : i < 9 := hi; show (if i = 8 then 1008 else 69 + i) ≠ 36; (repeat' split) <;> omega)
         replace b36 : a.tmps.getD 36 undef = .bool true := b36
         have b37 := h3 37 (fun i hi => by have h8 : i < 9 := hi; show (if i = 8 then 1008 else 69 + i) ≠ 37; (repeat' split) <;> omega)
         replace b37 : a.tmps.getD 37 undef = u37 := b37
         have b38 := h3 38 (fun i hi => by have h8 : i < 9 := hi; show (if i = 8 then 1008 else 69 + i) ≠ 38; (repeat' split) <;> omega)
         replace b38 : a.tmps.getD 38 undef = u38 := b38
         have b39 := h3 39 (fun i hi => by have h8 : i < 9 := hi; show (if i = 8 then 1008 else 69 + i) ≠ 39; (repeat' split) <;> omega)
         replace b39 : a.tmps.getD 39 undef = .int .i64 (k : Int) := b39
         have b40 := h3 40 (fun i hi => by have h8 : i < 9 := hi; show (if i = 8 then 1008 else 69 + i) ≠ 40; (repeat' split) <;> omega)
         replace b40 : a.tmps.getD 40 undef = .pointer (some ⟨g9, k, none⟩) := b40
         have b41 := h3 41 (fun i hi => by have h8 : i < 9 := hi; show (if i = 8 then 1008 else 69 + i) ≠ 41; (repeat' split) <;> omega)
         replace b41 : a.tmps.getD 41 undef = .slice (some ⟨bb, bo, none⟩) xs.length c' := b41
         have b42 := h3 42 (fun i hi => by have h8 : i < 9 := hi; show (if i = 8 then 1008 else 69 + i) ≠ 42; (repeat' split) <;> omega)
         replace b42 : a.tmps.getD 42 undef = .int .i64 (xs.length : Int) := b42
         have b43 := h3 43 (fun i hi => by have h8 : i < 9 := hi; show (if i = 8 then 1008 else 69 + i) ≠ 43; (repeat' split) <;> omega)
         replace b43 : a.tmps.getD 43 undef = .int .i64 (ix : Int) := b43
         have b78 := h3 78 (fun i hi => by have h8 : i < 9 := hi; show (if i = 8 then 1008 else 69 + i) ≠ 78; (repeat' split) <;> omega)
         replace b78 : a.tmps.getD 78 undef = undef := b78
         have b79 := h3 79 (fun i hi => by have h8 : i < 9 := hi; show (if i = 8 then 1008 else 69 + i) ≠ 79; (repeat' split) <;> omega)
         replace b79 : a.tmps.getD 79 undef = undef := b79
         have b80 := h3 80 (fun i hi => by have h8 : i < 9 := hi; show (if i = 8 then 1008 else 69 + i) ≠ 80; (repeat' split) <;> omega)
         replace b80 : a.tmps.getD 80 undef = undef := b80
         have b81 := h3 81 (fun i hi => by have h8 : i < 9 := hi; show (if i = 8 then 1008 else 69 + i) ≠ 81; (repeat' split) <;> omega)
         replace b81 : a.tmps.getD 81 undef = undef := b81
         have b82 := h3 82 (fun i hi => by have h8 : i < 9 := hi; show (if i = 8 then 1008 else 69 + i) ≠ 82; (repeat' split) <;> omega)
         replace b82 : a.tmps.getD 82 undef = undef := b82
         have b83 := h3 83 (fun i hi => by have h8 : i < 9 := hi; show (if i = 8 then 1008 else 69 + i) ≠ 83; (repeat' split) <;> omega)
         replace b83 : a.tmps.getD 83 undef = undef := b83
         have b84 := h3 84 (fun i hi => by have h8 : i < 9 := hi; show (if i = 8 then 1008 else 69 + i) ≠ 84; (repeat' split) <;> omega)
         replace b84 : a.tmps.getD 84 undef = undef := b84
         have b85 := h3 85 (fun i hi => by have h8 : i < 9 := hi; show (if i = 8 then 1008 else 69 + i) ≠ 85; (repeat' split) <;> omega)
         replace b85 : a.tmps.getD 85 undef = undef := b85
         have b86 := h3 86 (fun i hi => by have h8 : i < 9 := hi; show (if i = 8 then 1008 else 69 + i) ≠ 86; (repeat' split) <;> omega)
         replace b86 : a.tmps.getD 86 undef = undef := b86
         have b87 := h3 87 (fun i hi => by have h8 : i < 9 := hi; show (if i = 8 then 1008 else 69 + i) ≠ 87; (repeat' split) <;> omega)
         replace b87 : a.tmps.getD 87 undef = undef := b87
         have b88 := h3 88 (fun i hi => by have h8 : i < 9 := hi; show (if i = 8 then 1008 else 69 + i) ≠ 88; (repeat' split) <;> omega)
         replace b88 : a.tmps.getD 88 undef = undef := b88
         have b89 := h3 89 (fun i hi => by have h8 : i < 9 := hi; show (if i = 8 then 1008 else 69 + i) ≠ 89; (repeat' split) <;> omega)
         replace b89 : a.tmps.getD 89 undef = undef := b89
         have b90 := h3 90 (fun i hi => by have h8 : i < 9 := hi; show (if i = 8 then 1008 else 69 + i) ≠ 90; (repeat' split) <;> omega)
         replace b90 : a.tmps.getD 90 undef = undef := b90
         have b91 := h3 91 (fun i hi => by have h8 : i < 9 := hi; show (if i = 8 then 1008 else 69 + i) ≠ 91; (repeat' split) <;> omega)
         replace b91 : a.tmps.getD 91 undef = undef := b91
         have b92 := h3 92 (fun i hi => by have h8 : i < 9 := hi; show (if i = 8 then 1008 else 69 + i) ≠ 92; (repeat' split) <;> omega)
         replace b92 : a.tmps.getD 92 undef = undef := b92
         have b93 := h3 93 (fun i hi => by have h8 : i < 9 := hi; show (if i = 8 then 1008 else 69 + i) ≠ 93; (repeat' split) <;> omega)
         replace b93 : a.tmps.getD 93 undef = undef := b93
         have b94 := h3 94 (fun i hi => by have h8 : i < 9 := hi; show (if i = 8 then 1008 else 69 + i) ≠ 94; (repeat' split) <;> omega)
         replace b94 : a.tmps.getD 94 undef = undef := b94
         have b95 := h3 95 (fun i hi => by have h8 : i < 9 := hi; show (if i = 8 then 1008 else 69 + i) ≠ 95; (repeat' split) <;> omega)
         replace b95 : a.tmps.getD 95 undef = undef := b95
         have b96 := h3 96 (fun i hi => by have h8 : i < 9 := hi; show (if i = 8 then 1008 else 69 + i) ≠ 96; (repeat' split) <;> omega)
         replace b96 : a.tmps.getD 96 undef = undef := b96
         have b97 := h3 97 (fun i hi => by have h8 : i < 9 := hi; show (if i = 8 then 1008 else 69 + i) ≠ 97; (repeat' split) <;> omega)
         replace b97 : a.tmps.getD 97 undef = undef := b97
         have b98 := h3 98 (fun i hi => by have h8 : i < 9 := hi; show (if i = 8 then 1008 else 69 + i) ≠ 98; (repeat' split) <;> omega)
         replace b98 : a.tmps.getD 98 undef = undef := b98
         have b99 := h3 99 (fun i hi => by have h8 : i < 9 := hi; show (if i = 8 then 1008 else 69 + i) ≠ 99; (repeat' split) <;> omega)
         replace b99 : a.tmps.getD 99 undef = undef := b99
         have b100 := h3 100 (fun i hi => by have h8 : i < 9 := hi; show (if i = 8 then 1008 else 69 + i) ≠ 100; (repeat' split) <;> omega)
         replace b100 : a.tmps.getD 100 undef = undef := b100
         have b101 := h3 101 (fun i hi => by have h8 : i < 9 := hi; show (if i = 8 then 1008 else 69 + i) ≠ 101; (repeat' split) <;> omega)
         replace b101 : a.tmps.getD 101 undef = undef := b101
         have b102 := h3 102 (fun i hi => by have h8 : i < 9 := hi; show (if i = 8 then 1008 else 69 + i) ≠ 102; (repeat' split) <;> omega)
         replace b102 : a.tmps.getD 102 undef = undef := b102
         have b103 := h3 103 (fun i hi => by have h8 : i < 9 := hi; show (if i = 8 then 1008 else 69 + i) ≠ 103; (repeat' split) <;> omega)
         replace b103 : a.tmps.getD 103 undef = undef := b103
         rw [act_eq hz hdf]
         simp only [show List.range 104 = [0, 1, 2, 3, 4, 5, 6, 7, 8, 9, 10, 11, 12, 13, 14, 15, 16, 17, 18, 19, 20, 21, 22, 23, 24, 25, 26, 27, 28, 29, 30, 31, 32, 33, 34, 35, 36, 37, 38, 39, 40, 41, 42, 43, 44, 45, 46, 47, 48, 49, 50, 51, 52, 53, 54, 55, 56, 57, 58, 59, 60, 61, 62, 63, 64, 65, 66, 67, 68, 69, 70, 71, 72, 73, 74, 75, 76, 77, 78, 79, 80, 81, 82, 83, 84, 85, 86, 87, 88, 89, 90, 91, 92, 93, 94, 95, 96, 97, 98, 99, 100, 101, 102, 103] from rfl, List.map_cons, List.map_nil, b0, b1, b2, b3, b4, b5, b6, b7, b8, b9, b10, b11, b12, b13, b14, b15, b16, b17, b18, b19, b20, b21, b22, b23, b24, b25, b26, b27, b28, b29, b30, b31, b32, b33, b34, b35, b36, b37, b38, b39, b40, b41, b42, b43, b78, b79, b80, b81, b82, b83, b84, b85, b86, b87, b88, b89, b90, b91, b92, b93, b94, b95, b96, b97, b98, b99, b100, b101, b102, b103]
         clear b0 b1 b2 b3 b4 b5 b6 b7 b8 b9 b10 b11 b12 b13 b14 b15 b16 b17 b18 b19 b20 b21 b22 b23 b24 b25 b26 b27 b28 b29 b30 b31 b32 b33 b34 b35 b36 b37 b38 b39 b40 b41 b42 b43 b78 b79 b80 b81 b82 b83 b84 b85 b86 b87 b88 b89 b90 b91 b92 b93 b94 b95 b96 b97 b98 b99 b100 b101 b102 b103 hz hdf h1 h2 h3 h4
         obtain ⟨lvz, frz⟩ := h5
         go_wp2_with fail
         go_roundw
         case rel =>
          refine ⟨_, _, .int .i64 ((ix + 1 : Nat) : Int), ⟨ix + 1, rfl, by omega, _, put1 LG k (LG k ++ [y]), fun j h1 h2 => ?_, fun j h1 => ?_, fun j => ?_, ?_, lvz⟩, rfl, rfl, congrArg (Value.int .i64) (by omega)⟩
          ·simp only [put1]
           rw [if_neg (by omega)]
           exact hG j h1 h2
          ·simp only [put1]
           rw [if_neg (by omega)]
           exact hN j h1
          ·simp only [put1]
           split
           ·rw [hP, ← gdP_yes hyl hqb.out.symm]
            unfold gdP
            refine Nat.le_trans (List.length_filter_le _ _) ?_
            rw [List.length_take]
            have := lvl_len lf cs hlen (l - (l - k))
            omega
           ·exact hS j
          ·simp only [put1, if_true]
           rw [hP, gdP_yes hyl hqb.out.symm]
         case measure =>
          simp [intOf]
          omega
     ·have z9 : ¬ (ix : Int) < (xs.length : Int) := by omega
      obtain rfl : ix = xs.length := by omega
      go_wp2_with fail
      go_roundw
      case rel =>
       refine ⟨k, VG, LG, congrArg (Value.int .i64) (by first | rfl | omega | simp), by omega, fun j h1 h2 => ?_, hN, hS, lv, fr⟩
       by_cases h : j = k
       ·subst h
        rw [hP]
        have := gdP_all (lf := lf) (cs := cs) (tr := tr) (l := l) (d := l - j)
        rwa [show l - (l - j) = j by omega, ← hxs.out] at this
       ·exact hG j (by omega) h2
      case measure =>
       simp [intOf] <;> omega
end Go.Proofs.YtchaahnhpeoomaaGreat
