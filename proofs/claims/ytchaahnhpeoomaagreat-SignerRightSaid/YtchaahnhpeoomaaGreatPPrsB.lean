/-
 The document's parser of one element (lintelref10.Parse): the element with which bytes begin, in memory of its own, and what stands behind it. Holds for all bytes.
-/
import Derived.Test.YtchaahnhpeoomaaGreatPGSig
import Derived.Test.YtchaahnhpeoomaaGreatPPrsA
namespace Go.Proofs.YtchaahnhpeoomaaGreat
set_option linter.unusedVariables false
set_option linter.unusedSimpArgs false
set_option maxRecDepth 20000
open Go.RowKit
theorem Rd.cut {w : World} {A : Option Addr} {xs : List Nat} {c : Nat} (h : Rd .u8 w A xs) (l m : Nat) (hc : xs.length ≤ c) (hm : l + m ≤ xs.length) : Rd .u8 w (if c = l then A else A.map (·.add (l * 1))) ((xs.drop l).take m) := by
 by_cases e : c = l
 ·have h0 : m = 0 := by omega
  rw [h0, List.take_zero]
  exact Rd.nil _ _ _
 ·rw [if_neg e]
  rcases A with _ | ⟨b, o, s⟩
  ·rcases h with rfl | ⟨b, o, h, _⟩
   ·exact Or.inl (by simp)
   ·cases h
  ·rcases h with rfl | ⟨b', o', h1, hb, hcl⟩
   ·exact Or.inl (by simp)
   ·cases h1
    have := Rd.part (Or.inr ⟨b, o, rfl, hb, hcl⟩ : Rd .u8 w (some ⟨b, o, none⟩) xs) l m
    show Rd .u8 w (some (Addr.add ⟨b, o, none⟩ (l * 1))) _
    unfold Addr.add
    rw [Nat.mul_one]
    split
    ·rename_i h0
     rw [h0] at this
     rwa [h0]
    ·exact this
theorem sl_lh (b o n c f m : Nat) (W : World) (h : f + m ≤ c) : (Instr.sliceAt 22 (.slice (some ⟨b, o, none⟩) n c) (some (.int .i64 (f : Int))) (some (.int .i64 ((f : Int) + (m : Int)))) none).run Tryz.prog W = .ok (.slice (if c = f then some ⟨b, o, none⟩ else (some (⟨b, o, none⟩ : Addr)).map (·.add (f * 1))) m (c - f)) W := by
 have h0 : (0 : Int) ≤ (f : Int) := by omega
 have h1 : (f : Int) ≤ (f : Int) + (m : Int) := by omega
 have h2 : (f : Int) + (m : Int) ≤ (c : Int) := by omega
 have e1 : ((f : Int) + (m : Int)).toNat = f + m := by omega
 have e2 : f + m - f = m := by omega
 go_simp
theorem sl_h (b o n c k : Nat) (z : Int) (W : World) (hz : z = (k : Int)) (h : k ≤ c) : (Instr.sliceAt 22 (.slice (some ⟨b, o, none⟩) n c) none (some (.int .i64 z)) none).run Tryz.prog W = .ok (.slice (if c = 0 then some ⟨b, o, none⟩ else (some (⟨b, o, none⟩ : Addr)).map (·.add (0 * 1))) k c) W := by
 have h0 : (0 : Int) ≤ z := by omega
 have h2 : z ≤ (c : Int) := by omega
 have e1 : z.toNat = k := by omega
 clear hz h
 go_simp
theorem sl_l (b o n c k : Nat) (z : Int) (W : World) (hz : z = (k : Int)) (h : k ≤ n) : (Instr.sliceAt 22 (.slice (some ⟨b, o, none⟩) n c) (some (.int .i64 z)) none none).run Tryz.prog W = .ok (.slice (if c = k then some ⟨b, o, none⟩ else (some (⟨b, o, none⟩ : Addr)).map (·.add (k * 1))) (n - k) (c - k)) W := by
 have h0 : (0 : Int) ≤ z := by omega
 have h2 : z ≤ (n : Int) := by omega
 have e1 : z.toNat = k := by omega
 clear hz h
 go_simp
theorem off_cut {b o c l k g : Nat} {ys : List Nat} (h : b ≠ g) : Off (if c = l then some ⟨b, o, none⟩ else (some (⟨b, o, none⟩ : Addr)).map (·.add k)) ys g := by
 split
 ·exact Off.of_ne h
 ·show Off (some (Addr.add _ _)) _ _
  unfold Addr.add
  split <;> exact Off.of_ne h
def tof (g : Nat) (xs : List Nat) : Tg := fun v W => ∃ A c, v = .slice A xs.length c ∧ xs.length ≤ c ∧ c ≤ maxLen ∧ Rd .u8 W A xs ∧ Off A xs g
theorem tof_of_new {g : Nat} {xs : List Nat} {v : Value} {W : World} (h : tnew (g + 1) xs v W) : tof g xs v W := by
 obtain ⟨A, c, h1, h2, h3, h4, h5⟩ := h
 exact ⟨A, c, h1, h2, h3, h4, h5 g (by omega)⟩
def Wrote (g : Nat) (w w' : World) : Prop := w.grownBy w' (some g) ∧ w'.heap.size = w.heap.size
theorem Wrote.tof {g : Nat} {xs : List Nat} {v : Value} {w w' : World} (k : Wrote g w w') (h : Sp (tof g xs) v w) : Sp (tof g xs) v w' := fun W hs => by
 obtain ⟨A, c, h1, h2, h3, h4, h5⟩ := h.now
 exact ⟨A, c, h1, h2, h3, (h4.grown k.1 fun g' e => by cases e; exact h5).sub hs, h5⟩
theorem Wrote.tnew {g : Nat} {xs : List Nat} {v : Value} {w w' : World} (k : Wrote g w w') (h : Sp (tnew (g + 1) xs) v w) : Sp (tnew (g + 1) xs) v w' := fun W hs => by
 obtain ⟨A, c, h1, h2, h3, h4, h5⟩ := h.now
 exact ⟨A, c, h1, h2, h3, (h4.grown k.1 fun g' e => by cases e; exact h5 _ (by omega)).sub hs, h5⟩
section
variable {P : Program} {ops : Array Oper} {Q : Exit → Act → World → Prop} {Base : Act → Prop} {dst : Nat → Nat} {tags : Nat → Tg} {i : Nat} {o : Oper}
theorem st_callB {G : World → Prop} {f B : Nat} {args : Array Operand} {xs : List Nat} (hgd : o.guard = none) (ht : tags i = tnew B xs) (hrun : ∀ (a : Act) (w : World), (execOp a.eval o).run P w = .ok (.enter f (args.map a.eval)) w)
  (hG : ∀ W W', G W → Below W.heap.size W W' → G W') (hB : ∀ W, G W → B ≤ W.heap.size)
  (h : ∀ a w, Base a → Deps o dst tags a w → G w → Calls P f (args.map a.eval) w (Gives .u8 xs w)) :
  StepOk P ops Q Base dst (fun i v w => Sp (tags i) v w) G i o := by
 intro a w hb hd hg K hK
 rw [if_pos (wanted_free hgd a)]
 have hc := h a w hb hd hg
 unfold Oper.wp
 rw [hrun a w]
 refine hc.mono ?_
 intro e w' hgv
 obtain ⟨v, rfl, h1, h2⟩ := hgv.sp (hB w hg)
 exact hK _ _ (by show Sp (tags i) v w'; rw [ht]; exact h2) (Sub.below h1) (hG _ _ hg h1)
end
def psE (t f m g : Nat) (ys : List Nat) : Tg := fun v W => ∃ A1 c1 A2 c2, v = .agg #[.int .u8 (t : Int), .slice A1 m c1, .slice A2 (f + m) c2] ∧ Rd .u8 W A1 ys ∧ Off A1 ys g
theorem Wrote.psE {t f m g : Nat} {ys : List Nat} {v : Value} {w w' : World} (k : Wrote g w w') (h : Sp (psE t f m g ys) v w) : Sp (psE t f m g ys) v w' := fun W hs => by
 obtain ⟨A1, c1, A2, c2, h1, h2, h3⟩ := h.now
 exact ⟨A1, c1, A2, c2, h1, (h2.grown k.1 fun g' e => by cases e; exact h3).sub hs, h3⟩
def psT (t f m n c g b o : Nat) (xs : List Nat) : Nat → Tg
 | 0 => tv (.slice (some ⟨b, o, none⟩) n c)
 | 1 => tv (.pointer (some ⟨b, o, none⟩))
 | 2 => tv (.int .u8 (t : Int))
 | 3 => tv (.slice (some ⟨b, o, none⟩) n c)
 | 4 => tv (.int .i64 (f : Int))
 | 5 => tv (.int .i64 (f : Int))
 | 6 => tv (.int .i64 (m : Int))
 | 7 => tv (.int .i64 ((f : Int) + (m : Int)))
 | 8 => tof g ((xs.drop f).take m)
 | 9 => tnew (g + 1) ((xs.drop f).take m)
 | 10 => tv (.slice (some ⟨b, o, none⟩) n c)
 | 11 => tv (.int .i64 (f : Int))
 | 12 => tv (.int .i64 (m : Int))
 | 13 => tv (.int .i64 ((f : Int) + (m : Int)))
 | 14 => tof g ((xs.drop 0).take (f + m))
 | 15 => tnew (g + 1) ((xs.drop 0).take (f + m))
 | 16 => psE t f m g ((xs.drop f).take m)
 | 17 => tv (.slice (some ⟨b, o, none⟩) n c)
 | 18 => tv (.int .i64 (f : Int))
 | 19 => tv (.int .i64 (m : Int))
 | 20 => tv (.int .i64 ((f : Int) + (m : Int)))
 | 21 => tof g ((xs.drop (f + m)).take (n - (f + m)))
 | 22 => tnew (g + 1) ((xs.drop (f + m)).take (n - (f + m)))
 | 23 => fun _ W => ∃ A1 c1 A2 c2, W.rangeAt g 0 [.int .u8 (t : Int), .slice A1 m c1, .slice A2 (f + m) c2] ∧ Rd .u8 W A1 ((xs.drop f).take m)
 | 24 => tnew (g + 1) ((xs.drop (f + m)).take (n - (f + m)))
 | _ => tv (.int .i64 0)
def psD (i : Nat) : Nat := if i = 23 then 60 else if i = 24 then 3 else if i = 25 then 4 else 32 + i
theorem psD_inj (i j : Nat) (hi : i < 26) (hj : j < 26) (h : psD i = psD j) : i = j := by
 unfold psD at h
 split at h <;> split at h <;> (try split at h) <;> (try split at h) <;> (try split at h) <;> (try split at h) <;> omega
theorem psD_ne (s : Nat) (hs : s < 3 ∨ (4 < s ∧ s < 32)) {i : Nat} : psD i ≠ s := by
 unfold psD
 split
 ·omega
 ·split
  ·omega
  ·split <;> omega
theorem psT_wrote {t f m n c g b o : Nat} {xs : List Nat} (i : Nat) (v : Value) (w w' : World) (hi : i ≠ 23) (h : Sp (psT t f m n c g b o xs i) v w) (k : Wrote g w w') : Sp (psT t f m n c g b o xs i) v w' := by
 have tvs : ∀ V, Sp (tv V) v w → Sp (tv V) v w' := fun V h => Sp.tv h.now
 rcases i with _ | _ | _ | _ | _ | _ | _ | _ | _ | _ | _ | _ | _ | _ | _ | _ | _ | _ | _ | _ | _ | _ | _ | _ | _ | i
 all_goals first
  | exact tvs _ h
  | exact k.tof h
  | exact k.tnew h
  | exact k.psE h
  | exact absurd rfl hi
set_option maxRecDepth 100000 in
set_option maxHeartbeats 1600000 in
theorem parse10_any (A : Option Addr) (n c : Nat) (xs : List Nat) (w : World) (hn : n = xs.length) (hl : n ≤ 1000000) (hc : n ≤ c) (hm : c ≤ 9223372036854775807) (hx : Rd .u8 w A xs) (lx : Lim 256 xs) :
  Calls Tryz.prog 65 #[.slice A n c] w (ParsePost xs w) := by
 subst hn
 obtain ⟨w1, hw1⟩ : ∃ w1, w1 = w.alloc (.cells #[.int .u8 0, .slice none 0 0, .slice none 0 0] 118) := ⟨_, rfl⟩
 have e1 : Below w.heap.size w w1 := by rw [hw1]; exact (Below.refl _ _).alloc (Nat.le_refl _) _
 have hx1 := hx.below e1
 have K : Cut w1 w.heap.size 0 [.int .u8 0, .slice none 0 0, .slice none 0 0] := by rw [hw1]; exact Cut.of_heap (heap_alloc_new _ _) fun i v hv => by simpa using hv
 have hE := len10_any A xs.length c xs w1 rfl hc hx1 lx
 have hcons : ∀ t r, xs = t :: r → headB xs = if t % 32 = 31 then none else lenB xs := fun t r e => by rw [e]; exact headB_cons t r
 have hnil : lenB xs = none → elemB xs = none := fun h => by
  unfold elemB
  rcases hxs : xs with _ | ⟨t, r⟩
  ·rfl
  ·have h1 : headB xs = none := by
    rw [hcons t r hxs, h]
    split <;> rfl
   rw [← hxs, h1]
 go_enter Tryz.func65, Tryz.ntmps65
 go_wp2_with fail
 rw [← hw1]
 clear hw1
 refine hE.mono ?_
 rintro r w2 ⟨f, m, b, q, rfl, rfl, hp⟩
 have K2 := K.drewN q
 have hx2 := hx1.drewN q
 have e2 := below_drewN e1 q
 generalize w1.drewN q = w2 at *
 clear hE K hx1 e1
 cases hh : lenB xs with
 | none =>
  have HE := Lib.hid (hnil hh)
  rw [hh] at hp
  obtain rfl : b = false := hp
  clear hh hnil hcons
  go_wp2_with (refine wpList_store_cut rfl 118 (.tmp 2) (.tmp 31) rfl w.heap.size 0 [.int .u8 0, .slice none 0 0, .slice none 0 0] _ rfl rfl K2 rfl size_elem (fun v hv => by simp at hv; rcases hv with rfl | rfl <;> rfl) ?_; intro w4 hst)
  refine bodyPost_ret (results_row_tmp2 rfl _ _ w.heap.size 0 _ _ rfl hst.2.2.1.range Tryz.underlying118 rfl size_elem) rfl ?_
  refine ⟨below_only e2 hst.1 e2.size (Nat.le_refl _), ?_⟩
  rw [HE.out]
  rfl
 | some p =>
  obtain ⟨f', m'⟩ := p
  rw [hh] at hp
  obtain ⟨rfl, rfl, rfl⟩ := hp
  dsimp only
  obtain ⟨t, xr, hxs⟩ : ∃ t xr, xs = t :: xr := by
   rcases hxs : xs with _ | ⟨t, r⟩
   ·rw [hxs] at hh
    cases hh
   ·exact ⟨t, r, rfl⟩
  have hxt : xs[0]? = some t := by rw [hxs]; rfl
  have htb := lx.get hxt
  obtain ⟨b, o, rfl, hb, hcl⟩ := hx2.pos hxt
  have ct : w2.cell? ⟨b, o, none⟩ = some (.int .u8 (t : Int)) := hcl 0 t hxt
  have hH := hcons t xr hxs
  have q4 : (0 : Int) < (xs.length : Int) := by rw [hxs]; simp
  clear hnil hcons hcl
  by_cases h31 : t % 32 = 31
  ·have he : elemB xs = none := by unfold elemB; rw [hH, if_pos h31]
   have HE := Lib.hid he
   have z1 : ((t : Int) % 32 == 31) = true := by simp; omega
   have z2 : (Int.tmod (t : Int) 32 == 31) = true := by rw [Int.tmod_eq_emod_of_nonneg (by omega)]; exact z1
   clear he hH hh h31 hxs hxt
   go_wp2_with (refine wpList_store_cut rfl 118 (.tmp 2) (.tmp 31) rfl w.heap.size 0 [.int .u8 0, .slice none 0 0, .slice none 0 0] _ rfl rfl K2 rfl size_elem (fun v hv => by simp at hv; rcases hv with rfl | rfl <;> rfl) ?_; intro w4 hst)
   refine bodyPost_ret (results_row_tmp2 rfl _ _ w.heap.size 0 _ _ rfl hst.2.2.1.range Tryz.underlying118 rfl size_elem) rfl ?_
   refine ⟨below_only e2 hst.1 e2.size (Nat.le_refl _), ?_⟩
   rw [HE.out]
   rfl
  have hh2 : headB xs = some (f, m) := by rw [hH, if_neg h31, hh]
  obtain ⟨hf1, hf2, hne⟩ := headB_le hh2
  have hlt := headB_lt lx hh2
  have z1 : ((t : Int) % 32 == 31) = false := by simp; omega
  have z2 : (Int.tmod (t : Int) 32 == 31) = false := by rw [Int.tmod_eq_emod_of_nonneg (by omega)]; exact z1
  by_cases hle : f + m ≤ xs.length
  ·have he : elemB xs = some (f, m) := elemB_some.2 ⟨hh2, hle⟩
   have HE := Lib.hid he
   have z3 : decide ((xs.length : Int) - (f : Int) < (m : Int)) = false := decide_eq_false (by omega)
   have hbw : b ≠ w.heap.size := by
    rcases hx with h0 | ⟨b', o', h1, h2, _⟩
    ·rw [h0] at hxt
     cases hxt
    ·cases h1
     omega
   clear he hh2 hh hH h31 hxs
   go_wp2_with fail
   have hGm : ∀ W W' : World, (Below w.heap.size w W ∧ (∃ cs : List Value, cs.length = 3 ∧ Cut W w.heap.size 0 cs) ∧ w.heap.size + 1 ≤ W.heap.size) → Below W.heap.size W W' → (Below w.heap.size w W' ∧ (∃ cs : List Value, cs.length = 3 ∧ Cut W' w.heap.size 0 cs) ∧ w.heap.size + 1 ≤ W'.heap.size) := fun W W' h k => ⟨h.1.trans (k.mono h.1.size), (by obtain ⟨cs, h1, h2⟩ := h.2.1; exact ⟨cs, h1, h2.below k⟩), Nat.le_trans h.2.2 k.size⟩
   have hxW : ∀ W : World, Below w.heap.size w W → Rd .u8 W (some ⟨b, o, none⟩) xs := fun W h => hx.below h
   have hct : ∀ W : World, (Below w.heap.size w W ∧ (∃ cs : List Value, cs.length = 3 ∧ Cut W w.heap.size 0 cs) ∧ w.heap.size + 1 ≤ W.heap.size) → W.cell? ⟨b, o, none⟩ = some (.int .u8 (t : Int)) := fun W h => by
    obtain ⟨b', o', e, _, hcl⟩ := (hxW W h.1).pos hxt
    cases e
    exact hcl 0 t hxt
   have hix : ∀ W : World, (Instr.indexAt 22 (.slice (some ⟨b, o, none⟩) xs.length c) (.int .i64 0)).run Tryz.prog W = .ok (.pointer (some ⟨b, o, none⟩)) W := fun W => by
    have q4 := q4
    go_simp
   have hw : IntKind.i64.wrap ((f : Int) + (m : Int)) = (f : Int) + (m : Int) := IntWalk.i64_in _ (by omega)
   have H1 := Lib.hid (show ((xs.drop f).take m).length = m by simp; omega)
   have H2 := Lib.hid (show ((xs.drop 0).take (f + m)).length = f + m by simp; omega)
   have H3 := Lib.hid (show ((xs.drop (f + m)).take (xs.length - (f + m))).length = xs.length - (f + m) by simp)
   refine wp_region_store (by kernel_rfl) 23 (Wrote w.heap.size) psD (fun i v W => Sp (psT t f m xs.length c w.heap.size b o xs i) v W) (fun W => Below w.heap.size w W ∧ (∃ cs : List Value, cs.length = 3 ∧ Cut W w.heap.size 0 cs) ∧ w.heap.size + 1 ≤ W.heap.size) (by kernel_rfl) (by kernel_rfl) (fun i j hi hj h => psD_inj i j hi hj h) (fun i hi h23 => ?lt) (fun i v W W' h hs => h.mono hs) (fun i v W W' h23 h k => psT_wrote i v W W' h23 h k) (fun v v' W h => h) ?g0 ⟨?s0, ?s1, ?s2, ?s3, ?s4, ?s5, ?s6, ?s7, ?s8, ?s9, ?s10, ?s11, ?s12, ?s13, ?s14, ?s15, ?s16, ?s17, ?s18, ?s19, ?s20, ?s21, ?s22, ?s23, ?s24, ?s25, trivial⟩ ?fin
   case lt =>
    have h9 : i < 26 := hi
    show psD i < 55
    unfold psD
    rw [if_neg h23]
    split
    ·omega
    ·split <;> omega
   case g0 => exact ⟨below_drewN e2 1, ⟨_, rfl, K2.drewN 1⟩, Nat.succ_le_of_lt (by have := K2.lt; simpa using this)⟩
   case s0 =>
    exact st_move rfl (.inl rfl) (src_base (fun i _ => psD_ne 0 (by omega)) rfl)
   case s1 =>
    exact st_index rfl rfl rfl (src_dep (j := 0) (e := ⟨0, .data⟩) (by simp) rfl rfl rfl) src_const (fun W => hix W)
   case s2 =>
    exact st_load rfl rfl rfl (src_dep (j := 1) (e := ⟨1, .data⟩) (by simp) rfl rfl rfl) (ld_u8 _ _) (fun W h => hct W h)
   case s3 =>
    exact st_move rfl (.inl rfl) (src_base (fun i _ => psD_ne 0 (by omega)) rfl)
   case s4 =>
    exact st_move rfl (.inl rfl) (src_base (fun i _ => psD_ne 6 (by omega)) rfl)
   case s5 =>
    exact st_move rfl (.inl rfl) (src_base (fun i _ => psD_ne 6 (by omega)) rfl)
   case s6 =>
    exact st_move rfl (.inl rfl) (src_base (fun i _ => psD_ne 5 (by omega)) rfl)
   case s7 =>
    exact st_run rfl fun a W hb hd hg => ⟨.int .i64 ((f : Int) + (m : Int)), W, by
    have u1 : a.eval (.tmp 37) = .int .i64 (f : Int) := (hd ⟨5, .data⟩ (by simp) rfl).now
    have u2 : a.eval (.tmp 38) = .int .i64 (m : Int) := (hd ⟨6, .data⟩ (by simp) rfl).now
    unfold execOp
    simp only [u1, u2]
    go_simp, Sub.refl W, hg, Sp.tv rfl⟩
   case s8 =>
    exact st_run rfl fun a W hb hd hg => ⟨.slice (if c = f then some ⟨b, o, none⟩ else (some (⟨b, o, none⟩ : Addr)).map (·.add (f * 1))) m (c - f), W, by
     have u3 : a.eval (.tmp 35) = _ := (hd ⟨3, .data⟩ (by simp) rfl).now
     have u4 : a.eval (.tmp 36) = _ := (hd ⟨4, .data⟩ (by simp) rfl).now
     have u7 : a.eval (.tmp 39) = _ := (hd ⟨7, .data⟩ (by simp) rfl).now
     unfold execOp
     simp only [Option.map_some, Option.map_none, u3, u4, u7, Sem.run_bind, Sem.run_pure, sl_lh b o xs.length c f m W (by omega), Result.andThen_ok], Sub.refl W, hg, fun W' hs => ⟨_, _, by rw [H1.out], by rw [H1.out]; omega, by simp only [maxLen]; omega, ((hxW W hg.1).cut f m hc hle).sub hs, off_cut hbw⟩⟩
   case s9 =>
    exact st_callB rfl rfl (fun a W => run_call rfl cf_copy a W) hGm (fun W h => h.2.2) (fun a W hb hd hg => by
    obtain ⟨B, d, v, -, -, u, -⟩ := (hd ⟨8, .data⟩ (by simp) rfl).now
    have v : a.eval (.tmp 40) = _ := v
    have e : #[Operand.tmp 40].map a.eval = #[.slice B ((xs.drop f).take m).length d] := by simp [v]
    rw [e]
    exact (copyBytes_any B _ d ((xs.drop f).take m) W rfl (by simp; omega) u).mono fun _ _ q => clone_gives q)
   case s10 =>
    exact st_move rfl (.inl rfl) (src_base (fun i _ => psD_ne 0 (by omega)) rfl)
   case s11 =>
    exact st_move rfl (.inl rfl) (src_base (fun i _ => psD_ne 6 (by omega)) rfl)
   case s12 =>
    exact st_move rfl (.inl rfl) (src_base (fun i _ => psD_ne 5 (by omega)) rfl)
   case s13 =>
    exact st_run rfl fun a W hb hd hg => ⟨.int .i64 ((f : Int) + (m : Int)), W, by
    have u1 : a.eval (.tmp 43) = .int .i64 (f : Int) := (hd ⟨11, .data⟩ (by simp) rfl).now
    have u2 : a.eval (.tmp 44) = .int .i64 (m : Int) := (hd ⟨12, .data⟩ (by simp) rfl).now
    unfold execOp
    simp only [u1, u2]
    go_simp, Sub.refl W, hg, Sp.tv rfl⟩
   case s14 =>
    exact st_run rfl fun a W hb hd hg => ⟨.slice (if c = 0 then some ⟨b, o, none⟩ else (some (⟨b, o, none⟩ : Addr)).map (·.add (0 * 1))) (f + m) c, W, by
     have u10 : a.eval (.tmp 42) = _ := (hd ⟨10, .data⟩ (by simp) rfl).now
     have u13 : a.eval (.tmp 45) = _ := (hd ⟨13, .data⟩ (by simp) rfl).now
     unfold execOp
     simp only [Option.map_some, Option.map_none, u10, u13, Sem.run_bind, Sem.run_pure, sl_h b o xs.length c (f + m) ((f : Int) + (m : Int)) W (by omega) (by omega), Result.andThen_ok], Sub.refl W, hg, fun W' hs => ⟨_, _, by rw [H2.out], by rw [H2.out]; omega, by simp only [maxLen]; omega, ((hxW W hg.1).cut 0 (f + m) hc (by omega)).sub hs, off_cut hbw⟩⟩
   case s15 =>
    exact st_callB rfl rfl (fun a W => run_call rfl cf_copy a W) hGm (fun W h => h.2.2) (fun a W hb hd hg => by
    obtain ⟨B, d, v, -, -, u, -⟩ := (hd ⟨14, .data⟩ (by simp) rfl).now
    have v : a.eval (.tmp 46) = _ := v
    have e : #[Operand.tmp 46].map a.eval = #[.slice B ((xs.drop 0).take (f + m)).length d] := by simp [v]
    rw [e]
    exact (copyBytes_any B _ d ((xs.drop 0).take (f + m)) W rfl (by simp; omega) u).mono fun _ _ q => clone_gives q)
   case s16 =>
    exact st_build rfl rfl fun a W hb hd hg => by
     obtain ⟨A1, c1, v1, -, -, u1, x1⟩ := (hd ⟨9, .data⟩ (by simp) rfl).now
     obtain ⟨A2, c2, v2, -, -, u2, x2⟩ := (hd ⟨15, .data⟩ (by simp) rfl).now
     have v0 : a.eval (.tmp 34) = .int .u8 (t : Int) := (hd ⟨2, .data⟩ (by simp) rfl).now
     have v1 : a.eval (.tmp 41) = _ := v1
     have v2 : a.eval (.tmp 47) = _ := v2
     rw [H1.out] at v1
     rw [H2.out] at v2
     refine ⟨#[.int .u8 (t : Int), .slice A1 m c1, .slice A2 (f + m) c2], ?_, fun w' hs => ⟨A1, c1, A2, c2, rfl, u1.sub hs, x1 _ (by omega)⟩⟩
     simp only [List.map_toArray, List.map_cons, List.map_nil, v0, v1, v2]
     kernel_rfl
   case s17 =>
    exact st_move rfl (.inl rfl) (src_base (fun i _ => psD_ne 0 (by omega)) rfl)
   case s18 =>
    exact st_move rfl (.inl rfl) (src_base (fun i _ => psD_ne 6 (by omega)) rfl)
   case s19 =>
    exact st_move rfl (.inl rfl) (src_base (fun i _ => psD_ne 5 (by omega)) rfl)
   case s20 =>
    exact st_run rfl fun a W hb hd hg => ⟨.int .i64 ((f : Int) + (m : Int)), W, by
    have u1 : a.eval (.tmp 50) = .int .i64 (f : Int) := (hd ⟨18, .data⟩ (by simp) rfl).now
    have u2 : a.eval (.tmp 51) = .int .i64 (m : Int) := (hd ⟨19, .data⟩ (by simp) rfl).now
    unfold execOp
    simp only [u1, u2]
    go_simp, Sub.refl W, hg, Sp.tv rfl⟩
   case s21 =>
    exact st_run rfl fun a W hb hd hg => ⟨.slice (if c = f + m then some ⟨b, o, none⟩ else (some (⟨b, o, none⟩ : Addr)).map (·.add ((f + m) * 1))) (xs.length - (f + m)) (c - (f + m)), W, by
     have u17 : a.eval (.tmp 49) = _ := (hd ⟨17, .data⟩ (by simp) rfl).now
     have u20 : a.eval (.tmp 52) = _ := (hd ⟨20, .data⟩ (by simp) rfl).now
     unfold execOp
     simp only [Option.map_some, Option.map_none, u17, u20, Sem.run_bind, Sem.run_pure, sl_l b o xs.length c (f + m) ((f : Int) + (m : Int)) W (by omega) (by omega), Result.andThen_ok], Sub.refl W, hg, fun W' hs => ⟨_, _, by rw [H3.out], by rw [H3.out]; omega, by simp only [maxLen]; omega, ((hxW W hg.1).cut (f + m) (xs.length - (f + m)) hc (by omega)).sub hs, off_cut hbw⟩⟩
   case s22 =>
    exact st_callB rfl rfl (fun a W => run_call rfl cf_copy a W) hGm (fun W h => h.2.2) (fun a W hb hd hg => by
    obtain ⟨B, d, v, -, -, u, -⟩ := (hd ⟨21, .data⟩ (by simp) rfl).now
    have v : a.eval (.tmp 53) = _ := v
    have e : #[Operand.tmp 53].map a.eval = #[.slice B ((xs.drop (f + m)).take (xs.length - (f + m))).length d] := by simp [v]
    rw [e]
    exact (copyBytes_any B _ d ((xs.drop (f + m)).take (xs.length - (f + m))) W rfl (by simp; omega) u).mono fun _ _ q => clone_gives q)
   case s23 =>
    intro a W hb hd hg K hK
    obtain ⟨A1, c1, A2, c2, hv, u1, x1⟩ := (hd ⟨16, .data⟩ (by simp) rfl).now
    obtain ⟨h5, ⟨cs, hcl, hC⟩, h6⟩ := hg
    have k1 : a.eval (.tmp 2) = .pointer (some ⟨w.heap.size, 0, none⟩) := (hb 2 (fun i _ => psD_ne 2 (by omega))).trans rfl
    have k2 : a.eval (.tmp 48) = _ := hv
    refine step_store_cut rfl 118 (.tmp 2) (.tmp 48) rfl w.heap.size 0 [.int .u8 (t : Int), .slice A1 m c1, .slice A2 (f + m) c2] cs k1 k2 hC hcl.symm size_elem (fun v hv => by simp at hv; rcases hv with rfl | rfl | rfl <;> rfl) (fun w' hst => hK _ w' (fun W' hs => ⟨A1, c1, A2, c2, fun i v hv => hs.cell _ _ (hst.2.2.1.range i v hv), (u1.grown hst.1 (fun g' e => by cases e; exact x1)).sub hs⟩) ⟨hst.1, hst.2.1⟩ ⟨below_only h5 hst.1 h5.size (Nat.le_refl _), ⟨_, rfl, hst.2.2.1⟩, by rw [hst.2.1]; exact h6⟩)
   case s24 =>
    exact st_move rfl (.inr rfl) (src_dep (j := 22) (e := ⟨22, .data⟩) (by simp) rfl rfl rfl)
   case s25 =>
    exact st_move rfl (.inr rfl) src_const
   case fin =>
    intro a W h1 h2 h3 h4 h5
    obtain ⟨A1, c1, A2, c2, hr, u1⟩ := (h4 23 (by show 23 < 26; omega)).now
    obtain ⟨A3, c3, v3, -, -, u3, -⟩ := (h4 24 (by show 24 < 26; omega)).now
    have v4 : a.tmps.getD 4 undef = .int .i64 0 := (h4 25 (by show 25 < 26; omega)).now
    have v3 : a.tmps.getD 3 undef = _ := v3
    have k2 : a.tmps.getD 2 undef = .pointer (some ⟨w.heap.size, 0, none⟩) := (h3 2 (fun i _ => psD_ne 2 (by omega))).trans rfl
    have hz : a.tmps.size = 55 := h2
    have hdf : a.defers = [] := h1
    rw [H3.out] at v3
    rw [act_eq hz hdf]
    simp only [show List.range 55 = [0, 1, 2, 3, 4, 5, 6, 7, 8, 9, 10, 11, 12, 13, 14, 15, 16, 17, 18, 19, 20, 21, 22, 23, 24, 25, 26, 27, 28, 29, 30, 31, 32, 33, 34, 35, 36, 37, 38, 39, 40, 41, 42, 43, 44, 45, 46, 47, 48, 49, 50, 51, 52, 53, 54] from rfl, List.map_cons, List.map_nil, k2, v3, v4]
    clear h4 h3
    go_wp2
    refine bodyPost_ret (results_row_tmp2 rfl _ _ w.heap.size 0 _ _ rfl hr Tryz.underlying118 rfl size_elem) rfl ?_
    refine ⟨h5.1, ?_⟩
    rw [HE.out]
    exact ⟨t, A1, c1, A2, c2, A3, c3, rfl, htb, u1⟩
  ·have he : elemB xs = none := by
    unfold elemB
    rw [hh2]
    dsimp only
    rw [if_neg hle]
   have HE := Lib.hid he
   have z3 : decide ((xs.length : Int) - (f : Int) < (m : Int)) = true := decide_eq_true (by omega)
   clear he hh2 hh hH h31 hxs hxt
   go_wp2_with (refine wpList_store_cut rfl 118 (.tmp 2) (.tmp 31) rfl w.heap.size 0 [.int .u8 0, .slice none 0 0, .slice none 0 0] _ rfl rfl K2 rfl size_elem (fun v hv => by simp at hv; rcases hv with rfl | rfl <;> rfl) ?_; intro w4 hst)
   refine bodyPost_ret (results_row_tmp2 rfl _ _ w.heap.size 0 _ _ rfl hst.2.2.1.range Tryz.underlying118 rfl size_elem) rfl ?_
   refine ⟨below_only e2 hst.1 e2.size (Nat.le_refl _), ?_⟩
   rw [HE.out]
   rfl
end Go.Proofs.YtchaahnhpeoomaaGreat
