/-
  A power, by a modulus (Exp).
-/
import Derived.RangeFuncNested
import Derived.RangeFuncBound
import Derived.RangeFuncCalls
import Derived.RangeFuncLeaves
import Derived.RangeFuncFrom
import Derived.Shelf.Abstract
import Derived.Shelf.RegionOpen
import Derived.WalkKit
import Derived.OwnWalkIn
import Derived.TacticsInMore
import Derived.LoopNIn
import Derived.LoopIn
import Derived.Deep.RegionHeld3
import Derived.Deep.DeepCutAuto
import Derived.Deep.CutRange
import Derived.Test.YtfclpieijbgodaaMonI
namespace Go.Proofs.Ytfclpieijbgodaa
set_option linter.unusedVariables false
set_option linter.unusedSimpArgs false
open Go.RowKit
attribute [local go_sem] Oper.semAt_some
theorem below_drew {n : Nat} {a w : World} (h : Below n a w) : Below n a w.drew := below_drewN h 1
section
variable {W W' : World} {P : Nat}
/-- A box that holds no slice yet. -/
theorem qk (h : Below W.heap.size W W') (k : W.cell? ⟨P, 0, none⟩ = some (.slice none 0 0) ∧ W.frozen? ⟨P, 0, none⟩ = false ∧ P < W.heap.size) : W'.cell? ⟨P, 0, none⟩ = some (.slice none 0 0) ∧ W'.frozen? ⟨P, 0, none⟩ = false ∧ P < W'.heap.size :=
  ⟨(h.cell (p := ⟨P, 0, none⟩) k.2.2).trans k.1, (World.frozen?_of_block (w := W) (a := ⟨P, 0, none⟩) (h.block P k.2.2)).trans k.2.1, Nat.lt_of_lt_of_le k.2.2 h.size⟩
theorem q0 (k : W.cell? ⟨P, 0, none⟩ = some (.slice none 0 0) ∧ W.frozen? ⟨P, 0, none⟩ = false ∧ P < W.heap.size) : (W.alloc (.cells #[.slice none 0 0] 22)).cell? ⟨P, 0, none⟩ = some (.slice none 0 0) ∧ (W.alloc (.cells #[.slice none 0 0] 22)).frozen? ⟨P, 0, none⟩ = false ∧ P < (W.alloc (.cells #[.slice none 0 0] 22)).heap.size :=
  qk ((Below.refl _ _).alloc (Nat.le_refl _) _) k
theorem qn (W : World) : (W.alloc (.cells #[.slice none 0 0] 22)).cell? ⟨W.heap.size, 0, none⟩ = some (.slice none 0 0) ∧ (W.alloc (.cells #[.slice none 0 0] 22)).frozen? ⟨W.heap.size, 0, none⟩ = false ∧ W.heap.size < (W.alloc (.cells #[.slice none 0 0] 22)).heap.size := by simp
theorem qn2 (W : World) : ((W.alloc (.cells #[.slice none 0 0] 22)).alloc (.cells #[.slice none 0 0] 22)).cell? ⟨W.heap.size + 1, 0, none⟩ = some (.slice none 0 0) ∧ ((W.alloc (.cells #[.slice none 0 0] 22)).alloc (.cells #[.slice none 0 0] 22)).frozen? ⟨W.heap.size + 1, 0, none⟩ = false ∧ W.heap.size + 1 < ((W.alloc (.cells #[.slice none 0 0] 22)).alloc (.cells #[.slice none 0 0] 22)).heap.size := by
  have h := qn (W.alloc (.cells #[.slice none 0 0] 22))
  rwa [World.size_alloc] at h
/-- A box holds a slice. -/
def BoxAt (W : World) (P : Nat) : Prop := ∃ a n c, W.cell? ⟨P, 0, none⟩ = some (.slice a n c)
theorem boxat_of (k : W.cell? ⟨P, 0, none⟩ = some (.slice none 0 0) ∧ W.frozen? ⟨P, 0, none⟩ = false ∧ P < W.heap.size) : BoxAt W P := ⟨_, _, _, k.1⟩
theorem rd_setbox {A : Option Addr} {xs : List Nat} {u : Value} (h : Rd .u32 W A xs) (hb : BoxAt W P) : Rd .u32 (W.setCell ⟨P, 0, none⟩ u) A xs := by
  rcases h with rfl | ⟨b, off, rfl, hl, hc⟩
  · exact Rd.nil _ _ _
  · refine .inr ⟨b, off, rfl, by simpa using hl, fun i x hx => ?_⟩
    have h1 := hc i x hx
    refine (World.cell?_setCell_other W _ _ _ ?_).trans h1
    intro e
    obtain ⟨a, n, c, h2⟩ := hb
    rw [e] at h2
    rw [h1] at h2
    cases h2
theorem boxat_set {Q : Nat} {a : Option Addr} {n c : Nat} (h : BoxAt W P) : BoxAt (W.setCell ⟨Q, 0, none⟩ (.slice a n c)) P := by
  obtain ⟨a', n', c', h2⟩ := h
  by_cases e : P = Q
  · subst e
    exact ⟨a, n, c, World.cell?_setCell_same W _ _ h2⟩
  · exact ⟨a', n', c', (World.cell?_setCell_other W _ _ _ (by intro h; injection h with h; exact e h.symm)).trans h2⟩
theorem qdrew (k : W.cell? ⟨P, 0, none⟩ = some (.slice none 0 0) ∧ W.frozen? ⟨P, 0, none⟩ = false ∧ P < W.heap.size) : W.drew.cell? ⟨P, 0, none⟩ = some (.slice none 0 0) ∧ W.drew.frozen? ⟨P, 0, none⟩ = false ∧ P < W.drew.heap.size := k
end
theorem own_put {k : IntKind} {W : World} {B D : Nat} {A : Option Addr} {xs : List Nat} {o o' : Obj} (h : Own k W B A xs) (hD : W.heap[D]? = some o) (ho : o.isCells = false) : Own k (W.putObj D o') B A xs := by
  have hr : ∀ r, some D = some r → ∃ o : Obj, W.heap[r]? = some o ∧ o.isCells = false := fun r e => by
    injection e with e
    subst e
    exact ⟨o, hD, ho⟩
  rcases h with rfl | ⟨g, off, ds, rfl, hB, ⟨hl, hc⟩, hx⟩
  · exact .inl rfl
  · refine .inr ⟨g, off, ds, rfl, hB, ⟨Nat.lt_of_lt_of_le hl (grownBy_putObj' W D o').size, fun i x hi => ?_⟩, hx⟩
    obtain ⟨h1, h2⟩ := hc i x hi
    exact ⟨cell_kept h1 (grownBy_putObj' W D o') hr, (frozen_kept h1 (grownBy_putObj' W D o') hr).trans h2⟩
set_option maxRecDepth 100000 in
set_option maxHeartbeats 1600000 in
theorem mexpOk_any (B0 g : Nat) (ms : List Nat) (X Y : Option Addr) (n m c d : Nat) (xs es : List Nat) (w : World) (hO : ModOk w B0 g ms) (hM : MayM ms) (hn : n = xs.length) (hm : m = es.length) (hl' : m ≤ 30000) (hx : Rd .u32 w X xs) (hy : Rd .u32 w Y es) (lx : Lim 4294967296 xs) (ly : Lim 4294967296 es)
    (h1 : mayOf xs ms = true) (h2 : isRight es = true) :
    Calls Try.prog 37 #[.pointer (some ⟨g, 0, none⟩), .slice X n c, .slice Y m d] w (Gives2 .u32 (limbs (val xs ^ val es % val ms)) 0 w) := by
  subst hn
  subst hm
  obtain ⟨rx, hxM, hxl⟩ := mayOf_out hM.lm lx h1
  have hml := hM.len
  have hg0 : g < w.heap.size := by obtain ⟨_, _, _, ⟨_, _, h, _⟩, _⟩ := hO.mrd; exact h
  have hO1 := hO.below ((Below.refl w.heap.size w).alloc (Nat.le_refl _) (.cells #[.pointer (some ⟨g, 0, none⟩)] 34))
  obtain ⟨ninv, A2, c2, hR, hsq, hrs, hnl, hni⟩ := hO1.mrd
  refine (callsIn_wide (n := 8)).1 ?_
  refine callsIn_of_wp_marks Try.func37 rfl trivial ?_ rfl
  refine wpIn_wide.2 ?_
  simp only [Try.ntmps37, List.size_toArray, List.length_cons, List.length_nil, Nat.reduceAdd, Nat.reduceSub, Array.replicate_succ, Array.replicate_zero, List.push_toArray, List.append_toArray, List.nil_append, List.cons_append]
  have hB1 : Below w.heap.size w (w.alloc (.cells #[.pointer (some ⟨g, 0, none⟩)] 34)) := (Below.refl _ _).alloc (Nat.le_refl _) _
  have hbox : (w.alloc (.cells #[.pointer (some ⟨g, 0, none⟩)] 34)).cell? ⟨w.heap.size, 0, none⟩ = some (.pointer (some ⟨g, 0, none⟩)) := by simp
  have hbl : w.heap.size < (w.alloc (.cells #[.pointer (some ⟨g, 0, none⟩)] 34)).heap.size := by simp
  have hx1 := hx.below hB1
  have hy1 := hy.below hB1
  have hmay := Lib.hid (mmay_any g ms ninv X _ c xs _ hR hM.right rfl (by omega) hx1 lx hM.lm)
  rw [h1] at hmay
  clear hO hO1 h1
  go_wp2_with fail
  refine hmay.out.mono ?_
  rintro e w' ⟨rfl, q, rfl⟩
  clear hmay
  replace hbox : ((w.alloc (.cells #[.pointer (some ⟨g, 0, none⟩)] 34)).drewN q).cell? ⟨w.heap.size, 0, none⟩ = some (.pointer (some ⟨g, 0, none⟩)) := hbox
  replace hbl : w.heap.size < ((w.alloc (.cells #[.pointer (some ⟨g, 0, none⟩)] 34)).drewN q).heap.size := hbl
  replace hB1 := below_drewN hB1 q
  replace hR := hR.below (below_drewN (Below.refl _ _) q)
  replace hsq : ((w.alloc (.cells #[.pointer (some ⟨g, 0, none⟩)] 34)).drewN q).cell? ⟨g, 2, none⟩ = some (.slice A2 (sqM ms).length c2) := hsq
  replace hrs := hrs.drewN q
  clear hx1 hy1
  generalize (w.alloc (.cells #[.pointer (some ⟨g, 0, none⟩)] 34)).drewN q = w1 at *
  go_wp2_with fail
  refine (right_any Y _ d es w1 rfl (by omega) (hy.below hB1)).mono ?_
  rintro e w' ⟨rfl, rfl⟩
  rw [h2]
  have hgl : g < w1.heap.size := by obtain ⟨_, _, h, _⟩ := hR; exact h
  have hsl := sqM_len hM
  have hp := hM.pos
  have hSS : ∀ W, Below w1.heap.size w1 W → (Below w1.heap.size w1 W ∧ W.cell? ⟨w.heap.size, 0, none⟩ = some (.pointer (some ⟨g, 0, none⟩)) ∧ W.cell? ⟨g, 2, none⟩ = some (.slice A2 (sqM ms).length c2)) := fun W h =>
    ⟨h, (h.cell (p := ⟨w.heap.size, 0, none⟩) hbl).trans hbox, (h.cell (p := ⟨g, 2, none⟩) hgl).trans hsq⟩
  go_upto_region 5 with fail
  go_cut [8, 9] from 26 to 34 (fun s8 s9 wx => ∃ A8 c8 A9 c9 r8 r9, s8 = .slice A8 ms.length c8 ∧ s9 = .slice A9 ms.length c9 ∧ Hid (r8.length = ms.length) ∧ Lim 4294967296 r8 ∧ Hid (val r8 = val (sqM ms)) ∧ Rd .u32 wx A8 r8 ∧ Hid (r9.length = ms.length) ∧ Lim 4294967296 r9 ∧ Hid (val r9 = 1) ∧ Rd .u32 wx A9 r9 ∧ Below w1.heap.size w1 wx)
  case first =>
    have hd0 : Below w1.heap.size w1 w1.drew := below_drewN (Below.refl _ _) 1
    have hd1 : Below w1.heap.size w1 (w1.alloc (.cells #[.int .u32 1] 33)).drew := below_drewN ((Below.refl _ _).alloc (Nat.le_refl _) _) 1
    have hr1 : Rd .u32 (w1.alloc (.cells #[.int .u32 1] 33)).drew (some ⟨w1.heap.size, 0, none⟩) [1] := Rd.of_all (blk_lit (k := .u32) (t := 33) w1 [1] #[.int .u32 1] rfl)
    have hW1 : Hid (∀ W, Below w1.heap.size w1 W → Calls Try.prog 77 #[.pointer (some ⟨g, 0, none⟩), .slice A2 (sqM ms).length c2] W (GivesRow ms.length (val (sqM ms)) W)) := fun W h => mwide_any g ms ninv A2 (sqM ms).length c2 (sqM ms) _ (hR.below h) (by omega) rfl hsl (hrs.below h) (limbs_lim _)
    have hW2 : Hid (∀ W b, Below w1.heap.size w1 W → Rd .u32 W (some ⟨b, 0, none⟩) [1] → Calls Try.prog 77 #[.pointer (some ⟨g, 0, none⟩), .slice (some ⟨b, 0, none⟩) 1 1] W (GivesRow ms.length (val [1]) W)) := fun W b h hr => mwide_any g ms ninv _ 1 1 [1] _ (hR.below h) (by omega) rfl hp hr (fun x hx => by simp at hx; omega)
    go_region_held3 (fun W => Below w1.heap.size w1 W ∧ W.cell? ⟨w.heap.size, 0, none⟩ = some (.pointer (some ⟨g, 0, none⟩)) ∧ W.cell? ⟨g, 2, none⟩ = some (.slice A2 (sqM ms).length c2))
      (first | with_reducible exact hSS _ hcur9 | with_reducible exact hSS _ hcur8 | with_reducible exact hSS _ hd0 | with_reducible exact hSS _ (hcur8.alloc hcur8.size _) | with_reducible exact hSS _ hd1)
      (first
        | (go_at_call 77; (with_reducible refine (hW1.out _ hd0).mono ?_); rintro e w8 ⟨r8, k1, k2, k3, A8, c8, rfl, _, _, k6, k7⟩; have hcur8 := hd0.trans (k7.mono hd0.size); rw [k1])
        | (go_at_call 77; (with_reducible refine (hW1.out _ hd1).mono ?_); rintro e w8 ⟨r8, k1, k2, k3, A8, c8, rfl, _, _, k6, k7⟩; have hcur8 := hd1.trans (k7.mono hd1.size); have hr8 := hr1.below k7; rw [k1])
        | (go_at_call 77; (with_reducible refine (hW2.out _ _ hcur8 hr8).mono ?_); rintro e w9 ⟨r9, l1, l2, l3, A9, c9, rfl, _, _, l6, l7⟩; have hcur9 := hcur8.trans (l7.mono hcur8.size); have hr8' := k6.rd.below l7; rw [l1])
        | (go_at_call 77; (with_reducible refine (hW2.out _ _ (hcur8.alloc hcur8.size (.cells #[.int .u32 1] 33)) (Rd.of_all (blk_lit (k := .u32) (t := 33) w8 [1] #[.int .u32 1] rfl))).mono ?_); rintro e w9 ⟨r9, l1, l2, l3, A9, c9, rfl, _, _, l6, l7⟩; have hcur9 := (hcur8.alloc hcur8.size (.cells #[.int .u32 1] 33)).trans (l7.mono (hcur8.alloc hcur8.size (.cells #[.int .u32 1] 33)).size); have hr8' := (k6.rd.alloc (.cells #[.int .u32 1] 33)).below l7; rw [l1]))
    all_goals go_wp2_with fail
    all_goals go_meet
    all_goals
      case rel => exact ⟨A8, c8, A9, c9, r8, r9, rfl, rfl, k1, k2, k3, hr8', l1, l2, l3, l6.rd, hcur9⟩
  case rest =>
    obtain ⟨A8, c8, A9, c9, r8, r9, rfl, rfl, k1, k2, k3, k4, l1, l2, l3, l4, hb2⟩ := hcut
    obtain ⟨w2, rfl⟩ : ∃ w2, w2 = wc := ⟨wc, rfl⟩
    clear hSS
    have hgl2 := Nat.lt_of_lt_of_le hgl hb2.size
    have hR2 := hR.below hb2
    have hbox2 := (hb2.cell (p := ⟨w.heap.size, 0, none⟩) hbl).trans hbox
    have hbl2 := Nat.lt_of_lt_of_le hbl hb2.size
    have hB2 := hB1.trans (hb2.mono hB1.size)
    have hx2 := hx.below hB2
    have hsv := sqM_lt hM
    have hlm := hM.lm
    have hW1 : Hid (∀ W, Below w2.heap.size w2 W → Calls Try.prog 77 #[.pointer (some ⟨g, 0, none⟩), .slice X xs.length c] W (GivesRow ms.length (val xs) W)) := fun W h => mwide_any g ms ninv X xs.length c xs _ (hR2.below h) (by omega) rfl hxl (hx2.below h) lx
    have hW2 : Hid (∀ W A cc r, Below w2.heap.size w2 W → Rd .u32 W A r → Lim 4294967296 r → r.length = ms.length → Calls Try.prog 76 #[.pointer (some ⟨g, 0, none⟩), .slice A ms.length cc, .slice A8 ms.length c8] W (GivesRow ms.length (mred (val ms) ninv (val r8) r) W)) := fun W A cc r h hr lr hl => mreduce_any g ms ninv A A8 _ _ cc c8 r r8 W (hR2.below h) (by omega) rfl rfl hl k1 hr (k4.below h) lr k2 hlm hni hnl hp (by rw [k3.out]; exact hsv)
    have hW3 : Hid (∀ W, Below w2.heap.size w2 W → Calls Try.prog 76 #[.pointer (some ⟨g, 0, none⟩), .slice A9 ms.length c9, .slice A8 ms.length c8] W (GivesRow ms.length (mred (val ms) ninv (val r8) r9) W)) := fun W h => mreduce_any g ms ninv A9 A8 _ _ c9 c8 r9 r8 W (hR2.below h) (by omega) rfl rfl l1 k1 (l4.below h) (k4.below h) l2 k2 hlm hni hnl hp (by rw [k3.out]; exact hsv)
    have hSS : ∀ W, Below w2.heap.size w2 W → (Below w2.heap.size w2 W ∧ W.cell? ⟨w.heap.size, 0, none⟩ = some (.pointer (some ⟨g, 0, none⟩))) := fun W h => ⟨h, (h.cell (p := ⟨w.heap.size, 0, none⟩) hbl2).trans hbox2⟩
    have hd0 : Below w2.heap.size w2 w2.drew := below_drewN (Below.refl _ _) 1
    have hR1 := hR
    clear hR2 hx2 hlm hsv k4 hR hbox hsq hrs
    go_upto_region 6 with fail
    go_cut [10, 11] from 35 to 44 (fun s10 s11 wx => ∃ bA bB Ab cb rb Ad cd rd ra, s10 = .pointer (some ⟨bA, 0, none⟩) ∧ s11 = .pointer (some ⟨bB, 0, none⟩) ∧ w2.heap.size ≤ bA ∧ w2.heap.size ≤ bB ∧ bA ≠ bB ∧ wx.cell? ⟨bA, 0, none⟩ = some (.slice Ab ms.length cb) ∧ wx.cell? ⟨bB, 0, none⟩ = some (.slice Ad ms.length cd) ∧ wx.frozen? ⟨bB, 0, none⟩ = false ∧
      Hid (rb.length = ms.length) ∧ Lim 4294967296 rb ∧ Hid (val rb = mred (val ms) ninv (val r8) ra) ∧ Hid (ra.length = ms.length) ∧ Lim 4294967296 ra ∧ Hid (val ra = val xs) ∧ Hid (rd.length = ms.length) ∧ Lim 4294967296 rd ∧ Hid (val rd = mred (val ms) ninv (val r8) r9) ∧ Rd .u32 wx Ab rb ∧ Rd .u32 wx Ad rd ∧ Below w2.heap.size w2 wx)
    case first =>
     go_region_held3 (fun W => Below w2.heap.size w2 W ∧ W.cell? ⟨w.heap.size, 0, none⟩ = some (.pointer (some ⟨g, 0, none⟩)))
      (first | with_reducible exact hSS _ hcurC | with_reducible exact hSS _ hcurB | with_reducible exact hSS _ hcurA | with_reducible exact hSS _ hd0 | (refine hSS _ ?_; repeat' (first | (with_reducible assumption) | (with_reducible exact Below.refl _ _) | (with_reducible refine below_drew ?_) | (with_reducible refine Below.alloc ?_ ?_ _) | (with_reducible refine Below.setCell ?_ ?_ _) | omega | (simp; done) | (simp; omega))))
      (first
        | (go_at_call 77; (with_reducible refine (hW1.out _ ‹Below w2.heap.size w2 _ ∧ _›.1).mono ?_); rintro e wa ⟨ra, a1, a2, a3, Aa, ca, rfl, _, _, a6, a7⟩; have hcurA := ‹Below w2.heap.size w2 _ ∧ _›.1.trans (a7.mono ‹Below w2.heap.size w2 _ ∧ _›.1.size); have ha4 := hcurA.size; (first | (have qa1 := qk a7 (qdrew (qn w2)); skip) | (have qa1 := qk a7 (qdrew (q0 (qn w2))); have qa2 := qk a7 (qdrew (qn2 w2)); skip) | skip); have ha5 := a6.rd; rw [a1])
        | (go_at_call 76; (with_reducible refine (hW2.out _ _ _ _ ‹Below w2.heap.size w2 _ ∧ _›.1 (by first | exact ha5 | exact ha5.alloc _ | exact (ha5.alloc _).alloc _) a2 a1).mono ?_); rintro e wb ⟨rb, b1, b2, b3, Ab, cb, rfl, _, _, b6, b7⟩; have hcurB := ‹Below w2.heap.size w2 _ ∧ _›.1.trans (b7.mono ‹Below w2.heap.size w2 _ ∧ _›.1.size); have hb4 := hcurB.size; (first | (have qb3 := qk b7 (qn wa); skip) | (have qb3 := qk b7 (q0 (qn wa)); have qb4 := qk b7 (qn2 wa); skip) | skip); (first | (have qb1 := qk b7 qa1; skip) | (have qb1 := qk b7 (q0 qa1); skip) | skip); (first | (have qb2 := qk b7 qa2; skip) | skip); have hb5 := b6.rd; rw [b1])
        | (go_at_call 76; (with_reducible refine (hW3.out _ ‹Below w2.heap.size w2 _ ∧ _›.1).mono ?_); rintro e wd ⟨rd, d1, d2, d3, Ad, cd, rfl, _, _, d6, d7⟩; have hcurC := ‹Below w2.heap.size w2 _ ∧ _›.1.trans (d7.mono ‹Below w2.heap.size w2 _ ∧ _›.1.size); have hd4 := hcurC.size; (first | (have qc5 := qk d7 (qn wb); skip) | (have qc5 := qk d7 (q0 (qn wb)); have qc6 := qk d7 (qn2 wb); skip) | skip); (first | (have qc1 := qk d7 qb1; skip) | (have qc1 := qk d7 (q0 qb1); skip) | skip); (first | (have qc2 := qk d7 qb2; skip) | (have qc2 := qk d7 (q0 qb2); skip) | skip); (first | (have qc3 := qk d7 qb3; skip) | (have qc3 := qk d7 (q0 qb3); skip) | skip); (first | (have qc4 := qk d7 qb4; skip) | (have qc4 := qk d7 (q0 qb4); skip) | skip); have hb5' : Rd .u32 wd Ab rb := (by first | exact hb5.below d7 | exact (hb5.alloc _).below d7 | exact ((hb5.alloc _).alloc _).below d7); rw [d1]))
     all_goals go_wp2_with fail
     all_goals go_meet
     all_goals
       case rel =>
        have dR := d6.rd
        refine ⟨_, _, Ab, cb, rb, Ad, cd, rd, ra, rfl, rfl, ?p1, ?p2, ?p3, ?p4, ?p5, ?p6, b1, b2, b3, a1, a2, a3, d1, d2, d3, ?r1, ?r2, ?p7⟩
        case p1 => first | omega | (simp; done) | (simp; omega)
        case p2 => first | omega | (simp; done) | (simp; omega)
        case p3 => first | omega | (simp; done) | (simp; omega)
        case p4 => go_simp
        case p5 => go_simp
        case p6 => go_simp
        case r1 => repeat' (first | (with_reducible assumption) | (with_reducible refine Rd.alloc ?_ _) | (with_reducible refine rd_setbox ?_ ?_) | (with_reducible refine boxat_set ?_) | (with_reducible exact boxat_of qc1) | (with_reducible exact boxat_of qc2) | (with_reducible exact boxat_of qc3) | (with_reducible exact boxat_of qc4) | (with_reducible exact boxat_of qc5) | (with_reducible exact boxat_of qc6))
        case r2 => repeat' (first | (with_reducible assumption) | (with_reducible refine Rd.alloc ?_ _) | (with_reducible refine rd_setbox ?_ ?_) | (with_reducible refine boxat_set ?_) | (with_reducible exact boxat_of qc1) | (with_reducible exact boxat_of qc2) | (with_reducible exact boxat_of qc3) | (with_reducible exact boxat_of qc4) | (with_reducible exact boxat_of qc5) | (with_reducible exact boxat_of qc6))
        case p7 => repeat' (first | (with_reducible assumption) | (with_reducible refine below_drew ?_) | (with_reducible refine Below.alloc ?_ ?_ _) | (with_reducible refine Below.setCell ?_ ?_ _) | omega | (simp; done) | (simp; omega))
    case rest =>
     obtain ⟨bA, bB, Ab, cb, rb, Ad, cd, rd, ra, rfl, rfl, hbA, hbB, hne, hcA, hcB, hfB, b1, b2, b3, a1, a2, a3, d1, d2, d3, hrA, hrB, hb3⟩ := hcut
     obtain ⟨w3, rfl⟩ : ∃ w3, w3 = wc := ⟨wc, rfl⟩
     have hB3 := hB2.trans (hb3.mono hB2.size)
     clear hW1 hW2 hW3 hSS hd0
     go_wp2_with fail
     refine (mbits_any Y es.length d w3).mono ?_
     rintro e w' ⟨rfl, rfl⟩
     go_wp2_with fail
     have hb4 : Below w3.heap.size w3 (w3.alloc (.cells #[.slice Y es.length d] 22)) := (Below.refl _ _).alloc (Nat.le_refl _) _
     have hbe : (w3.alloc (.cells #[.slice Y es.length d] 22)).cell? ⟨w3.heap.size, 0, none⟩ = some (.slice Y es.length d) := by simp
     have hBsl : w3.heap.size < (w3.alloc (.cells #[.slice Y es.length d] 22)).heap.size := by simp
     have hbBl3 : bB < w3.heap.size := World.block_lt_of_cell? w3 _ hcB
     have hbAl3 : bA < w3.heap.size := World.block_lt_of_cell? w3 _ hcA
     replace hcA := (hb4.cell (p := ⟨bA, 0, none⟩) hbAl3).trans hcA
     replace hcB := (hb4.cell (p := ⟨bB, 0, none⟩) hbBl3).trans hcB
     replace hfB := (World.frozen?_of_block (w := w3) (a := ⟨bB, 0, none⟩) (hb4.block bB hbBl3)).trans hfB
     replace hrA := hrA.below hb4
     replace hrB := hrB.below hb4
     have hB4 := hB3.trans (hb4.mono hB3.size)
     have hbox3 := (hb3.cell (p := ⟨w.heap.size, 0, none⟩) hbl2).trans hbox2
     replace hbox3 := (hb4.cell (p := ⟨w.heap.size, 0, none⟩) (World.block_lt_of_cell? w3 _ hbox3)).trans hbox3
     have hR3 : MRd (w3.alloc (.cells #[.slice Y es.length d] 22)) g ms ninv := ((hR1.below hb2).below hb3).below hb4
     have hl4 := (l4.below hb3).below hb4
     have hBsB : w3.heap.size ≠ bB := by omega
     generalize hw4 : w3.alloc (.cells #[.slice Y es.length d] 22) = w4 at *
     clear hw4
     generalize w3.heap.size = Bs at *
     have hx3 : val rb < val ms ∧ val rd < val ms := ⟨by rw [b3.out]; exact mred_lt hni (by rw [k3.out]; exact sqM_lt hM) a2, by rw [d3.out]; exact mred_lt hni (by rw [k3.out]; exact sqM_lt hM) l2⟩
     have hRepB : Rep (val ms) (radix ms) (val rb) (val xs) := by
       refine Rep.into (radix_coprime hM) (sqM_cg ms) (Cg.refl _ (val ra)) hx3.1 ?_ |> fun h => by rw [a3.out] at h; exact h
       rw [← k3.out, b3.out]
       exact mred_radix hni a1.out
     have hRepD : Rep (val ms) (radix ms) (val rd) 1 := by
       refine Rep.into (radix_coprime hM) (sqM_cg ms) (Cg.refl _ (val r9)) hx3.2 ?_ |> fun h => by rw [l3.out] at h; exact h
       rw [← k3.out, d3.out]
       exact mred_radix hni l1.out
     have hsl3 : ∃ a n c, w4.cell? ⟨bB, 0, none⟩ = some (.slice a n c) := ⟨_, _, _, hcB⟩
     have hwB : w.heap.size ≤ bB := by have := hB2.size; omega
     have hy0 : es = [] ∨ ∃ b off, Y = some ⟨b, off, none⟩ ∧ b < w.heap.size ∧ ∀ (i x : Nat), es[i]? = some x → w4.cell? ⟨b, off + i, none⟩ = some (.int .u32 (x : Int)) := by
       rcases hy with h | ⟨b, off, e1, e2, e3⟩
       · exact .inl h
       · exact .inr ⟨b, off, e1, e2, fun i x hx => ((hB4.cell (p := ⟨b, off + i, none⟩) e2).trans (e3 i x hx))⟩
     have hPw : Pw w4 bB ms (val xs) [] w4 := ⟨CK.refl _ _, Ad, cd, rd, hcB, hfB, d1.out, d2, by rw [show ofBits [] = 0 from rfl, Nat.pow_zero]; exact hRepD, hrB⟩
     refine (wpIn_wide (n := 8)).1 ?_
     refine wpIn_rangeFunc_ownF rfl (by omega) (gf := 98) (lb := #[.pointer (some ⟨Bs, 0, none⟩)]) rfl trivial (enters_of Try.func98 (by kernel_rfl) rfl)
       (bits_stops (8 - 1) (by omega) Bs w.heap.size Y d es hl' ly h2 w4 hBsl hB4.size hbe hy0) Kp.trans (Kp.put hB4.size hBsl) (Below.refl _ _) (fun _ => rfl)
       (fun pre W => Pw w4 bB ms (val xs) pre W ∧ Below w.heap.size w W) (fun _ _ _ => False)
       (OwnFrom.and (Pw.own _ _ _ _ _) (ownFrom_below (Nat.le_refl _) (by have := hB4.size; omega))) (fun _ _ _ _ _ hs _ _ => hs)
       ⟨hPw, hB4⟩ ?a1 ?assign ?body ?done ?stop
     case assign =>
       intro l x W K hK
       gi_wp2
       exact hK
     case body =>
       rintro l pre x W ⟨⟨hck, A, cA, rr, q1, q2, q3, q4, q5, q6⟩, hbW⟩ _
       have hwne : (⟨w.heap.size, 0, none⟩ : Addr) ≠ ⟨bB, 0, none⟩ := by intro e; injection e with e; omega
       have hgne : g ≠ bB := by omega
       have hbW3 := hck.2 _ _ hbox3 hwne
       have hAne : (⟨bA, 0, none⟩ : Addr) ≠ ⟨bB, 0, none⟩ := by intro e; injection e with e; exact hne e
       have hMW := hck.mrd hsl3 hgne hR3
       have c1' := Lib.hid (mreduce_any g ms ninv A A _ _ cA cA rr rr W hMW (by omega) rfl rfl q3 q3 q6 q6 q4 q4 hM.lm hni hnl hp q5.1)
       have hbWl : bB < W.heap.size := World.block_lt_of_cell? W _ q1
       have hwWl : w.heap.size < W.heap.size := World.block_lt_of_cell? W _ hbW3
       have hd6 : 1 ≤ 8 - 1 - 1 := by omega
       cases x with
       | false =>
         gi_wp2_with (refine ⟨trivial, ?_⟩; gi_at_call 76; refine (CallsIn.inRound l (callsIn_wide.2 c1'.out)).mono ?_; rintro e W1 ⟨r1, t1, t2, t3, A1, ca1, rfl, _, _, t6, t7⟩; have q1' := (t7.cell (p := ⟨bB, 0, none⟩) hbWl).trans q1; have q2' := (World.frozen?_of_block (w := W) (a := ⟨bB, 0, none⟩) (t7.block bB hbWl)).trans q2; rw [t1])
         have hv := mred_radix (Y := val rr) (rs := rr) hni q3
         have hlt := mred_lt (Y := val rr) (xs := rr) hni q5.1 q4
         rw [← t3] at hv hlt
         have hRep := Rep.mul (radix_coprime hM) q5 q5 hlt hv
         rw [← Nat.pow_add, show ofBits pre + ofBits pre = ofBits (pre ++ [false]) by rw [ofBits_snoc]; simp; omega] at hRep
         exact ⟨step_keeps t7 bB _, step_kp t7 hbW.size hwB (Nat.lt_of_lt_of_le hBsl hck.1) hBsB _, step_pw (v := 0) (E' := 0) (pre := pre) hck t7 ⟨_, _, _, q1'⟩ q2' t1 t2 t6.rd hRep, (hbW.trans (t7.mono hbW.size)).setCell (p := ⟨bB, 0, none⟩) hwB _⟩
       | true =>
         gi_wp2_with (first
           | (refine ⟨trivial, ?_⟩; gi_at_call 76; (with_reducible refine (CallsIn.inRound l (callsIn_wide.2 c1'.out)).mono ?_); rintro e W1 ⟨r1, t1, t2, t3, A1, ca1, rfl, _, _, t6, t7⟩; have q1' := (t7.cell (p := ⟨bB, 0, none⟩) hbWl).trans q1; have q2' := (World.frozen?_of_block (w := W) (a := ⟨bB, 0, none⟩) (t7.block bB hbWl)).trans q2;
              have hck2 := (hck.below t7).set (.slice A1 ms.length ca1); have hb2' := hck2.2 _ _ hbox3 hwne; have hA2' := hck2.2 _ _ hcA hAne; have q3' := World.cell?_setCell_same W1 ⟨bB, 0, none⟩ (.slice A1 ms.length ca1) q1'; have q4' : (W1.setCell ⟨bB, 0, none⟩ (.slice A1 ms.length ca1)).frozen? ⟨bB, 0, none⟩ = false := (by rw [World.frozen?_setCell]; exact q2');
              have c2' := Lib.hid (mreduce_any g ms ninv A1 Ab _ _ ca1 cb r1 rb (W1.setCell ⟨bB, 0, none⟩ (.slice A1 ms.length ca1)) (hck2.mrd hsl3 hgne hR3) (by omega) rfl rfl t1 b1.out (rd_setcell t6.rd ⟨_, _, _, q1'⟩) (hck2.rd hsl3 hrA) t2 b2 hM.lm hni hnl hp hx3.1); rw [t1])
           | (refine ⟨trivial, ?_⟩; gi_at_call 76; (with_reducible refine (CallsIn.inRound l (callsIn_wide.2 c2'.out)).mono ?_); rintro e W3 ⟨r3, u1', u2', u3', A3, ca3, rfl, _, _, u6', u7'⟩; have hbl5 := World.block_lt_of_cell? _ _ q3'; have q5' := (u7'.cell (p := ⟨bB, 0, none⟩) hbl5).trans q3'; have q6' := (World.frozen?_of_block (a := ⟨bB, 0, none⟩) (u7'.block bB hbl5)).trans q4'; rw [u1']))
         have hv := mred_radix (Y := val rr) (rs := rr) hni q3
         have hlt := mred_lt (Y := val rr) (xs := rr) hni q5.1 q4
         rw [← t3] at hv hlt
         have hRep := Rep.mul (radix_coprime hM) q5 q5 hlt hv
         have hv2 := mred_radix (Y := val rb) (rs := r1) hni t1
         have hlt2 := mred_lt (Y := val rb) (xs := r1) hni hx3.1 t2
         rw [← u3'] at hv2 hlt2
         have hRep2 := Rep.mul (radix_coprime hM) hRep hRepB hlt2 hv2
         rw [← Nat.pow_add, ← Nat.pow_succ, show (ofBits pre + ofBits pre).succ = ofBits (pre ++ [true]) by rw [ofBits_snoc]; simp; omega] at hRep2
         have hkp1 := step_kp t7 hbW.size hwB (Nat.lt_of_lt_of_le hBsl hck.1) hBsB (.slice A1 ms.length ca1)
         have hbW2 := (hbW.trans (t7.mono hbW.size)).setCell (p := ⟨bB, 0, none⟩) hwB (.slice A1 ms.length ca1)
         exact ⟨(step_keeps t7 bB _).trans (step_keeps u7' bB _), hkp1.trans (step_kp u7' hbW2.size hwB (Nat.lt_of_lt_of_le hBsl hck2.1) hBsB _), step_pw (v := 0) (E' := 0) (pre := pre) hck2 u7' ⟨_, _, _, q5'⟩ q6' u1' u2' u6'.rd hRep2, (hbW2.trans (u7'.mono hbW2.size)).setCell (p := ⟨bB, 0, none⟩) hwB _⟩
     case done =>
       rintro D ys W hD rfl ⟨⟨hck, A, cA, rr, q1, q2, q3, q4, q5, q6⟩, hbW⟩ hK
       rw [ofBits_all] at q5
       have hbW3 := hck.2 _ _ hbox3 (by intro e; injection e with e; omega)
       have hMW := hck.mrd hsl3 (show g ≠ bB by omega) hR3
       have c1' := Lib.hid (mreduce_any g ms ninv A A9 _ _ cA c9 rr r9 W hMW (by omega) rfl rfl q3 l1.out q6 (hck.rd hsl3 hl4) q4 l2 hM.lm hni hnl hp (by rw [l3.out]; have := hM.three; omega))
       go_wp2_with fail
       refine c1'.out.mono ?_
       rintro e W1 ⟨r1, t1, t2, t3, A1, ca1, rfl, _, t5, t6, t7⟩
       have hDl := (Array.getElem?_eq_some_iff.1 hK).1
       have hK1 := (t7.block D hDl).trans hK
       have hbW1 := hbW.trans (t7.mono hbW.size)
       have hv := mred_radix (Y := val r9) (rs := rr) hni q3
       have hlt := mred_lt (Y := val r9) (xs := rr) hni (by rw [l3.out]; have := hM.three; omega) q4
       rw [← t3] at hv hlt
       rw [l3.out] at hv
       have hval := Lib.hid (Rep.out (radix_coprime hM) q5 hlt hv)
       rw [t1]
       clear hv hlt t3
       go_wp2_with fail
       refine (mnarrow_any A1 ms.length ca1 r1 W1 t1.symm (by omega) (by simp only [maxLen] at t5; omega) t6.rd t2).mono ?_
       rintro e W2 ⟨p, rfl, hpl, ht, rfl⟩
       rw [hval.out] at ht
       have hOw := t6.take p
       rw [ht.out] at hOw
       have hlen : (limbs (val xs ^ val es % val ms)).length = p := by rw [← ht.out, List.length_take]; omega
       go_wp2_with fail
       refine ⟨by simp, .inl ⟨_, _, rfl, run_takeDeferred hK1, ?_⟩⟩
       refine ⟨.tuple #[.slice A1 p p, .int .i64 0], ?_, A1, p, ?_, ?_, ?_, ?_, ?_⟩
       · exact results_tmp2 (fn := Try.f37) rfl _ _ _
       · rw [hlen]
       · rw [hlen]; exact Nat.le_refl _
       · simp only [maxLen]; omega
       · exact (own_put hOw hK1 rfl).mono hbW.size
       · exact hbW1.trans (belowK_b (w := w) (Nat.le_refl _) W1 D _ _ (by have := hB4.size; omega) hK1 rfl rfl)
     case stop =>
       rintro D c pre W _ _ h _
       exact h.elim
end Go.Proofs.Ytfclpieijbgodaa
