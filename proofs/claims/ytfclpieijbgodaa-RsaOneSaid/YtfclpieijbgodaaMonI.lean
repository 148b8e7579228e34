/-
  The iterator over a number's bits, the highest first (mont.bits).
-/
import Derived.RangeFuncNested
import Derived.RangeFuncBound
import Derived.RangeFuncCalls
import Derived.RangeFuncLeaves
import Derived.RangeFuncFrom
import Derived.Shelf.Abstract
import Derived.Shelf.RegionOpen
import Derived.WalkKit
import Derived.OwnWalkIn
import Derived.TacticsInMore
import Derived.LoopNIn
import Derived.LoopIn
import Derived.Test.YtfclpieijbgodaaMonD
namespace Go.Proofs.Ytfclpieijbgodaa
set_option linter.unusedVariables false
set_option linter.unusedSimpArgs false
open Go.RowKit
attribute [local go_sem] Oper.semAt_some

/-- The bits of a number, the highest first: k of them. -/
def topBits (E : Nat) (k : Nat) : List Bool := (List.range k).map fun i => decide (E / 2 ^ (nbits E - 1 - i) % 2 = 1)
theorem topBits_succ (E k : Nat) : topBits E (k + 1) = topBits E k ++ [decide (E / 2 ^ (nbits E - 1 - k) % 2 = 1)] := by simp [topBits, List.range_succ]
theorem topBits_length (E k : Nat) : (topBits E k).length = k := by simp [topBits]
/-- What must stay: what lies below n₀, and the iterator's box. -/
def Kp (n₀ Bs : Nat) (W W' : World) : Prop := Below n₀ W W' ∧ W'.heap[Bs]? = W.heap[Bs]?
theorem Kp.trans {n₀ Bs : Nat} {A B C : World} (h : Kp n₀ Bs A B) (k : Kp n₀ Bs B C) : Kp n₀ Bs A C := ⟨h.1.trans k.1, k.2.trans h.2⟩
theorem Kp.put {n₀ Bs : Nat} {w : World} (hn : n₀ ≤ w.heap.size) (hB : Bs < w.heap.size) (W : World) (l : Nat) (o o' : Obj) (hl : w.heap.size ≤ l) (h : W.heap[l]? = some o) (h1 : o.isCells = false) (h2 : o.isWalk = false) : Kp n₀ Bs W (W.putObj l o') := by
  refine ⟨belowK_b hn W l o o' hl h h1 h2, ?_⟩
  have hll := (Array.getElem?_eq_some_iff.1 h).1
  exact (grownBy_putObj' W l o').block Bs (by omega) (by intro e; injection e with e; omega)
set_option maxRecDepth 100000 in
set_option maxHeartbeats 1000000 in
theorem mbits_any (Y : Option Addr) (n d : Nat) (w : World) : Calls Try.prog 81 #[.slice Y n d] w fun e w' => e = .returned (.func (.func 98) #[] #[.pointer (some ⟨w.heap.size, 0, none⟩)]) ∧ w' = w.alloc (.cells #[.slice Y n d] 22) := by
  go_enter Try.func81, Try.ntmps81
  go_wp2
  go_ret
  exact ⟨rfl, rfl⟩
set_option maxRecDepth 100000 in
set_option maxHeartbeats 2000000 in
theorem bits1_in (n : Nat) (hn : 1 ≤ n) (l Bs n₀ : Nat) (Y : Option Addr) (d : Nat) (es : List Nat) (hl : es.length ≤ 30000) (le : Lim 4294967296 es) (he : isRight es = true) (J Jx : List Bool → World → Prop)
    (hY : ∀ pre x W, J pre W → pre.length < nbits (val es) → YieldAt Fence.wide (n - 1) Try.prog l #[.bool x] W fun e W' =>
      (e = .returned (.bool true) ∧ J (pre ++ [x]) W' ∧ Kp n₀ Bs W W') ∨ (e = .returned (.bool false) ∧ Jx (pre ++ [x]) W'))
    (W : World) (hBs : W.cell? ⟨Bs, 0, none⟩ = some (.slice Y es.length d)) (hc : es = [] ∨ ∃ b off, Y = some ⟨b, off, none⟩ ∧ b < n₀ ∧ ∀ (i x : Nat), es[i]? = some x → W.cell? ⟨b, off + i, none⟩ = some (.int .u32 (x : Int))) (hrd : Rd .u32 W Y es) (h0 : J [] W) :
    CallsIn Fence.wide n Try.prog 98 #[.func (.yield l) #[] #[], .pointer (some ⟨Bs, 0, none⟩)] W fun e W' => (∃ v, e = .returned v) ∧
      ((∃ ys, ys = topBits (val es) (nbits (val es)) ∧ J ys W') ∨ (∃ pre, (∃ k, k ≤ nbits (val es) ∧ pre = topBits (val es) k) ∧ Jx pre W')) := by
  have hbv : bitsOf es = (nbits (val es) : Int) := bitsOf_right he
  have hbits := Lib.hid (bits_any Y es.length d es W rfl (by omega) hrd le)
  rw [hbv] at hbits
  have hN : nbits (val es) ≤ 32 * es.length := by rw [nbits_le_iff, ← pow_limb]; exact val_lt le
  refine callsIn_of_wp Try.func98 rfl trivial ?_ rfl
  simp only [Try.ntmps98, List.size_toArray, List.length_cons, List.length_nil, Nat.reduceAdd, Nat.reduceSub, Array.replicate_succ, Array.replicate_zero, List.push_toArray, List.append_toArray, List.nil_append, List.cons_append]
  gi_wp2_with (refine ⟨trivial, ?_⟩; gi_at_call 54; refine (callsIn_wide.2 hbits.out).mono ?_; rintro e w' ⟨rfl, rfl⟩)
  clear hbits hbv hrd
  gi_loopw [3] (fun s wr => ∃ r : Nat, r ≤ nbits (val es) ∧ s = .int .i64 ((r : Int) - 1) ∧ J (topBits (val es) (nbits (val es) - r)) wr ∧ Kp n₀ Bs W wr) (fun s _ => (intOf s + 1).toNat)
  case atStart => exact ⟨nbits (val es), Nat.le_refl _, rfl, by rw [Nat.sub_self]; exact h0, Below.refl _ _, rfl⟩
  case round =>
    obtain ⟨r, hr, rfl, hJs, hk⟩ := hrel
    have hBs' := (World.cell?_of_block (w := W) (a := ⟨Bs, 0, none⟩) hk.2).trans hBs
    rcases Nat.eq_zero_or_pos r with rfl | hp
    · rw [Nat.sub_zero] at hJs
      gi_wp2
      go_end0
      exact ⟨⟨_, rfl⟩, .inl ⟨_, rfl, hJs⟩⟩
    · obtain ⟨j, rfl⟩ : ∃ j, r = j + 1 := ⟨r - 1, by omega⟩
      have hj1 : (((j + 1 : Nat) : Int) - 1) = (j : Int) := by omega
      rw [hj1]
      obtain ⟨x, hgx⟩ := get_of_lt (xs := es) (i := j / 32) (by omega)
      have hxb := le.get hgx
      obtain ⟨b, off, rfl, hb, hcl⟩ : ∃ b off, Y = some ⟨b, off, none⟩ ∧ b < n₀ ∧ ∀ (i x : Nat), es[i]? = some x → W.cell? ⟨b, off + i, none⟩ = some (.int .u32 (x : Int)) := by
        rcases hc with rfl | h
        · simp at hgx
        · exact h
      have hcx := (hk.1.cell (p := ⟨b, off + j / 32, none⟩) hb).trans (hcl _ x hgx)
      obtain ⟨bit, hbit⟩ : ∃ bit, bit = val es / 2 ^ j % 2 := ⟨_, rfl⟩
      have hbx : bits .and .u32 ((x : Int) / 2 ^ (j % 32)) 1 = (bit : Int) := by
        have e : ((x : Int) / 2 ^ (j % 32)) = ((x / 2 ^ (j % 32) : Nat) : Int) := by simp
        rw [e, show (1 : Int) = ((1 : Nat) : Int) from rfl, u32_and_nat _ _ (Nat.lt_of_le_of_lt (Nat.div_le_self _ _) hxb) (by omega), Nat.and_one_is_mod, bit_at le hgx, hbit]
      have hq : ((bit : Int) == 1) = decide (bit = 1) := by
        rw [Bool.eq_iff_iff]
        simp
        omega
      obtain ⟨fn, tmps, assign, body, hy, hR⟩ := hY _ (decide (bit = 1)) wr hJs (by rw [topBits_length]; omega)
      have hjl : ((j / 32 : Nat) : Int) < (es.length : Int) := by omega
      have hstep := Lib.hid (show topBits (val es) (nbits (val es) - (j + 1)) ++ [decide (bit = 1)] = topBits (val es) (nbits (val es) - j) by
        rw [show nbits (val es) - j = nbits (val es) - (j + 1) + 1 by omega, topBits_succ, hbit, show nbits (val es) - 1 - (nbits (val es) - (j + 1)) = j by omega])
      clear hgx hbit hcl
      gi_wp2
      refine hR.mono ?_
      rintro e W3 (⟨rfl, hJ3, hk3⟩ | ⟨rfl, hJx3⟩)
      · gi_wp2
        go_roundw
        case rel => exact ⟨j, by omega, by go_num, by rw [← hstep.out]; exact hJ3, hk.trans hk3⟩
        case measure => simp [intOf]
      · gi_wp2
        refine bodyPost_ret (results_none rfl _ _ _) rfl ?_
        exact ⟨⟨_, rfl⟩, .inr ⟨_, ⟨nbits (val es) - j, by omega, hstep.out⟩, hJx3⟩⟩
theorem bits_stops (n : Nat) (hn : 1 ≤ n) (Bs n₀ : Nat) (Y : Option Addr) (d : Nat) (es : List Nat) (hl : es.length ≤ 30000) (le : Lim 4294967296 es) (he : isRight es = true) (w : World) (hBs : Bs < w.heap.size) (hn0 : n₀ ≤ w.heap.size)
    (hc : w.cell? ⟨Bs, 0, none⟩ = some (.slice Y es.length d)) (hr : es = [] ∨ ∃ b off, Y = some ⟨b, off, none⟩ ∧ b < n₀ ∧ ∀ (i x : Nat), es[i]? = some x → w.cell? ⟨b, off + i, none⟩ = some (.int .u32 (x : Int))) :
    SeqStopsK Fence.wide n Try.prog 98 #[.pointer (some ⟨Bs, 0, none⟩)] (fun x : Bool => #[Value.bool x]) (Kp n₀ Bs) (fun ys => ys = topBits (val es) (nbits (val es))) (fun pre => ∃ k, k ≤ nbits (val es) ∧ pre = topBits (val es) k) (nbits (val es)) w := fun l J Jx W hW _ _ hY h0 => by
  have hc' := (hW.cell (p := ⟨Bs, 0, none⟩) hBs).trans hc
  have hr' : es = [] ∨ ∃ b off, Y = some ⟨b, off, none⟩ ∧ b < n₀ ∧ ∀ (i x : Nat), es[i]? = some x → W.cell? ⟨b, off + i, none⟩ = some (.int .u32 (x : Int)) := by
    rcases hr with h | ⟨b, off, h1, h2, h3⟩
    · exact .inl h
    · exact .inr ⟨b, off, h1, h2, fun i x hx => (hW.cell (p := ⟨b, off + i, none⟩) (show b < w.heap.size by omega)).trans (h3 i x hx)⟩
  have hrd : Rd .u32 W Y es := by
    rcases hr' with h | ⟨b, off, h1, h2, h3⟩
    · exact .inl h
    · exact .inr ⟨b, off, h1, by have := hW.size; omega, h3⟩
  exact bits1_in n hn l Bs n₀ Y d es hl le he J Jx hY W hc' hr' hrd h0
/-- The number that bits tell, the highest first. -/
def ofBits (bs : List Bool) : Nat := bs.foldl (fun a b => 2 * a + (if b then 1 else 0)) 0
theorem ofBits_snoc (bs : List Bool) (b : Bool) : ofBits (bs ++ [b]) = 2 * ofBits bs + (if b then 1 else 0) := by simp [ofBits]
theorem ofBits_top (E k : Nat) (h : k ≤ nbits E) : ofBits (topBits E k) = E / 2 ^ (nbits E - k) := by
  induction k with
  | zero =>
    rw [Nat.sub_zero, Nat.div_eq_of_lt (lt_nbits E)]
    rfl
  | succ k ih =>
    rw [topBits_succ, ofBits_snoc, ih (by omega)]
    have e : nbits E - k = nbits E - (k + 1) + 1 := by omega
    have h1 := bit_step E (nbits E - (k + 1))
    rw [e]
    rw [show nbits E - 1 - k = nbits E - (k + 1) by omega]
    generalize E / 2 ^ (nbits E - (k + 1) + 1) = q at *
    generalize E / 2 ^ (nbits E - (k + 1)) = p at *
    by_cases hb : p % 2 = 1
    · rw [decide_eq_true hb]
      simp
      omega
    · rw [decide_eq_false hb]
      simp
      omega
theorem ofBits_all (E : Nat) : ofBits (topBits E (nbits E)) = E := by
  rw [ofBits_top _ _ (Nat.le_refl _), Nat.sub_self]
  simp
/-- All cells but one are as they were. -/
def CK (w : World) (bB : Nat) (W : World) : Prop := w.heap.size ≤ W.heap.size ∧ ∀ (p : Addr) (v : Value), w.cell? p = some v → p ≠ ⟨bB, 0, none⟩ → W.cell? p = some v
section
variable {w W W' : World} {bB : Nat}
theorem CK.refl (w : World) (bB : Nat) : CK w bB w := ⟨Nat.le_refl _, fun _ _ h _ => h⟩
theorem CK.below (h : CK w bB W) (hb : Below W.heap.size W W') : CK w bB W' := ⟨Nat.le_trans h.1 hb.size, fun p v hv hp => by
  have := h.2 p v hv hp
  exact (hb.cell (World.block_lt_of_cell? W p this)).trans this⟩
theorem CK.set (h : CK w bB W) (u : Value) : CK w bB (W.setCell ⟨bB, 0, none⟩ u) := ⟨by simpa using h.1, fun p v hv hp => (World.cell?_setCell_other W _ _ _ (fun e => hp e.symm)).trans (h.2 p v hv hp)⟩
theorem CK.rd {k : IntKind} {A : Option Addr} {xs : List Nat} (h : CK w bB W) (hB : ∃ a n c, w.cell? ⟨bB, 0, none⟩ = some (.slice a n c)) (hr : Rd k w A xs) : Rd k W A xs := by
  rcases hr with rfl | ⟨b, off, rfl, hl, hc⟩
  · exact Rd.nil _ _ _
  · refine .inr ⟨b, off, rfl, Nat.lt_of_lt_of_le hl h.1, fun i x hx => h.2 _ _ (hc i x hx) fun e => ?_⟩
    obtain ⟨a, n, c, h2⟩ := hB
    have h1 := hc i x hx
    rw [e, h2] at h1
    cases h1
theorem CK.mrd {g : Nat} {ms : List Nat} {ninv : Nat} (h : CK w bB W) (hB : ∃ a n c, w.cell? ⟨bB, 0, none⟩ = some (.slice a n c)) (hg : g ≠ bB) (hr : MRd w g ms ninv) : MRd W g ms ninv := by
  obtain ⟨A, c, h0, h1, h2, h3⟩ := hr
  exact ⟨A, c, Nat.lt_of_lt_of_le h0 h.1, h.2 _ _ h1 (by intro e; injection e with e; exact hg e), h.2 _ _ h2 (by intro e; injection e with e; exact hg e), h.rd hB h3⟩
theorem rd_setcell {k : IntKind} {A : Option Addr} {xs : List Nat} {P : Nat} {u : Value} (h : Rd k W A xs) (hb : ∃ a n c, W.cell? ⟨P, 0, none⟩ = some (.slice a n c)) : Rd k (W.setCell ⟨P, 0, none⟩ u) A xs := by
  rcases h with rfl | ⟨b, off, rfl, hl, hc⟩
  · exact Rd.nil _ _ _
  · refine .inr ⟨b, off, rfl, by simpa using hl, fun i x hx => ?_⟩
    have h1 := hc i x hx
    refine (World.cell?_setCell_other W _ _ _ ?_).trans h1
    intro e
    obtain ⟨a, n, c, h2⟩ := hb
    rw [e] at h2
    rw [h1] at h2
    cases h2
theorem rd_kept {k : IntKind} {A : Option Addr} {xs : List Nat} {row : Option Nat} (h : Rd k W A xs) (hg : W.grownBy W' row) (hr : ∀ r, row = some r → ∃ o : Obj, W.heap[r]? = some o ∧ o.isCells = false) : Rd k W' A xs := by
  rcases h with rfl | ⟨b, off, rfl, hl, hc⟩
  · exact Rd.nil _ _ _
  · exact .inr ⟨b, off, rfl, Nat.lt_of_lt_of_le hl hg.size, fun i x hx => cell_kept (hc i x hx) hg hr⟩
theorem CK.kept {row : Option Nat} (h : CK w bB W) (hg : W.grownBy W' row) (hr : ∀ r, row = some r → ∃ o : Obj, W.heap[r]? = some o ∧ o.isCells = false) : CK w bB W' :=
  ⟨Nat.le_trans h.1 hg.size, fun p v hv hp => cell_kept (h.2 p v hv hp) hg hr⟩
end
/-- How the power stands when these bits have come: a row of it in its box. -/
def Pw (w : World) (bB : Nat) (ms : List Nat) (X : Nat) (pre : List Bool) (W : World) : Prop :=
  CK w bB W ∧ ∃ A c rr, W.cell? ⟨bB, 0, none⟩ = some (.slice A ms.length c) ∧ W.frozen? ⟨bB, 0, none⟩ = false ∧ rr.length = ms.length ∧ Lim 4294967296 rr ∧ Rep (val ms) (radix ms) (val rr) (X ^ ofBits pre) ∧ Rd .u32 W A rr
theorem Pw.own (w : World) (bB : Nat) (ms : List Nat) (X B : Nat) : OwnFrom B (Pw w bB ms X) := by
  rintro s W W' row ⟨h, A, c, rr, h1, h2, h3, h4, h5, h6⟩ hg hr
  have hr' : ∀ r, row = some r → ∃ o : Obj, W.heap[r]? = some o ∧ o.isCells = false := fun r e => (hr r e).2
  exact ⟨h.kept hg hr', A, c, rr, cell_kept h1 hg hr', (frozen_kept h1 hg hr').trans h2, h3, h4, h5, rd_kept h6 hg hr'⟩
theorem step_keeps {W W1 : World} (hb : Below W.heap.size W W1) (bB : Nat) (u : Value) : KeepsOthers W (W1.setCell ⟨bB, 0, none⟩ u) :=
  (KeepsOthers.of_grownBy (row := none) (only_of_below hb none) (fun _ _ h => by cases h)).trans (KeepsOthers.setCell _ _ _)
theorem step_kp {W W1 : World} {n₀ Bs bB : Nat} (hb : Below W.heap.size W W1) (hn : n₀ ≤ W.heap.size) (hB : n₀ ≤ bB) (hBs : Bs < W.heap.size) (hne : Bs ≠ bB) (u : Value) : Kp n₀ Bs W (W1.setCell ⟨bB, 0, none⟩ u) :=
  ⟨(hb.mono hn).setCell (p := ⟨bB, 0, none⟩) hB u, (Below.heap_setCell W1 ⟨bB, 0, none⟩ u Bs hne).trans (hb.block Bs hBs)⟩
theorem step_pw {w W W1 : World} {bB c v : Nat} {ms rs : List Nat} {X E' : Nat} {pre : List Bool} {A : Option Addr} {bs : List Bool} (hck : CK w bB W) (hb : Below W.heap.size W W1) (hs : ∃ a n c, W1.cell? ⟨bB, 0, none⟩ = some (.slice a n c)) (hf : W1.frozen? ⟨bB, 0, none⟩ = false)
    (hl : rs.length = ms.length) (lr : Lim 4294967296 rs) (hr : Rd .u32 W1 A rs) (hRep : Rep (val ms) (radix ms) (val rs) (X ^ ofBits bs)) : Pw w bB ms X bs (W1.setCell ⟨bB, 0, none⟩ (.slice A ms.length c)) := by
  obtain ⟨a', n', c', hs'⟩ := hs
  exact ⟨(hck.below hb).set _, A, c, rs, World.cell?_setCell_same W1 _ _ hs', by rw [World.frozen?_setCell]; exact hf, hl, lr, hRep, rd_setcell hr ⟨_, _, _, hs'⟩⟩
end Go.Proofs.Ytfclpieijbgodaa
