/-
  The key that is made for a digest (For), walked. Holds for every digest.
-/
import Derived.Test.YtfclpieijbgodaaRsaI
import Derived.Laws.ResultCell
namespace Go.Proofs.Ytfclpieijbgodaa
set_option linter.unusedVariables false
set_option linter.unusedSimpArgs false
open Go.RowKit

/-- A key made for a digest, and its signature. -/
def ForPost (ds : List Nat) (w : World) (e : Ending) (w' : World) : Prop :=
  ∃ A c B d, e = .returned (.tuple #[keyVal A 256 c 3, .slice B 256 d]) ∧ 256 ≤ c ∧ c ≤ maxLen ∧ Own .u8 w' w.heap.size A (forKey ds) ∧ 256 ≤ d ∧ d ≤ maxLen ∧ Own .u8 w' w.heap.size B (forSig ds) ∧ Below w.heap.size w w'
theorem row_0 : (List.replicate 22 0).set 21 1536 = sRow 0 := by decide
theorem row_1 : (sRow 0).set 0 1 = sRow 1 := by decide
theorem row_at : (List.replicate 22 0)[21]? = some 0 := by decide
theorem row_at0 : (sRow 0)[0]? = some 0 := by decide
theorem refOctets_at (A : Option Addr) (c v : Nat) (w : World) (hl : (limbs v).length ≤ 64) (hv : v < 256 ^ 256) (hx : Rd .u32 w A (limbs v)) :
    Calls Try.prog 90 #[.slice A (limbs v).length c, .int .i64 256] w (Gives2 .u8 (octs 256 v) 0 w) := by
  have h := refOctets_any_ok A _ c (limbs v) 256 w rfl (by omega) hx (limbs_lim _) (isRight_limbs (by omega)) (by omega) (by rw [val_limbs]; exact (nbits_bytes v 256).2 hv)
  rw [val_limbs] at h
  exact h
theorem refMul_at (A B : Option Addr) (c d x y : Nat) (w : World) (hx : (limbs x).length ≤ 256) (hy : (limbs y).length ≤ 256) (hz : (limbs (x * y)).length ≤ 256) (h1 : Rd .u32 w A (limbs x)) (h2 : Rd .u32 w B (limbs y)) :
    Calls Try.prog 23 #[.slice A (limbs x).length c, .slice B (limbs y).length d] w (Gives2 .u32 (limbs (x * y)) 0 w) := by
  have h := refMul_all A B _ _ c d (limbs x) (limbs y) w rfl rfl (by omega) (by omega) h1 h2 (limbs_lim _) (limbs_lim _)
  unfold mulOf at h
  rw [if_pos ⟨isRight_limbs hx, isRight_limbs hy⟩, val_limbs, val_limbs, fitsOf_ok hz] at h
  exact h
theorem refSub_at (A B : Option Addr) (c d x y : Nat) (w : World) (hx : (limbs x).length ≤ 256) (hy : (limbs y).length ≤ 256) (hz : y ≤ x) (h1 : Rd .u32 w A (limbs x)) (h2 : Rd .u32 w B (limbs y)) :
    Calls Try.prog 21 #[.slice A (limbs x).length c, .slice B (limbs y).length d] w (Gives2 .u32 (limbs (x - y)) 0 w) := by
  have h := refSub_all A B _ _ c d (limbs x) (limbs y) w rfl rfl (by omega) (by omega) h1 h2 (limbs_lim _) (limbs_lim _)
  unfold subOf at h
  rw [if_pos ⟨isRight_limbs hx, isRight_limbs hy, by rw [val_limbs, val_limbs]; exact hz⟩, val_limbs, val_limbs] at h
  exact h
theorem own_grown {k : IntKind} {w w' : World} {B g : Nat} {A : Option Addr} {xs : List Nat} (h : Own k w B A xs) (hg : w.grownBy w' (some g)) (hB : g < B) : Own k w' B A xs := by
  rcases h with rfl | ⟨g', off, ds, rfl, hB', hk, hx⟩
  · exact Or.inl rfl
  · exact Or.inr ⟨g', off, ds, rfl, hB', hk.keep hg.size (hg.block g' hk.lt (by intro e; injection e with e; omega)), hx⟩
theorem results_key {fn : Func} {p u : Tmp} (h : fn.results = #[.cell p 52, .tmp u]) (tmps : Array Value) (w : World) (g : Nat) (A : Option Addr) (n c e : Nat)
    (hp : tmps.getD p undef = .pointer (some ⟨g, 0, none⟩)) (hc : w.rangeAt g 0 [.slice A n c, .int .u64 (e : Int)]) :
    (results fn tmps).run Try.prog w = .ok (.tuple #[keyVal A n c e, tmps.getD u undef]) w := by
  have hp' : tmps[p]?.getD undef = .pointer (some ⟨g, 0, none⟩) := by simpa using hp
  have hl := run_loadVar_mid (P := Try.prog) w g 0 52 _ _ hc Try.underlying52 rfl size_key
  simp [results, h, hp', asAddr, hl, keyVal]
set_option maxRecDepth 100000 in
set_option maxHeartbeats 3200000 in
theorem for_any (ds : List Nat) (w : World) (hd : ds.length = 32) (ld : Lim 256 ds) :
    Calls Try.prog 50 #[.agg (ints .u8 ds).toArray] w (ForPost ds w) := by
  obtain ⟨w1, hw1⟩ : ∃ w1, w1 = w.alloc (.cells (ints .u8 ds).toArray 49) := ⟨_, rfl⟩
  obtain ⟨w2, hw2⟩ : ∃ w2, w2 = w1.alloc (.cells #[.slice none 0 0, .int .u64 0] 52) := ⟨_, rfl⟩
  have s1 : w1.heap.size = w.heap.size + 1 := by rw [hw1]; simp
  have D : Whl .u8 49 w1 w.heap.size ds := by rw [hw1]; exact whl_new0 _ _
  have e1 : Below w.heap.size w w1 := by rw [hw1]; exact (Below.refl _ _).alloc (Nat.le_refl _) _
  have e2 : Below w1.heap.size w1 w2 := by rw [hw2]; exact (Below.refl _ _).alloc (Nat.le_refl _) _
  have K : Cut w2 (w.heap.size + 1) 0 [.slice none 0 0, .int .u64 0] := by rw [hw2, ← s1]; exact Cut.of_heap (heap_alloc_new _ _) fun i v hv => by simpa using hv
  have s2 : w2.heap.size = w.heap.size + 1 + 1 := by rw [hw2]; simp [s1]
  have D := D.below e2
  have e2 := e1.trans (e2.mono e1.size)
  clear e1
  obtain ⟨y, hy⟩ := get_of_lt (xs := ds) (i := 31) (by omega)
  have hb : forB ds = if y % 2 = 0 then 1 else 0 := by unfold forB; rw [hy]; rfl
  have hy256 := ld.get hy
  have hE := encOf_ok (ds := ds) (n := 256) (by omega) (by omega)
  have hs2 : w.heap.size + 1 + 1 ≤ w2.heap.size := by omega
  obtain ⟨b, hb1⟩ : ∃ b, b = forB ds := ⟨_, rfl⟩
  have HSL := Lib.hid (forS_limbs ds)
  rw [← hb1] at HSL
  have HM := Lib.hid (show ∀ w' g, Whl .u32 33 w' g (sRow b) → Rd .u32 w' (some ⟨g, 0, none⟩) (limbs (forS ds)) from fun w' g h => by
    rw [HSL.out]
    exact Rd.of_all h.blk)
  have HL := Lib.hid (show (limbs (forS ds)).length = 22 by rw [HSL.out]; simp [sRow])
  rw [← hb1] at hb
  clear hb1
  by_cases h2 : y % 2 = 0
  · rw [if_pos h2] at hb
    subst hb
    have z1 : ((y : Int) % 2 == 0) = true := by simp; omega
    clear h2
    go_enter Try.func50, Try.ntmps50
    go_wp2_with (first
      | (at_make
         rw [← hw1, ← hw2]
         refine wpList_make_ints _ rfl (.const (.int .i64 22)) (.const (.int .i64 22)) _ rfl .u32 33 4 Try.underlying22 info_u32 _ _ 22 _ _ rfl rfl rfl rfl (by omega) (by omega) ?_
         intro g w3 hg hw3 hs3 hb3
         have hgw : w.heap.size + 1 < g := by rw [hg.out]; omega
         have c21 := hw3.blk.cell row_at
         have f21 := hw3.blk.frozen row_at
         have hw4 : Whl .u32 33 (w3.setCell ⟨g, 21, none⟩ (.int .u32 1536)) g (sRow 0) := by rw [← row_0]; exact hw3.set 21 1536
         have D3 := D.below hb3
         have K3 := K.below hb3
         have D4 := D3.far (p := ⟨g, 21, none⟩) (by show _ ≠ g; omega) (.int .u32 1536)
         have K4 := K3.far (p := ⟨g, 21, none⟩) (by show _ ≠ g; omega) (.int .u32 1536)
         have c31 := D4.blk.cell hy
         have c0 := hw4.blk.cell row_at0
         have f0 := hw4.blk.frozen row_at0
         have hw5 : Whl .u32 33 ((w3.setCell ⟨g, 21, none⟩ (.int .u32 1536)).setCell ⟨g, 0, none⟩ (.int .u32 1)) g (sRow 1) := by first | exact hw4 | (rw [← row_1]; exact hw4.set 0 1)
         have D5 : Whl .u8 49 ((w3.setCell ⟨g, 21, none⟩ (.int .u32 1536)).setCell ⟨g, 0, none⟩ (.int .u32 1)) w.heap.size ds := by first | exact D4 | exact D4.far (p := ⟨g, 0, none⟩) (by show _ ≠ g; omega) (.int .u32 1)
         have K5 : Cut ((w3.setCell ⟨g, 21, none⟩ (.int .u32 1536)).setCell ⟨g, 0, none⟩ (.int .u32 1)) (w.heap.size + 1) 0 [.slice none 0 0, .int .u64 0] := by first | exact K4 | exact K4.far (p := ⟨g, 0, none⟩) (by show _ ≠ g; omega) (.int .u32 1)
         have e4 : Below w.heap.size w (w3.setCell ⟨g, 21, none⟩ (.int .u32 1536)) := (e2.trans (hb3.mono e2.size)).setCell (by show _ ≤ g; omega) _
         have e5 : Below w.heap.size w ((w3.setCell ⟨g, 21, none⟩ (.int .u32 1536)).setCell ⟨g, 0, none⟩ (.int .u32 1)) := by first | exact e4 | exact e4.setCell (by show _ ≤ g; omega) _
         clear D3 K3 hw4 hw3 D4 K4 e4)
      | (refine wpList_load_whl rfl 49 (.tmp 1) rfl w.heap.size rfl .u8 _ ds D5 _ Try.underlying49 rfl (by rw [hd]; exact size_32u8) ?_))
    generalize (w3.setCell ⟨g, 21, none⟩ (.int .u32 1536)).setCell ⟨g, 0, none⟩ (.int .u32 1) = w5 at *
    have E := refEncode_any ds ((256 : Nat) : Int) w5 hd ld (by omega)
    rw [hE] at E
    clear c21 f21 c31 c0 f0 D5 hb3 hs3
    refine E.mono ?_
    rintro r w6 ⟨A6, c6, rfl, h6a, h6b, o6, e6⟩
    have K6 := K5.below e6
    have hw6 := hw5.below e6
    have o6 := o6.mono e5.size
    have e6 := e5.trans (e6.mono e5.size)
    clear E K5 hw5 e5
    go_wp2_with fail
    have hO := refOf_any A6 _ c6 (encN ds 256) w6 rfl (by rw [encN_length ds 256 hd (by omega)]; omega) o6.rd (encN_lim _ _ ld)
    refine hO.mono ?_
    rintro r w7 ⟨A7, c7, rfl, h7a, h7b, o7, e7⟩
    have K7 := K6.below e7
    have hw7 := hw6.below e7
    have o7 := o7.mono e6.size
    have e7 := e6.trans (e7.mono e6.size)
    clear hO K6 hw6 e6 o6
    go_wp2_with fail
    have hX := refMul_at (some ⟨g, 0, none⟩) (some ⟨g, 0, none⟩) 22 22 (forS ds) (forS ds) w7 (by rw [HL.out]; omega) (by rw [HL.out]; omega) (by have := (forS_len ds).1; omega) (HM.out _ _ hw7) (HM.out _ _ hw7)
    rw [HL.out] at hX
    refine hX.mono ?_
    rintro r w8 ⟨A8, c8, rfl, h8a, h8b, o8, e8⟩
    have K8 := K7.below e8
    have hw8 := hw7.below e8
    have o7 := o7.below e8
    have o8 := o8.mono e7.size
    have e8 := e7.trans (e8.mono e7.size)
    clear hX K7 hw7 e7
    go_wp2_with fail
    have hX := refMul_at A8 (some ⟨g, 0, none⟩) c8 22 (forS ds * forS ds) (forS ds) w8 (by have := (forS_len ds).1; omega) (by rw [HL.out]; omega) (by have := (forS_len ds).2; omega) o8.rd (HM.out _ _ hw8)
    rw [HL.out] at hX
    refine hX.mono ?_
    rintro r w9 ⟨A9, c9, rfl, h9a, h9b, o9, e9⟩
    have K9 := K8.below e9
    have hw9 := hw8.below e9
    have o7 := o7.below e9
    have o9 := o9.mono e8.size
    have e9 := e8.trans (e9.mono e8.size)
    clear hX K8 hw8 e8 o8
    go_wp2_with fail
    have hX := refSub_at A9 A7 c9 c7 (forS ds * forS ds * forS ds) (forE ds) w9 (by have := (forS_len ds).2; omega) (by have := forE_len hd ld; omega) (by have := (forN_bounds hd ld).2.2.2.2.2; omega) o9.rd o7.rd
    rw [show forS ds * forS ds * forS ds - forE ds = forN ds from rfl] at hX
    refine hX.mono ?_
    rintro r w10 ⟨A10, c10, rfl, h10a, h10b, o10, e10⟩
    have K10 := K9.below e10
    have hw10 := hw9.below e10
    have o10 := o10.mono e9.size
    have e10 := e9.trans (e10.mono e9.size)
    clear hX K9 hw9 e9 o9 o7
    go_wp2_with fail
    have hX := refOctets_at A10 c10 (forN ds) w10 (forN_len hd ld) (forN_lt hd ld) o10.rd
    refine hX.mono ?_
    rintro r w11 ⟨A11, c11, rfl, h11a, h11b, o11, e11⟩
    have K11 := K10.below e11
    have hw11 := hw10.below e11
    have o11 := o11.mono (show w.heap.size + 1 + 1 ≤ _ from K10.lt)
    have e11 := e10.trans (e11.mono e10.size)
    clear hX K10 hw10 e10 o10
    go_wp2_with fail
    have hX := refOctets_at (some ⟨g, 0, none⟩) 22 (forS ds) w11 (by rw [HL.out]; omega) (forS_lt256 ds) (HM.out _ _ hw11)
    rw [HL.out] at hX
    refine hX.mono ?_
    rintro r w12 ⟨A12, c12, rfl, h12a, h12b, o12, e12⟩
    have K12 := K11.below e12
    have o11 := o11.below e12
    have o12 := o12.mono (show w.heap.size + 1 + 1 ≤ _ from K11.lt)
    have e12 := e11.trans (e12.mono e11.size)
    clear hX K11 hw11 e11
    go_wp2_with (refine wpList_store_cut rfl 52 (.tmp 2) (.tmp 65) rfl (w.heap.size + 1) 0 [.slice A11 (octs 256 (forN ds)).length c11, .int .u64 3] _ rfl rfl K12 rfl size_key (fun v hv => by simp at hv; rcases hv with rfl | rfl <;> rfl) ?_; intro w13 hst)
    have o11 := own_grown o11 hst.1 (Nat.lt_succ_self _)
    have o12 := own_grown o12 hst.1 (Nat.lt_succ_self _)
    have e13 := below_only e12 hst.1 e12.size (show w.heap.size ≤ w.heap.size + 1 by omega)
    refine bodyPost_ret (results_key rfl _ _ (w.heap.size + 1) A11 (octs 256 (forN ds)).length c11 3 rfl hst.2.2.1.range) rfl ?_
    rw [octs_length] at h11a ⊢
    rw [octs_length] at h12a
    refine ⟨A11, c11, A12, c12, ?_, h11a, h11b, o11.mono (by omega), h12a, h12b, o12.mono (by omega), e13⟩
    rfl
  · rw [if_neg h2] at hb
    subst hb
    have z1 : ((y : Int) % 2 == 0) = false := by simp; omega
    clear h2
    go_enter Try.func50, Try.ntmps50
    go_wp2_with (first
      | (at_make
         rw [← hw1, ← hw2]
         refine wpList_make_ints _ rfl (.const (.int .i64 22)) (.const (.int .i64 22)) _ rfl .u32 33 4 Try.underlying22 info_u32 _ _ 22 _ _ rfl rfl rfl rfl (by omega) (by omega) ?_
         intro g w3 hg hw3 hs3 hb3
         have hgw : w.heap.size + 1 < g := by rw [hg.out]; omega
         have c21 := hw3.blk.cell row_at
         have f21 := hw3.blk.frozen row_at
         have hw4 : Whl .u32 33 (w3.setCell ⟨g, 21, none⟩ (.int .u32 1536)) g (sRow 0) := by rw [← row_0]; exact hw3.set 21 1536
         have D3 := D.below hb3
         have K3 := K.below hb3
         have D4 := D3.far (p := ⟨g, 21, none⟩) (by show _ ≠ g; omega) (.int .u32 1536)
         have K4 := K3.far (p := ⟨g, 21, none⟩) (by show _ ≠ g; omega) (.int .u32 1536)
         have c31 := D4.blk.cell hy
         have c0 := hw4.blk.cell row_at0
         have f0 := hw4.blk.frozen row_at0
         have hw5 : Whl .u32 33 (w3.setCell ⟨g, 21, none⟩ (.int .u32 1536)) g (sRow 0) := by first | exact hw4 | (rw [← row_1]; exact hw4.set 0 1)
         have D5 : Whl .u8 49 (w3.setCell ⟨g, 21, none⟩ (.int .u32 1536)) w.heap.size ds := by first | exact D4 | exact D4.far (p := ⟨g, 0, none⟩) (by show _ ≠ g; omega) (.int .u32 1)
         have K5 : Cut (w3.setCell ⟨g, 21, none⟩ (.int .u32 1536)) (w.heap.size + 1) 0 [.slice none 0 0, .int .u64 0] := by first | exact K4 | exact K4.far (p := ⟨g, 0, none⟩) (by show _ ≠ g; omega) (.int .u32 1)
         have e4 : Below w.heap.size w (w3.setCell ⟨g, 21, none⟩ (.int .u32 1536)) := (e2.trans (hb3.mono e2.size)).setCell (by show _ ≤ g; omega) _
         have e5 : Below w.heap.size w (w3.setCell ⟨g, 21, none⟩ (.int .u32 1536)) := by first | exact e4 | exact e4.setCell (by show _ ≤ g; omega) _
         clear D3 K3 hw4 hw3 D4 K4 e4)
      | (refine wpList_load_whl rfl 49 (.tmp 1) rfl w.heap.size rfl .u8 _ ds D5 _ Try.underlying49 rfl (by rw [hd]; exact size_32u8) ?_))
    generalize w3.setCell ⟨g, 21, none⟩ (.int .u32 1536) = w5 at *
    have E := refEncode_any ds ((256 : Nat) : Int) w5 hd ld (by omega)
    rw [hE] at E
    clear c21 f21 c31 c0 f0 D5 hb3 hs3
    refine E.mono ?_
    rintro r w6 ⟨A6, c6, rfl, h6a, h6b, o6, e6⟩
    have K6 := K5.below e6
    have hw6 := hw5.below e6
    have o6 := o6.mono e5.size
    have e6 := e5.trans (e6.mono e5.size)
    clear E K5 hw5 e5
    go_wp2_with fail
    have hO := refOf_any A6 _ c6 (encN ds 256) w6 rfl (by rw [encN_length ds 256 hd (by omega)]; omega) o6.rd (encN_lim _ _ ld)
    refine hO.mono ?_
    rintro r w7 ⟨A7, c7, rfl, h7a, h7b, o7, e7⟩
    have K7 := K6.below e7
    have hw7 := hw6.below e7
    have o7 := o7.mono e6.size
    have e7 := e6.trans (e7.mono e6.size)
    clear hO K6 hw6 e6 o6
    go_wp2_with fail
    have hX := refMul_at (some ⟨g, 0, none⟩) (some ⟨g, 0, none⟩) 22 22 (forS ds) (forS ds) w7 (by rw [HL.out]; omega) (by rw [HL.out]; omega) (by have := (forS_len ds).1; omega) (HM.out _ _ hw7) (HM.out _ _ hw7)
    rw [HL.out] at hX
    refine hX.mono ?_
    rintro r w8 ⟨A8, c8, rfl, h8a, h8b, o8, e8⟩
    have K8 := K7.below e8
    have hw8 := hw7.below e8
    have o7 := o7.below e8
    have o8 := o8.mono e7.size
    have e8 := e7.trans (e8.mono e7.size)
    clear hX K7 hw7 e7
    go_wp2_with fail
    have hX := refMul_at A8 (some ⟨g, 0, none⟩) c8 22 (forS ds * forS ds) (forS ds) w8 (by have := (forS_len ds).1; omega) (by rw [HL.out]; omega) (by have := (forS_len ds).2; omega) o8.rd (HM.out _ _ hw8)
    rw [HL.out] at hX
    refine hX.mono ?_
    rintro r w9 ⟨A9, c9, rfl, h9a, h9b, o9, e9⟩
    have K9 := K8.below e9
    have hw9 := hw8.below e9
    have o7 := o7.below e9
    have o9 := o9.mono e8.size
    have e9 := e8.trans (e9.mono e8.size)
    clear hX K8 hw8 e8 o8
    go_wp2_with fail
    have hX := refSub_at A9 A7 c9 c7 (forS ds * forS ds * forS ds) (forE ds) w9 (by have := (forS_len ds).2; omega) (by have := forE_len hd ld; omega) (by have := (forN_bounds hd ld).2.2.2.2.2; omega) o9.rd o7.rd
    rw [show forS ds * forS ds * forS ds - forE ds = forN ds from rfl] at hX
    refine hX.mono ?_
    rintro r w10 ⟨A10, c10, rfl, h10a, h10b, o10, e10⟩
    have K10 := K9.below e10
    have hw10 := hw9.below e10
    have o10 := o10.mono e9.size
    have e10 := e9.trans (e10.mono e9.size)
    clear hX K9 hw9 e9 o9 o7
    go_wp2_with fail
    have hX := refOctets_at A10 c10 (forN ds) w10 (forN_len hd ld) (forN_lt hd ld) o10.rd
    refine hX.mono ?_
    rintro r w11 ⟨A11, c11, rfl, h11a, h11b, o11, e11⟩
    have K11 := K10.below e11
    have hw11 := hw10.below e11
    have o11 := o11.mono (show w.heap.size + 1 + 1 ≤ _ from K10.lt)
    have e11 := e10.trans (e11.mono e10.size)
    clear hX K10 hw10 e10 o10
    go_wp2_with fail
    have hX := refOctets_at (some ⟨g, 0, none⟩) 22 (forS ds) w11 (by rw [HL.out]; omega) (forS_lt256 ds) (HM.out _ _ hw11)
    rw [HL.out] at hX
    refine hX.mono ?_
    rintro r w12 ⟨A12, c12, rfl, h12a, h12b, o12, e12⟩
    have K12 := K11.below e12
    have o11 := o11.below e12
    have o12 := o12.mono (show w.heap.size + 1 + 1 ≤ _ from K11.lt)
    have e12 := e11.trans (e12.mono e11.size)
    clear hX K11 hw11 e11
    go_wp2_with (refine wpList_store_cut rfl 52 (.tmp 2) (.tmp 65) rfl (w.heap.size + 1) 0 [.slice A11 (octs 256 (forN ds)).length c11, .int .u64 3] _ rfl rfl K12 rfl size_key (fun v hv => by simp at hv; rcases hv with rfl | rfl <;> rfl) ?_; intro w13 hst)
    have o11 := own_grown o11 hst.1 (Nat.lt_succ_self _)
    have o12 := own_grown o12 hst.1 (Nat.lt_succ_self _)
    have e13 := below_only e12 hst.1 e12.size (show w.heap.size ≤ w.heap.size + 1 by omega)
    refine bodyPost_ret (results_key rfl _ _ (w.heap.size + 1) A11 (octs 256 (forN ds)).length c11 3 rfl hst.2.2.1.range) rfl ?_
    rw [octs_length] at h11a ⊢
    rw [octs_length] at h12a
    refine ⟨A11, c11, A12, c12, ?_, h11a, h11b, o11.mono (by omega), h12a, h12b, o12.mono (by omega), e13⟩
    rfl
end Go.Proofs.Ytfclpieijbgodaa
