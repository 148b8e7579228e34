/-
  ShaH: Bytes written to a state (Write).
-/
import Derived.Test.YtchaahnhpeoomaaGreatQGShA
import Derived.ChangeKeysEq
import Derived.Lib.SlBytesConst
import Derived.Laws.BytesArg
namespace Go.Proofs.YtchaahnhpeoomaaGreat
set_option linter.unusedVariables false
set_option linter.unusedSimpArgs false
set_option maxRecDepth 20000
open Go.RowKit
def But (w w' : World) (S : Nat → Prop) : Prop := w'.os = w.os ∧ w'.tape = w.tape ∧ w'.output = w.output ∧ w.heap.size ≤ w'.heap.size ∧ ∀ k, k < w.heap.size → ¬ S k → w'.heap[k]? = w.heap[k]?
theorem But.of_grown {w w' : World} {row : Option Nat} {S : Nat → Prop} (h : w.grownBy w' row) (hS : ∀ k, row = some k → S k) : But w w' S :=
 ⟨h.os, h.tape, h.output, h.size, fun k hk hn => h.block k hk (fun e => hn (hS k e.symm))⟩
theorem But.of_below {w w' : World} {S : Nat → Prop} (h : Below w.heap.size w w') : But w w' S := ⟨h.os, h.tape, h.output, h.size, fun k hk _ => h.block k hk⟩
theorem But.trans {a b c : World} {S : Nat → Prop} (h : But a b S) (k : But b c S) : But a c S :=
 ⟨k.1.trans h.1, k.2.1.trans h.2.1, k.2.2.1.trans h.2.2.1, Nat.le_trans h.2.2.2.1 k.2.2.2.1, fun i hi hn => (k.2.2.2.2 i (Nat.lt_of_lt_of_le hi h.2.2.2.1) hn).trans (h.2.2.2.2 i hi hn)⟩
theorem But.mono {a b : World} {S T : Nat → Prop} (h : But a b S) (hS : ∀ k, k < a.heap.size → S k → T k) : But a b T :=
 ⟨h.1, h.2.1, h.2.2.1, h.2.2.2.1, fun i hi hn => h.2.2.2.2 i hi (fun hs => hn (hS i hi hs))⟩
theorem But.size {a b : World} {S : Nat → Prop} (h : But a b S) : a.heap.size ≤ b.heap.size := h.2.2.2.1
theorem But.below {B : Nat} {a b c : World} {S : Nat → Prop} (h : Below B a b) (k : But b c S) (hB : B ≤ b.heap.size) (hS : ∀ i, S i → B ≤ i) : Below B a c :=
 ⟨k.1.trans h.os, k.2.1.trans h.tape, k.2.2.1.trans h.output, Nat.le_trans h.size k.size, fun i hi => (k.2.2.2.2 i (Nat.lt_of_lt_of_le hi hB) (fun hs => by have := hS i hs; omega)).trans (h.block i hi)⟩
theorem row_form2 {w : World} {B : Nat} {e : TypeId} {k : IntKind} {v : Value} {n : Nat} {xs : List Nat} (h : w.ownsRow B e 1 v n (ints k xs)) : ∃ A c, v = .slice A n c ∧ (A = none ∨ ∃ b, A = some ⟨b, 0, none⟩) ∧ n ≤ c ∧ c ≤ maxLen ∧ Rd k w A xs := by
 obtain ⟨A, c, h1, h2, h3, h4, h5⟩ := row_form h
 refine ⟨A, c, h1, ?_, h3, h4, h5⟩
 rcases h.2 with ⟨hv, _⟩ | ⟨b, cap, cur, hv, _⟩
 ·rw [h1] at hv; injection hv with hv; exact .inl hv
 ·rw [h1] at hv; injection hv with hv; exact .inr ⟨b, hv⟩
theorem off_of {w : World} {g : Nat} {A : Option Addr} {xs : List Nat} (hA : A = none ∨ ∃ b, A = some ⟨b, 0, none⟩) (hr : Rd .u8 w A xs) (hc : Cut w g 0 [.bool true]) : Off A xs g := by
 rcases hr with rfl | ⟨b, off, rfl, hb, hcl⟩
 ·exact .inl rfl
 ·rcases hA with hA | ⟨b', hA⟩
  ·cases hA
  ·injection hA with hA
   injection hA with h1 h2
   subst h2
   rcases xs with _ | ⟨x, xs⟩
   ·exact .inl rfl
   ·refine .inr fun ad had => ?_
    injection had with had
    subst had
    rintro rfl
    have h3 := hcl 0 x rfl
    have h4 := hc.cell (i := 0) rfl
    rw [h3] at h4
    injection h4 with h4
    cases h4
theorem rd_drop {k : IntKind} {w : World} {b o : Nat} {xs : List Nat} (h : Rd k w (some ⟨b, o, none⟩) xs) (n : Nat) : Rd k w (some ⟨b, o + n, none⟩) (xs.drop n) := by
 rcases h with rfl | ⟨b', o', he, hb, hc⟩
 ·exact .inl (by simp)
 ·injection he with he
  injection he with h1 h2
  subst h1
  subst h2
  exact .inr ⟨b, o + n, rfl, hb, fun i x hx => by rw [Nat.add_assoc]; exact hc (n + i) x (by rwa [List.getElem?_drop] at hx)⟩
theorem off_drop {b o g : Nat} {xs : List Nat} (h : Off (some ⟨b, o, none⟩) xs g) (n : Nat) : Off (some ⟨b, o + n, none⟩) (xs.drop n) g := by
 rcases h with rfl | h
 ·exact .inl (by simp)
 ·refine .inr fun ad had => ?_
  injection had with had
  subst had
  exact h ⟨b, o, none⟩ rfl
theorem own_zero {w : World} {B : Nat} {e : TypeId} {v : Value} {n : Nat} {xs : List Value} (h : w.ownsRow B e 1 v n xs) : w.ownsRow 0 e 1 v n xs := by
 refine ⟨h.1, ?_⟩
 rcases h.2 with h | ⟨g, cap, cur, h1, _, h2⟩
 ·exact .inl h
 ·exact .inr ⟨g, cap, cur, h1, Nat.zero_le _, h2⟩
def sliceLen : Value → Nat
 | .slice _ n _ => n
 | _ => 0
def WritePost (g : Nat) (v : Value) (m : List Nat) (z : Nat) (w : World) (e : Ending) (w' : World) : Prop :=
 e = .returned (.tuple #[]) ∧ ∃ v', MstN w' g v' m z ∧ But w w' (fun k => k = g ∨ v.ownBlock = some k) ∧ ∀ j, v'.ownBlock = some j → w.heap.size ≤ j
set_option maxRecDepth 100000 in
set_option maxHeartbeats 3200000 in
theorem write_any (g : Nat) (v : Value) (A : Option Addr) (n c : Nat) (m b : List Nat) (z : Nat) (w : World) (hs : StN w g v m z) (hn : n = b.length) (hb : Rd .u8 w A b) (lb : Lim 256 b) (ho : Off A b g) (hm : m.length + n ≤ 2199023255552) :
  Calls Tryz.prog 85 #[.pointer (some ⟨g, 0, none⟩), .slice A n c] w (WritePost g v (m ++ b) (z + n) w) := by
 subst hn
 go_enter Tryz.func85, Tryz.ntmps85
 go_wp2_with fail
 refine (made_any g v m z _ hs).mono ?_
 rintro e w1 ⟨rfl, hst, hg1⟩
 have hb1 : Rd .u8 w1 A b := hb.grown hg1 (by intro j hj; injection hj with hj; rw [← hj]; exact ho)
 have hbut1 : But w w1 (fun k => k = g ∨ v.ownBlock = some k) := But.of_grown hg1 (by intro k hk; injection hk with hk; exact .inl hk.symm)
 have hvlt := hs.own_lt
 clear hs hg1
 obtain ⟨h0, h1, h2, h3, h4, h5, h6, h7, hzm⟩ := hst
 obtain ⟨A0, c0, rfl, hr, hrc, hcm, _⟩ := row_form h4
 generalize m.length % 64 = r at *
 have q1 : w1.cell? ⟨g, 73, none⟩ = some (.slice A0 r c0) := h3.cell (i := 0) rfl
 have q2 : w1.cell? ⟨g, 74, none⟩ = some (.int .u64 (z : Int)) := h3.cell (i := 1) rfl
 have q3 : w1.frozen? ⟨g, 74, none⟩ = false := h3.frozen (i := 1) rfl
 have HR := Lib.hid hr
 have hrl : r < 64 := by rw [hr, left_length]; omega
 clear hr hrc
 go_wp2_with (at_builtin; refine wpList_append_ints _ rfl (.tmp 22) (.tmp 23) _ rfl 0 5 .u8 1 Tryz.underlying22 info_u8 (.slice A0 r c0) r (left m) rfl (h4.kept (only_set (only_refl w1 (some g)) (p := ⟨g, 74, none⟩) (Or.inl rfl) _) (Or.inr h5)) A _ c b rfl rfl (hb1.setCell (p := ⟨g, 74, none⟩) ho _) (by simp only [maxLen]; omega) (by omega) (Nat.zero_le _) ?_; intro v3 w3 hown hgrow _)
 obtain ⟨A1, c1, rfl, hA1, hc1, hm1, hr1⟩ := row_form2 hown
 have hbut2 : But w1 (w1.setCell ⟨g, 74, none⟩ (.int .u64 ((z : Int) + (b.length : Int)))) (fun k => k = g ∨ (Value.slice A0 r c0).ownBlock = some k) := But.of_grown (only_set (only_refl w1 (some g)) (p := ⟨g, 74, none⟩) (Or.inl rfl) _) (by intro k hk; injection hk with hk; exact .inl hk.symm)
 have hbut3 := (hbut1.trans hbut2).trans (But.of_grown hgrow (fun k hk => .inr hk))
 have h0' := (h0.apart (p := ⟨g, 74, none⟩) (Or.inr (Or.inr (by simp))) (.int .u64 ((z : Int) + (b.length : Int)))).grown hgrow h5
 have h1' := (h1.apart (p := ⟨g, 74, none⟩) (Or.inr (Or.inr (by rw [ints_length, K64_length]; show 1 + 64 ≤ 74; omega))) (.int .u64 ((z : Int) + (b.length : Int)))).grown hgrow h5
 have h2' := (h2.apart (p := ⟨g, 74, none⟩) (Or.inr (Or.inr (by rw [ints_length, (hashed_ok m).1]; show 65 + 8 ≤ 74; omega))) (.int .u64 ((z : Int) + (b.length : Int)))).grown hgrow h5
 have h3' := (h3.set (i := 1) rfl (.int .u64 ((z : Int) + (b.length : Int)))).grown hgrow h5
 have hoff := off_of hA1 hr1 h0'
 clear hbut1 hbut2 hgrow h0 h1 h2 h3 h4 hb1 ho q1 q2 q3 hb
 obtain ⟨al, hal⟩ : ∃ al, al = left m ++ b := ⟨_, rfl⟩
 rw [← hal] at hr1 hown hoff
 have HAL := Lib.hid hal
 have hall := Lib.hid (show al.length = r + b.length by rw [hal, List.length_append, HR.out])
 have hlal : Lim 256 al := by rw [hal]; exact (left_lim h6).append lb
 obtain ⟨hs0, hhs0⟩ : ∃ hs0, hs0 = hashed m := ⟨_, rfl⟩
 have hs8 := Lib.hid (show hs0.length = 8 by rw [hhs0]; exact (hashed_ok m).1)
 have hsl : Lim 4294967296 hs0 := by rw [hhs0]; exact (hashed_ok m).2
 rw [← hhs0] at h2'
 have HHS := Lib.hid hhs0
 clear hal hhs0 hown
 go_wp2_with fail
 go_loopw [4] (fun s wr => ∃ k xs A c, s = .slice A xs.length c ∧ Hid (xs = al.drop (64 * k)) ∧ Hid (64 * k + xs.length = al.length) ∧ xs.length ≤ c ∧ c ≤ 9223372036854775807 ∧ Rd .u8 wr A xs ∧ Off A xs g ∧ Cut wr g 0 [.bool true] ∧ Cut wr g 1 (ints .u32 K64) ∧ Cut wr g 65 (ints .u32 (blocks hs0 al k)) ∧ Cut wr g 73 ([Value.slice A0 r c0, Value.int .u64 (z : Int)].set 1 (.int .u64 ((z : Int) + (b.length : Int)))) ∧ But w3 wr (fun k => k = g)) (fun s _ => sliceLen s)
 case atStart => exact ⟨0, al, A1, c1, by rw [hall.out], rfl, by show 64 * 0 + al.length = al.length; omega, by rw [hall.out]; exact hc1, by simpa [maxLen] using hm1, hr1, hoff, h0', h1', h2', h3', But.of_below (Below.refl _ _)⟩
 case round =>
  clear hr1 hoff h0' h1' h2' h3'
  obtain ⟨k, xs, A2, c2, rfl, hxs, hkl, hxc, hcm2, hrd, hoff, h0, h1, h2, h3, hbut⟩ := hrel
  by_cases hge : 64 ≤ xs.length
  ·obtain ⟨x0, hx0⟩ := get_of_lt (xs := xs) (i := 0) (by omega)
   obtain ⟨bb, o, rfl, _, _⟩ := hrd.pos hx0
   have hlx : Lim 256 xs := by rw [hxs.out]; exact hlal.drop _
   have hb64 : (xs.take 64).length = 64 := by rw [List.length_take]; omega
   have hbk := blocks_ok hs8.out hsl al k
   obtain ⟨hv, hhv⟩ : ∃ hv, hv = blocks hs0 al k := ⟨_, rfl⟩
   rw [← hhv] at h2 hbk
   have hbl := blocks_ok hs8.out hsl al (k + 1)
   obtain ⟨O, hO⟩ : ∃ O, O = blocks hs0 al (k + 1) := ⟨_, rfl⟩
   have HO := Lib.hid (show compress hv (xs.take 64) = O by rw [hO, hhv, hxs.out]; rfl)
   have HO2 := Lib.hid hO
   rw [← hO] at hbl
   have hO8 := Lib.hid hbl.1
   have hv8 := Lib.hid hbk.1
   have hvl := hbk.2
   have hbeh := Lib.hid (fun w (hK : Cut w g 1 (ints .u32 K64)) (hH : Cut w g 65 (ints .u32 hv)) (hR : Rd .u8 w (some ⟨bb, o, none⟩) xs) => behind_any g (some ⟨bb, o, none⟩) c2 hv (xs.take 64) w hK hH hvl (hR.take 64) hv8.out hb64 (hlx.take 64) (by omega) hcm2)
   clear hx0 hb64 hbk hbl hO hhv
   have hcc : 64 ≤ c2 := by omega
   by_cases hc64 : c2 = 64
   ·have hx64 : xs.length = 64 := by omega
    have HX := Lib.hid hx64
    clear hx64
    subst hc64
    go_wp2_with fail
    refine (hbeh.out _ h1 h2 hrd).mono ?_
    rw [HO.out]
    rintro e w4 ⟨rfl, hb4⟩
    replace hrd := hrd.below hb4
    replace h0 := h0.below hb4
    replace h1 := h1.below hb4
    replace h2 := h2.below hb4
    replace h3 := h3.below hb4
    have hbut' := hbut.trans (But.of_below hb4)
    clear hb4 hbut
    go_wp2_with (refine wpList_store_cut rfl 180 (.tmp 34) (.tmp 32) rfl g 65 (ints .u32 O) (ints .u32 hv) rfl rfl h2 (by rw [ints_length, ints_length, hO8.out, hv8.out]) (by rw [ints_length, hO8.out]; exact size_8u32) (ints_one _ _) ?_; intro w5 hst5)
    have h0'' := hst5.2.2.2 0 _ h0 (Or.inl (by simp))
    have h1'' := hst5.2.2.2 1 _ h1 (Or.inl (by rw [ints_length, K64_length]; omega))
    have h2'' := hst5.2.2.1
    have h3'' := hst5.2.2.2 73 _ h3 (Or.inr (by rw [ints_length, hO8.out]; omega))
    have hrd'' := hrd.grown hst5.1 (by intro j hj; injection hj with hj; rw [← hj]; exact hoff)
    have hbut'' := hbut'.trans (But.of_grown hst5.1 (by intro j hj; injection hj with hj; exact hj.symm))
    clear hst5 h0 h1 h2 h3 hrd hbut'
    go_roundw
    case rel =>
     refine ⟨k + 1, [], some ⟨bb, o, none⟩, 0, rfl, ?_, ?_, Nat.le_refl _, by omega, Rd.nil _ _ _, Or.inl rfl, h0'', h1'', by rw [← HO2.out]; exact h2'', h3'', hbut''⟩
     ·exact (List.drop_eq_nil_of_le (by have := hkl.out; have := HX.out; omega)).symm
     ·show 64 * (k + 1) + 0 = al.length
      have := hkl.out
      have := HX.out
      omega
    case measure => show 0 < xs.length; have := HX.out; omega
   ·go_wp2_with fail
    refine (hbeh.out _ h1 h2 hrd).mono ?_
    rw [HO.out]
    rintro e w4 ⟨rfl, hb4⟩
    replace hrd := hrd.below hb4
    replace h0 := h0.below hb4
    replace h1 := h1.below hb4
    replace h2 := h2.below hb4
    replace h3 := h3.below hb4
    have hbut' := hbut.trans (But.of_below hb4)
    clear hb4 hbut
    go_wp2_with (refine wpList_store_cut rfl 180 (.tmp 34) (.tmp 32) rfl g 65 (ints .u32 O) (ints .u32 hv) rfl rfl h2 (by rw [ints_length, ints_length, hO8.out, hv8.out]) (by rw [ints_length, hO8.out]; exact size_8u32) (ints_one _ _) ?_; intro w5 hst5)
    have h0'' := hst5.2.2.2 0 _ h0 (Or.inl (by simp))
    have h1'' := hst5.2.2.2 1 _ h1 (Or.inl (by rw [ints_length, K64_length]; omega))
    have h2'' := hst5.2.2.1
    have h3'' := hst5.2.2.2 73 _ h3 (Or.inr (by rw [ints_length, hO8.out]; omega))
    have hrd'' := hrd.grown hst5.1 (by intro j hj; injection hj with hj; rw [← hj]; exact hoff)
    have hbut'' := hbut'.trans (But.of_grown hst5.1 (by intro j hj; injection hj with hj; exact hj.symm))
    clear hst5 h0 h1 h2 h3 hrd hbut'
    go_roundw
    case rel =>
     refine ⟨k + 1, xs.drop 64, some ⟨bb, o + 64, none⟩, c2 - 64, by rw [List.length_drop], ?_, ?_, by rw [List.length_drop]; omega, by omega, rd_drop hrd'' 64, off_drop hoff 64, h0'', h1'', by rw [← HO2.out]; exact h2'', h3'', hbut''⟩
     ·show xs.drop 64 = al.drop (64 * (k + 1))
      rw [hxs.out, List.drop_drop, Nat.mul_add]
     ·show 64 * (k + 1) + (xs.drop 64).length = al.length
      have := hkl.out
      rw [List.length_drop]
      omega
    case measure => show xs.length - 64 < xs.length; omega
  ·have hle := Lib.hid (show blocks hs0 al k = hashed (m ++ b) by rw [hashed_append, ← HAL.out, ← HHS.out, show al.length / 64 = k from by have := hkl.out; omega])
   have hlf := Lib.hid (show left (m ++ b) = xs by rw [left_append, ← HAL.out, show al.length / 64 = k from by have := hkl.out; omega, ← hxs.out])
   have q1 := h3.cell (i := 0) rfl
   have q2 := h3.frozen (i := 0) rfl
   have hgl := h0.lt
   go_wp2_with fail
   refine (clone_any A2 xs.length c2 xs _ rfl (by omega) hrd).mono ?_
   rintro e w4 ⟨A4, c4, rfl, hown4, hb4⟩
   replace h0 := h0.below hb4
   replace h1 := h1.below hb4
   replace h2 := h2.below hb4
   replace h3 := h3.below hb4
   have q1 : w4.cell? ⟨g, 73, none⟩ = some (.slice A0 r c0) := h3.cell (i := 0) rfl
   have q2 : w4.frozen? ⟨g, 73, none⟩ = false := h3.frozen (i := 0) rfl
   have hne4 : (Value.slice A4 xs.length c4).ownBlock ≠ some g := fun e => by have := (hown4.lt g e).1; omega
   go_wp2_with fail
   go_end0
   refine ⟨rfl, .slice A4 xs.length c4, ⟨?_, ?_, ?_, ?_, ?_, hne4, h6.append lb, by rw [List.length_append]; exact hm, by rw [List.length_append]; omega⟩, ?_, ?_⟩
   ·exact h0.apart (p := ⟨g, 73, none⟩) (Or.inr (Or.inr (by simp))) _
   ·exact h1.apart (p := ⟨g, 73, none⟩) (Or.inr (Or.inr (by rw [ints_length, K64_length]; show 1 + 64 ≤ 73; omega))) _
   ·rw [← hle.out]
    exact h2.apart (p := ⟨g, 73, none⟩) (Or.inr (Or.inr (by rw [ints_length, (blocks_ok hs8.out hsl al k).1]; exact Nat.le_refl _))) _
   ·have h9 := h3.set (i := 0) rfl (.slice A4 xs.length c4)
    rw [show ((z + b.length : Nat) : Int) = (z : Int) + (b.length : Int) by omega]
    exact h9
   ·rw [hlf.out, ← left_length, hlf.out]
    exact own_zero (hown4.kept (only_set (only_refl w4 (some g)) (p := ⟨g, 73, none⟩) (Or.inl rfl) _) (Or.inr hne4))
   ·exact ((hbut3.trans (hbut.mono fun _ _ h => .inl h)).trans (But.of_below hb4)).trans (But.of_grown (only_set (only_refl w4 (some g)) (p := ⟨g, 73, none⟩) (Or.inl rfl) _) (by intro j hj; injection hj with hj; exact .inl hj.symm))
   ·intro j hj
    have := (hown4.lt j hj).1
    have := hbut3.size
    have := hbut.size
    omega
end Go.Proofs.YtchaahnhpeoomaaGreat
namespace Go.Proofs.YtchaahnhpeoomaaGreat
set_option linter.unusedVariables false
set_option linter.unusedSimpArgs false
set_option maxRecDepth 20000
open Go.RowKit
theorem fold_set (off : Nat) : ∀ (vs pre mid post : List Value) (n : Nat), mid.length = vs.length → pre.length = off + n →
  (vs.zipIdx n).foldl (fun (cs : Array Value) (x : Value × Nat) => cs.setIfInBounds (off + x.2) x.1) (pre ++ mid ++ post).toArray = (pre ++ vs ++ post).toArray
 | [], pre, mid, post, n, h, _ => by
  have : mid = [] := List.eq_nil_of_length_eq_zero h
  subst this
  rfl
 | v :: vs, pre, m :: mid, post, n, h, hp => by
  rw [List.zipIdx_cons, List.foldl_cons]
  have h1 : ((pre ++ m :: mid ++ post).toArray.setIfInBounds (off + n) v) = ((pre ++ [v]) ++ mid ++ post).toArray := by
   rw [List.setIfInBounds_toArray, ← hp, List.append_assoc, List.set_append_right _ _ (Nat.le_refl _), Nat.sub_self]
   simp
  rw [h1, fold_set off vs (pre ++ [v]) mid post (n + 1) (by simpa using h) (by simp; omega)]
  simp
 | v :: vs, pre, [], post, n, h, _ => by simp at h
theorem fill_step (place : Nat → Option (Nat × Nat)) (i off size : Nat) (v : Value) (vs pre mid post : List Value) (rest : List (Nat × Value)) (hp : place i = some (off, size)) (hv : v.cells = vs.toArray) (h1 : vs.length = size) (h2 : mid.length = size) (h3 : pre.length = off) :
  Instr.fill place (pre ++ mid ++ post).toArray ((i, v) :: rest) = Instr.fill place (pre ++ vs ++ post).toArray rest := by
 rw [Instr.fill, hp]
 have h4 := fold_set off vs pre mid post 0 (by omega) (by omega)
 have h5 : ¬ (pre ++ mid ++ post).toArray.size < off + vs.length := by simp; omega
 simp only [hv, List.size_toArray, h1]
 rw [if_neg (by simp; omega)]
 rw [Array.zipIdx_toArray]
 rw [List.foldl_toArray']
 ·rw [h4]
 ·simp
theorem built_37 (parts : List (Nat × Value)) : Tryz.prog.built 182 parts = Instr.fill (fun x => (#[(0, 1), (1, 64), (65, 8), (73, 1), (74, 1)] : Array (Nat × Nat))[x]?) zeroCells.toArray parts := by kernel_rfl
def stateCells (ks hv : List Nat) (s : Value) : List Value := [.bool true] ++ ints .u32 ks ++ ints .u32 hv ++ [s, .int .u64 0]
theorem built_end (ks hv : List Nat) (s : Value) (hk : ks.length = 64) (h8 : hv.length = 8) (hs : s.cells = #[s]) :
  Tryz.prog.built 182 [(0, .bool true), (1, .agg (ints .u32 ks).toArray), (2, .agg (ints .u32 hv).toArray), (3, s)] = some (stateCells ks hv s).toArray := by
 rw [built_37]
 have e0 : zeroCells = [] ++ [.bool false] ++ (ints .u32 (List.replicate 64 0) ++ ints .u32 (List.replicate 8 0) ++ [.slice none 0 0, .int .u64 0]) := by unfold zeroCells; simp only [List.append_assoc, List.nil_append]
 rw [e0, fill_step _ 0 0 1 (.bool true) [.bool true] [] _ _ _ rfl rfl rfl rfl rfl]
 rw [show ([] ++ [Value.bool true] ++ (ints .u32 (List.replicate 64 0) ++ ints .u32 (List.replicate 8 0) ++ [.slice none 0 0, .int .u64 0])) = [Value.bool true] ++ ints .u32 (List.replicate 64 0) ++ (ints .u32 (List.replicate 8 0) ++ [.slice none 0 0, .int .u64 0]) by simp only [List.append_assoc, List.nil_append]]
 rw [fill_step _ 1 1 64 (.agg (ints .u32 ks).toArray) (ints .u32 ks) _ _ _ _ rfl rfl (by rw [ints_length, hk]) (by rw [ints_length, List.length_replicate]) rfl]
 rw [show ([Value.bool true] ++ ints .u32 ks ++ (ints .u32 (List.replicate 8 0) ++ [.slice none 0 0, .int .u64 0])) = ([Value.bool true] ++ ints .u32 ks) ++ ints .u32 (List.replicate 8 0) ++ [.slice none 0 0, .int .u64 0] by simp only [List.append_assoc]]
 rw [fill_step _ 2 65 8 (.agg (ints .u32 hv).toArray) (ints .u32 hv) _ _ _ _ rfl rfl (by rw [ints_length, h8]) (by rw [ints_length, List.length_replicate]) (by rw [List.length_append, ints_length, hk]; rfl)]
 rw [show ([Value.bool true] ++ ints .u32 ks ++ ints .u32 hv ++ [.slice none 0 0, .int .u64 0]) = ([Value.bool true] ++ ints .u32 ks ++ ints .u32 hv) ++ [.slice none 0 0] ++ [.int .u64 0] by simp only [List.append_assoc]; rfl]
 rw [fill_step _ 3 73 1 s [s] _ _ _ _ rfl (by rw [hs]) rfl rfl (by rw [List.length_append, List.length_append, ints_length, ints_length, hk, h8]; rfl)]
 rw [Instr.fill, stateCells]
 simp only [List.append_assoc]
 rfl
end Go.Proofs.YtchaahnhpeoomaaGreat
namespace Go.Proofs.YtchaahnhpeoomaaGreat
set_option linter.unusedVariables false
set_option linter.unusedSimpArgs false
set_option maxRecDepth 20000
open Go.RowKit
theorem size_32u8_s : (Tryz.prog.info? 49).map (·.size) = some 32 := by kernel_rfl
theorem zero_state : (Tryz.prog.info? 182).map (fun i => i.zero) = some (some (.agg zeroCells.toArray)) := by kernel_rfl
theorem size_state : (Tryz.prog.info? 182).map (·.size) = some 75 := by kernel_rfl
theorem stateCells_length {ks hv : List Nat} {s : Value} (hk : ks.length = 64) (h8 : hv.length = 8) : (stateCells ks hv s).length = 75 := by simp [stateCells, ints_length, hk, h8]
theorem stateCells_one {ks hv : List Nat} {s : Value} (hs : s.oneCell' = true) : ∀ v ∈ stateCells ks hv s, v.oneCell' = true := by
 intro v hv'
 simp only [stateCells, List.mem_append, List.mem_cons, List.not_mem_nil, or_false] at hv'
 rcases hv' with ((rfl | h) | h) | rfl | rfl
 ·rfl
 ·exact ints_one _ _ v h
 ·exact ints_one _ _ v h
 ·exact hs
 ·rfl
theorem own_mono {w : World} {B B' : Nat} {e : TypeId} {v : Value} {n : Nat} {xs : List Value} (h : w.ownsRow B e 1 v n xs) (hB : B' ≤ B) : w.ownsRow B' e 1 v n xs := by
 refine ⟨h.1, ?_⟩
 rcases h.2 with h | ⟨g, cap, cur, h1, h0, h2⟩
 ·exact .inl h
 ·exact .inr ⟨g, cap, cur, h1, Nat.le_trans hB h0, h2⟩
theorem own_below_s {w w' : World} {B : Nat} {e : TypeId} {v : Value} {n : Nat} {xs : List Value} (h : w.ownsRow B e 1 v n xs) (hb : Below w.heap.size w w') : w'.ownsRow B e 1 v n xs := by
 refine h.kept (only_of_below hb none) ?_
 cases v.ownBlock with
 | none => exact .inl rfl
 | some x => exact .inr (by simp)
theorem own_lit_s (w : World) (x : Nat) (e : TypeId) : (w.alloc (.cells #[.int .u8 (x : Int)] e)).ownsRow w.heap.size e 1 (.slice (some ⟨w.heap.size, 0, none⟩) 1 1) 1 (ints .u8 (x :: List.replicate 0 0)) :=
 ⟨rfl, .inr ⟨w.heap.size, 1, _, rfl, Nat.le_refl _, heap_alloc_new w _, Nat.le_refl _, by simp [maxLen], rfl, rfl⟩⟩
theorem be64_succ {n i y : Nat} (hi : i < 8) (hy : y = n / 2 ^ (56 - 8 * i) % 256) : (be64 n).take i ++ [y] = (be64 n).take (i + 1) := by
 have h : (be64 n)[i]? = some y := by rw [be64, List.getElem?_map, List.getElem?_range hi, hy]; rfl
 rw [List.take_add_one, h]
 rfl
theorem padding_lim (n : Nat) : Lim 256 (padding n) := by
 intro x hx
 simp only [padding, be64, List.mem_append, List.mem_cons, List.mem_replicate, List.mem_map] at hx
 rcases hx with (rfl | ⟨_, rfl⟩) | ⟨i, _, rfl⟩
 ·decide
 ·decide
 ·exact Nat.mod_lt _ (by decide)
theorem MstN.below' {w w' : World} {g : Nat} {v : Value} {m : List Nat} {z : Nat} (h : MstN w g v m z) (hb : Below w.heap.size w w') : MstN w' g v m z :=
 h.keep hb.size (hb.block g h.1.lt) fun j hj => hb.block j (h.2.2.2.2.1.lt j hj).2
def outTo (h : List Nat) (i : Nat) : List Nat := (List.range i).map fun i => h.getD (i / 4) 0 / 2 ^ (24 - 8 * (i % 4)) % 256
theorem outTo_length (h : List Nat) (i : Nat) : (outTo h i).length = i := by simp [outTo]
theorem outTo_succ (h : List Nat) (i : Nat) : outTo h (i + 1) = outTo h i ++ [h.getD (i / 4) 0 / 2 ^ (24 - 8 * (i % 4)) % 256] := by simp [outTo, List.range_succ]
theorem mst_far {w : World} {g x : Nat} {v : Value} {m : List Nat} {z : Nat} (h : MstN w g v m z) (hg : g ≠ x) (hv : ∀ j, v.ownBlock = some j → j < x) (i : Nat) (u : Value) : MstN (w.setCell ⟨x, i, none⟩ u) g v m z :=
 h.keep (by simp) (Below.heap_setCell w ⟨x, i, none⟩ u g hg) fun j hj => Below.heap_setCell w ⟨x, i, none⟩ u j (by have := hv j hj; show j ≠ x; omega)
theorem mst_grown {w w' : World} {g x : Nat} {v : Value} {m : List Nat} {z : Nat} (h : MstN w g v m z) (hw : w.grownBy w' (some x)) (hg : g ≠ x) (hv : ∀ j, v.ownBlock = some j → j < x) : MstN w' g v m z :=
 h.keep hw.size (hw.block g h.1.lt (by simpa using hg)) fun j hj => hw.block j (h.2.2.2.2.1.lt j hj).2 (by have := hv j hj; simp; omega)
theorem grown_new {a b c : World} {g x : Nat} (h : a.grownBy b (some g)) (k : b.grownBy c (some x)) (hx : a.heap.size ≤ x) : a.grownBy c (some g) :=
 ⟨k.os.trans h.os, k.tape.trans h.tape, k.output.trans h.output, Nat.le_trans h.size k.size, fun i hi hn => (k.block i (Nat.lt_of_lt_of_le hi h.size) (by simp; omega)).trans (h.block i hi hn)⟩
theorem mkS2 {w1 w' : World} {g : Nat} {k h : List Value} {v n : Value} (h1 : Cut w1 g 1 k) (h2 : Cut w1 g 65 h) (h3 : Cut w1 g 73 [v, n]) (hb : Below w1.heap.size w1 w') :
  Below w1.heap.size w1 w' ∧ w'.rangeAt g 1 k ∧ w'.rangeAt g 65 h ∧ w'.cell? ⟨g, 73, none⟩ = some v := ⟨hb, (h1.below hb).range, (h2.below hb).range, (h3.below hb).cell (i := 0) rfl⟩
theorem yields_build {P : Program} {o : Oper} {a : Act} {C : Array Value} (t : TypeId) (parts : Array (Nat × Operand)) (ho : o.op = .build t parts) (L : List (Nat × Value)) (hL : parts.toList.map (fun x => (x.1, a.eval x.2)) = L) (hC : P.built t L = some C) (w : World) :
  (execOp a.eval o).run P w = .ok (.value (.agg C)) w := by
 have h : P.built t (parts.map fun (i, x) => (i, a.eval x)).toList = some C := by rw [Array.toList_map]; rw [← hL] at hC; exact hC
 unfold execOp
 simp only [ho, Sem.run_bind, run_build w t _ C h, Result.andThen_ok]
 rfl
section
variable {P : Program} {ops : Array Oper} {o : Oper} {a : Act} {w : World} {K : Act → World → Prop} {Q : Exit → Act → World → Prop} {E : Prop}
theorem step_alloc_cells (hgd : o.guard = none) (ty : TypeId) (ho : o.op = .alloc ty) (C : List Value) (hz : (P.info? ty).map (fun i => i.zero) = some (some (.agg C.toArray)))
  (h : ∀ g w', Hid (g = w.heap.size) → Cut w' g 0 C → w'.heap.size = w.heap.size + 1 → Below w.heap.size w w' → K (a.put o.dst (.pointer (some ⟨g, 0, none⟩))) w') :
  if Region.wanted o (yielded ops a.tmps) = true then Oper.wp P o a w K Q else E := by
 have hw : Region.wanted o (yielded ops a.tmps) = true := by simp [Region.wanted, hgd]
 rw [if_pos hw]
 obtain ⟨i, hi, hzz⟩ := Option.map_eq_some_iff.1 hz
 have hzero : (zeroValue ty).run P w = .ok (.agg C.toArray) w := by simp [zeroValue, typeInfo, hi, hzz]
 unfold Oper.wp execOp
 simp only [ho, Instr.alloc, Sem.run_bind, Sem.run_pure, hzero, Result.andThen, newVar, run_newObj_alloc]
 exact h w.heap.size _ rfl (cut_parts [] C [] (heap_alloc_new w _) (by simp)) (by simp) ((Below.refl _ _).alloc (Nat.le_refl _) _)
end
theorem mst_cells {w : World} {g : Nat} {m : List Nat} {v : Value} (h : Cut w g 0 (stateCells K64 (hashed m) v)) : Cut w g 0 [.bool true] ∧ Cut w g 1 (ints .u32 K64) ∧ Cut w g 65 (ints .u32 (hashed m)) ∧ Cut w g 73 [v, .int .u64 0] := by
 have sub : ∀ (pre vs post : List Value), stateCells K64 (hashed m) v = pre ++ vs ++ post → Cut w g pre.length vs := fun pre vs post e => ⟨h.lt, fun i u hu => by
  have hi : i < vs.length := (List.getElem?_eq_some_iff.1 hu).1
  have := h.2 (pre.length + i) u (by rw [e, List.append_assoc, List.getElem?_append_right (by omega), Nat.add_sub_cancel_left, List.getElem?_append_left hi]; exact hu)
  rwa [Nat.zero_add] at this⟩
 have a := sub [] [.bool true] (ints .u32 K64 ++ ints .u32 (hashed m) ++ [v, .int .u64 0]) (by simp only [stateCells, List.append_assoc, List.nil_append])
 have b := sub [.bool true] (ints .u32 K64) (ints .u32 (hashed m) ++ [v, .int .u64 0]) (by simp only [stateCells, List.append_assoc])
 have c := sub ([.bool true] ++ ints .u32 K64) (ints .u32 (hashed m)) [v, .int .u64 0] rfl
 have d := sub ([.bool true] ++ ints .u32 K64 ++ ints .u32 (hashed m)) [v, .int .u64 0] [] (by simp only [stateCells, List.append_nil])
 rw [List.length_append, ints_length, K64_length] at c
 rw [List.length_append, List.length_append, ints_length, ints_length, K64_length, (hashed_ok m).1] at d
 exact ⟨a, b, c, d⟩
def SumPost (g : Nat) (v : Value) (m : List Nat) (w : World) (e : Ending) (w' : World) : Prop :=
 e = .returned (.agg (ints .u8 (digest m)).toArray) ∧ Mst w' g v m ∧ w.grownBy w' (some g)
set_option maxRecDepth 100000 in
set_option maxHeartbeats 3200000 in
theorem stateSum_any (g : Nat) (v : Value) (m : List Nat) (w : World) (hs : St w g v m) (hml : m.length ≤ 1099511627776) :
  Calls Tryz.prog 86 #[.pointer (some ⟨g, 0, none⟩)] w (SumPost g v m w) := by
 go_enter Tryz.func86, Tryz.ntmps86
 go_wp2_with fail
 have hw2 : Whl .u8 49 (w.alloc (.cells (ints .u8 (List.replicate 32 0)).toArray 49)) w.heap.size (List.replicate 32 0) := whl_new0 w _
 have hba : Below w.heap.size w (w.alloc (.cells (ints .u8 (List.replicate 32 0)).toArray 49)) := (Below.refl _ _).alloc (Nat.le_refl _) _
 have hsa := StN.below hs hba
 have hglt : g < w.heap.size := StN.lt hs
 change Calls _ _ _ (w.alloc (.cells (ints .u8 (List.replicate 32 0)).toArray 49)) _
 generalize w.alloc (.cells (ints .u8 (List.replicate 32 0)).toArray 49) = wa at *
 refine (made_any g v m m.length _ hsa).mono ?_
 rintro e w1 ⟨rfl, hst, hg1⟩
 replace hw2 := hw2.grown hg1 (by simp; omega)
 have hgr : w.grownBy w1 (some g) := only_trans (only_of_below hba _) hg1
 have hsz1 : w.heap.size < w1.heap.size := Nat.lt_of_lt_of_le hw2.lt (Nat.le_refl _)
 have hvlt0 : ∀ j, v.ownBlock = some j → j < w.heap.size := StN.own_lt hs
 clear hs hsa hba hg1
 have HST := Lib.hid hst
 have hvlt : ∀ j, v.ownBlock = some j → j < w.heap.size := hvlt0
 obtain ⟨h0, h1, h2, h3, h4, h5, h6, h7, _⟩ := hst
 obtain ⟨A0, c0, rfl, hr, hrc, hcm, hrd⟩ := row_form h4
 obtain ⟨r, hrr⟩ : ∃ r, r = m.length % 64 := ⟨_, rfl⟩
 have q1 : w1.cell? ⟨g, 73, none⟩ = some (.slice A0 (m.length % 64) c0) := h3.cell (i := 0) rfl
 rw [← hrr] at q1 hr hrc h3 h4 h5
 have HR := Lib.hid hr
 have HRR := Lib.hid hrr
 have hrl : r < 64 := by omega
 obtain ⟨KK, hKK⟩ : ∃ KK, KK = K64 := ⟨_, rfl⟩
 have hK64 := Lib.hid (show KK.length = 64 by rw [hKK, K64_length])
 rw [← hKK] at h1
 have HKK := Lib.hid hKK
 obtain ⟨hv, hhv⟩ : ∃ hv, hv = hashed m := ⟨_, rfl⟩
 have hv8 := Lib.hid (show hv.length = 8 by rw [hhv]; exact (hashed_ok m).1)
 rw [← hhv] at h2
 have HHV := Lib.hid hhv
 obtain ⟨lf, hlf⟩ : ∃ lf, lf = left m := ⟨_, rfl⟩
 rw [← hlf] at hrd h4
 have hll := Lib.hid (show r = lf.length by rw [hlf]; exact hr)
 have HLF := Lib.hid hlf
 clear hr hrr hKK hhv hlf
 go_upto_region 4 with fail
 go_cut [3] (fun s3 wx => ∃ g3 A c, s3 = .pointer (some ⟨g3, 0, none⟩) ∧ Cut wx g3 0 (stateCells KK hv (.slice A lf.length c)) ∧ wx.ownsRow w1.heap.size 5 1 (.slice A lf.length c) lf.length (ints .u8 lf) ∧ (Value.slice A lf.length c).ownBlock ≠ some g3 ∧ w1.heap.size ≤ g3 ∧ Below w1.heap.size w1 wx)
 case first =>
  refine wp_region_held_drew (S := fun w' => Below w1.heap.size w1 w' ∧ w'.rangeAt g 1 (ints .u32 KK) ∧ w'.rangeAt g 65 (ints .u32 hv) ∧ w'.cell? ⟨g, 73, none⟩ = some (.slice A0 r c0)) (by kernel_rfl) (mkS2 h1 h2 h3 (below_drewN (Below.refl _ _) 1)) (fun hS => ?_)
  have hbd := hS.1
  generalize w1.drew = wd at *
  refine wpAnyH_take (i := 0) (oi := { dst := some 12, op := .move (.tmp 0), type := 148, pos := _, after := _, guard := none }) (v := .pointer (some ⟨g, 0, none⟩)) rfl (by kernel_rfl) (by kernel_rfl) (by kernel_rfl) (fun _ _ _ h => h) (Or.inl ⟨by rfl, fun _ _ => rfl⟩) hS ?_
  try simp only [Act.put, List.setIfInBounds_toArray, List.set_cons_zero, List.set_cons_succ]
  refine wpAnyH_take (i := 1) (oi := { dst := some 13, op := .nilCheck (.tmp 12), type := 0, pos := _, after := _, guard := none }) (v := .pointer (some ⟨g, 0, none⟩)) rfl (by kernel_rfl) (by kernel_rfl) (by kernel_rfl) (fun _ _ _ h => h) (Or.inl ⟨by rfl, fun _ _ => rfl⟩) hS ?_
  try simp only [Act.put, List.setIfInBounds_toArray, List.set_cons_zero, List.set_cons_succ]
  refine wpAnyH_take (i := 2) (oi := { dst := some 14, op := .fieldAddr 182 (.tmp 13) 1, type := 0, pos := _, after := _, guard := none }) (v := .pointer (some ⟨g, 1, none⟩)) rfl (by kernel_rfl) (by kernel_rfl) (by kernel_rfl) (fun _ _ _ h => h) (Or.inl ⟨by rfl, fun w _ => ?_⟩) hS ?_
  ·go_simp
  try simp only [Act.put, List.setIfInBounds_toArray, List.set_cons_zero, List.set_cons_succ]
  refine wpAnyH_take (i := 3) (oi := { dst := some 15, op := .load 179 (.tmp 14), type := 179, pos := _, after := _, guard := none }) (v := .agg (ints .u32 KK).toArray) rfl (by kernel_rfl) (by kernel_rfl) (by kernel_rfl) (fun _ _ _ h => h) (yieldsIf_load_mid (by rfl) 179 (.tmp 14) rfl g 1 rfl (ints .u32 KK) _ (fun _ h => h.2.1) Tryz.underlying179 rfl (by rw [ints_length, hK64.out]; exact size_64u32)) hS ?_
  try simp only [Act.put, List.setIfInBounds_toArray, List.set_cons_zero, List.set_cons_succ]
  refine wpAnyH_take (i := 4) (oi := { dst := some 16, op := .move (.tmp 0), type := 148, pos := _, after := _, guard := none }) (v := .pointer (some ⟨g, 0, none⟩)) rfl (by kernel_rfl) (by kernel_rfl) (by kernel_rfl) (fun _ _ _ h => h) (Or.inl ⟨by rfl, fun _ _ => rfl⟩) hS ?_
  try simp only [Act.put, List.setIfInBounds_toArray, List.set_cons_zero, List.set_cons_succ]
  refine wpAnyH_take (i := 5) (oi := { dst := some 17, op := .nilCheck (.tmp 16), type := 0, pos := _, after := _, guard := none }) (v := .pointer (some ⟨g, 0, none⟩)) rfl (by kernel_rfl) (by kernel_rfl) (by kernel_rfl) (fun _ _ _ h => h) (Or.inl ⟨by rfl, fun _ _ => rfl⟩) hS ?_
  try simp only [Act.put, List.setIfInBounds_toArray, List.set_cons_zero, List.set_cons_succ]
  refine wpAnyH_take (i := 6) (oi := { dst := some 18, op := .fieldAddr 182 (.tmp 17) 2, type := 0, pos := _, after := _, guard := none }) (v := .pointer (some ⟨g, 65, none⟩)) rfl (by kernel_rfl) (by kernel_rfl) (by kernel_rfl) (fun _ _ _ h => h) (Or.inl ⟨by rfl, fun w _ => ?_⟩) hS ?_
  ·go_simp
  try simp only [Act.put, List.setIfInBounds_toArray, List.set_cons_zero, List.set_cons_succ]
  refine wpAnyH_take (i := 7) (oi := { dst := some 19, op := .load 180 (.tmp 18), type := 180, pos := _, after := _, guard := none }) (v := .agg (ints .u32 hv).toArray) rfl (by kernel_rfl) (by kernel_rfl) (by kernel_rfl) (fun _ _ _ h => h) (yieldsIf_load_mid (by rfl) 180 (.tmp 18) rfl g 65 rfl (ints .u32 hv) _ (fun _ h => h.2.2.1) Tryz.underlying180 rfl (by rw [ints_length, hv8.out]; exact size_8u32)) hS ?_
  try simp only [Act.put, List.setIfInBounds_toArray, List.set_cons_zero, List.set_cons_succ]
  refine wpAnyH_take (i := 8) (oi := { dst := some 20, op := .move (.tmp 0), type := 148, pos := _, after := _, guard := none }) (v := .pointer (some ⟨g, 0, none⟩)) rfl (by kernel_rfl) (by kernel_rfl) (by kernel_rfl) (fun _ _ _ h => h) (Or.inl ⟨by rfl, fun _ _ => rfl⟩) hS ?_
  try simp only [Act.put, List.setIfInBounds_toArray, List.set_cons_zero, List.set_cons_succ]
  refine wpAnyH_take (i := 9) (oi := { dst := some 21, op := .nilCheck (.tmp 20), type := 0, pos := _, after := _, guard := none }) (v := .pointer (some ⟨g, 0, none⟩)) rfl (by kernel_rfl) (by kernel_rfl) (by kernel_rfl) (fun _ _ _ h => h) (Or.inl ⟨by rfl, fun _ _ => rfl⟩) hS ?_
  try simp only [Act.put, List.setIfInBounds_toArray, List.set_cons_zero, List.set_cons_succ]
  refine wpAnyH_take (i := 10) (oi := { dst := some 22, op := .fieldAddr 182 (.tmp 21) 3, type := 0, pos := _, after := _, guard := none }) (v := .pointer (some ⟨g, 73, none⟩)) rfl (by kernel_rfl) (by kernel_rfl) (by kernel_rfl) (fun _ _ _ h => h) (Or.inl ⟨by rfl, fun w _ => ?_⟩) hS ?_
  ·go_simp
  try simp only [Act.put, List.setIfInBounds_toArray, List.set_cons_zero, List.set_cons_succ]
  refine wpAnyH_take (i := 11) (oi := { dst := some 23, op := .load 22 (.tmp 22), type := 22, pos := _, after := _, guard := none }) (v := .slice A0 r c0) rfl (by kernel_rfl) (by kernel_rfl) (by kernel_rfl) (fun _ _ _ h => h) (Or.inl ⟨by rfl, fun w hSw => ?_⟩) hS ?_
  ·obtain ⟨_, _, _, hq⟩ := hSw
   go_simp
  try simp only [Act.put, List.setIfInBounds_toArray, List.set_cons_zero, List.set_cons_succ]
  try simp only [Act.put, List.setIfInBounds_toArray, List.set_cons_zero, List.set_cons_succ]
  refine wpAnyH_ready (rs := [12, 14]) (by kernel_rfl) (by simp) ?_
  refine AllReadyH.cons (o := { dst := some 24, op := .call { callee := .value (.func 93), args := #[.tmp 23], argTypes := #[22] }, type := 22, pos := _, after := _, guard := none }) rfl (fun K hK => ?_) ?_
  ·go_simp
   refine (clone_any A0 r c0 lf _ hll.out (by omega) (hrd.below hbd)).mono ?_
   rintro e wc ⟨A4, c4, rfl, hown, hbc⟩
   go_simp
   refine hK.out _ _ (mkS2 h1 h2 h3 (tr1 hbc hbd)) (fun _ => ?_)
   clear hK K
   try simp only [Act.put, List.setIfInBounds_toArray, List.set_cons_zero, List.set_cons_succ]
   refine wpAnyH_take (i := 13) (oi := { dst := some 25, op := .build 182 #[(0, .const (.bool true)), (1, .tmp 15), (2, .tmp 19), (3, .tmp 24)], type := 182, pos := _, after := _, guard := none }) (v := .agg (stateCells KK hv (.slice A4 lf.length c4)).toArray) rfl (by kernel_rfl) (by kernel_rfl) (by kernel_rfl) (fun _ _ _ h => h) (Or.inl ⟨by rfl, fun w _ => yields_build 182 _ rfl _ rfl (built_end KK hv (.slice A4 lf.length c4) hK64.out hv8.out rfl) w⟩) (mkS2 h1 h2 h3 (tr1 hbc hbd)) ?_
   try simp only [Act.put, List.setIfInBounds_toArray, List.set_cons_zero, List.set_cons_succ]
   refine wpAnyH_ready (rs := [14]) (by kernel_rfl) (by simp) ?_
   refine AllReadyH.cons (o := { dst := some 3, op := .alloc 182, type := 0, pos := _, after := _, guard := none }) rfl (fun K hK => ?_) ?_
   rotate_left
   ·exact AllReadyH.nil
   refine step_alloc_cells rfl 182 rfl zeroCells zero_state ?_
   intro g3 w5 hg3 hc5 hs5 hb5
   have hk3 : w1.heap.size ≤ g3 := by rw [hg3.out]; exact (tr1 hbc hbd).size
   clear hs5
   refine hK.out _ _ (mkS2 h1 h2 h3 (tr1 hb5 (tr1 hbc hbd))) (fun _ => ?_)
   clear hK K
   try simp only [Act.put, List.setIfInBounds_toArray, List.set_cons_zero, List.set_cons_succ]
   have hne : (Value.slice A4 lf.length c4).ownBlock ≠ some g3 := fun e => by have h8 := (hown.lt g3 e).2; rw [hg3.out] at h8; omega
   refine wpAnyH_ready (rs := [15]) (by kernel_rfl) (by simp) ?_
   refine AllReadyH.cons (o := { dst := none, op := .store 182 (.tmp 3) (.tmp 25), type := 0, pos := _, after := _, guard := none }) rfl (fun K hK => ?_) ?_
   rotate_left
   ·exact AllReadyH.nil
   refine step_store_cut rfl 182 (.tmp 3) (.tmp 25) rfl g3 0 (stateCells KK hv (.slice A4 lf.length c4)) zeroCells rfl rfl hc5 (by rw [stateCells_length hK64.out hv8.out]; rfl) (by rw [stateCells_length hK64.out hv8.out]; exact size_state) (stateCells_one rfl) ?_
   intro w6 hst
   refine hK.out _ _ (mkS2 h1 h2 h3 (tr2 hst.1 (tr1 hb5 (tr1 hbc hbd)) hk3)) (fun _ => ?_)
   clear hK K
   try simp only [Act.put, List.setIfInBounds_toArray, List.set_cons_zero, List.set_cons_succ]
   refine wpAnyH_done (by kernel_rfl) ?_ _
   go_wp2_with fail
   go_meet
   exact ⟨g3, A4, c4, rfl, hst.2.2.1, (own_below_s (own_mono hown hbd.size) hb5).kept hst.1 (Or.inr hne), hne, hk3, tr2 hst.1 (tr1 hb5 (tr1 hbc hbd)) hk3⟩
  refine AllReadyH.cons (o := { dst := some 3, op := .alloc 182, type := 0, pos := _, after := _, guard := none }) rfl (fun K hK => ?_) ?_
  ·refine step_alloc_cells rfl 182 rfl zeroCells zero_state ?_
   intro g3 w5 hg3 hc5 hs5 hb5
   have hk3 : w1.heap.size ≤ g3 := by rw [hg3.out]; exact hbd.size
   clear hs5
   refine hK.out _ _ (mkS2 h1 h2 h3 (tr1 hb5 hbd)) (fun _ => ?_)
   clear hK K
   try simp only [Act.put, List.setIfInBounds_toArray, List.set_cons_zero, List.set_cons_succ]
   refine wpAnyH_ready (rs := [12]) (by kernel_rfl) (by simp) ?_
   refine AllReadyH.cons (o := { dst := some 24, op := .call { callee := .value (.func 93), args := #[.tmp 23], argTypes := #[22] }, type := 22, pos := _, after := _, guard := none }) rfl (fun K hK => ?_) ?_
   rotate_left
   ·exact AllReadyH.nil
   go_simp
   refine (clone_any A0 r c0 lf _ hll.out (by omega) (hrd.below (tr1 hb5 hbd))).mono ?_
   rintro e wc ⟨A4, c4, rfl, hown, hbc⟩
   go_simp
   refine hK.out _ _ (mkS2 h1 h2 h3 (tr1 hbc (tr1 hb5 hbd))) (fun _ => ?_)
   clear hK K
   try simp only [Act.put, List.setIfInBounds_toArray, List.set_cons_zero, List.set_cons_succ]
   refine wpAnyH_take (i := 13) (oi := { dst := some 25, op := .build 182 #[(0, .const (.bool true)), (1, .tmp 15), (2, .tmp 19), (3, .tmp 24)], type := 182, pos := _, after := _, guard := none }) (v := .agg (stateCells KK hv (.slice A4 lf.length c4)).toArray) rfl (by kernel_rfl) (by kernel_rfl) (by kernel_rfl) (fun _ _ _ h => h) (Or.inl ⟨by rfl, fun w _ => yields_build 182 _ rfl _ rfl (built_end KK hv (.slice A4 lf.length c4) hK64.out hv8.out rfl) w⟩) (mkS2 h1 h2 h3 (tr1 hbc (tr1 hb5 hbd))) ?_
   try simp only [Act.put, List.setIfInBounds_toArray, List.set_cons_zero, List.set_cons_succ]
   have hne : (Value.slice A4 lf.length c4).ownBlock ≠ some g3 := fun e => by have h8 := (hown.lt g3 e).1; have h9 := hc5.lt; omega
   refine wpAnyH_ready (rs := [15]) (by kernel_rfl) (by simp) ?_
   refine AllReadyH.cons (o := { dst := none, op := .store 182 (.tmp 3) (.tmp 25), type := 0, pos := _, after := _, guard := none }) rfl (fun K hK => ?_) ?_
   rotate_left
   ·exact AllReadyH.nil
   refine step_store_cut rfl 182 (.tmp 3) (.tmp 25) rfl g3 0 (stateCells KK hv (.slice A4 lf.length c4)) zeroCells rfl rfl (hc5.below hbc) (by rw [stateCells_length hK64.out hv8.out]; rfl) (by rw [stateCells_length hK64.out hv8.out]; exact size_state) (stateCells_one rfl) ?_
   intro w6 hst
   refine hK.out _ _ (mkS2 h1 h2 h3 (tr2 hst.1 (tr1 hbc (tr1 hb5 hbd)) hk3)) (fun _ => ?_)
   clear hK K
   try simp only [Act.put, List.setIfInBounds_toArray, List.set_cons_zero, List.set_cons_succ]
   refine wpAnyH_done (by kernel_rfl) ?_ _
   go_wp2_with fail
   go_meet
   exact ⟨g3, A4, c4, rfl, hst.2.2.1, (own_mono hown (tr1 hb5 hbd).size).kept hst.1 (Or.inr hne), hne, hk3, tr2 hst.1 (tr1 hbc (tr1 hb5 hbd)) hk3⟩
  exact AllReadyH.nil
 case rest =>
  obtain ⟨g3, A4, c4, rfl, hc3, hown, hne, hk3, hbx⟩ := hcut
  have hcc := mst_cells (m := m) (w := wc) (g := g3) (v := .slice A4 lf.length c4) (by rw [← HKK.out, ← HHV.out]; exact hc3)
  have hM : Hid (MstN wc g3 (.slice A4 lf.length c4) m 0) := ⟨hcc.1, hcc.2.1, hcc.2.2.1, hcc.2.2.2, by rw [← HRR.out, hll.out, ← HLF.out]; exact own_mono hown (Nat.zero_le _), hne, h6, h7, Nat.zero_le _⟩
  have hown4 : ∀ j, (Value.slice A4 lf.length c4).ownBlock = some j → w1.heap.size ≤ j := fun j hj => (hown.lt j hj).1
  have hgw1 : g < w1.heap.size := h0.lt
  have hg3w : g3 < wc.heap.size := hc3.lt
  have q1' := (h3.below hbx).cell (i := 0) rfl
  have q2' := (h3.below hbx).cell (i := 1) rfl
  obtain ⟨J, hJ⟩ : ∃ J, J = (119 - r) % 64 := ⟨_, rfl⟩
  have HJ := Lib.hid hJ
  have hJl : J < 64 := by omega
  clear hcc hc3 hown hJ q1 h0 h1 h2
  go_wp2_with fail
  go_loopw [4] (fun s wr => ∃ j p A c, s = .slice A p c ∧ Hid (p = j + 1) ∧ j ≤ J ∧ p ≤ c ∧ c ≤ maxLen ∧ wr.ownsRow wc.heap.size 5 1 (.slice A p c) p (ints .u8 (128 :: List.replicate j 0)) ∧ Below wc.heap.size wc wr) (fun s _ => 65 - sliceLen s)
  case atStart => exact ⟨0, 1, _, 1, rfl, rfl, Nat.zero_le _, Nat.le_refl _, by simp [maxLen], own_lit_s wc 128 5, (Below.refl _ _).alloc (Nat.le_refl _) _⟩
  case round =>
   obtain ⟨j, p, A, c, rfl, hp, hj, hpc, hcmx, howr, hbr⟩ := hrel
   have hp1 : p = j + 1 := hp.out
   have hpl : p < 65 := by omega
   have q1 : wr.cell? ⟨g, 73, none⟩ = some (.slice A0 r c0) := ((h3.below hbx).below hbr).cell (i := 0) rfl
   by_cases hlt : j < J
   ·have hz1 : (((r : Int) + (p : Int)) % 64 == 56) = false := by have := HJ.out; simp; omega
    have hz2 : (((r : Int) + (p : Int)) % 64 != 56) = true := by have := HJ.out; simp; omega
    clear hp1
    go_wp2_with (at_builtin; refine wpList_append_ints _ rfl (.tmp 37) (.tmp 38) _ rfl wc.heap.size 5 .u8 1 Tryz.underlying22 info_u8 (.slice A p c) p (128 :: List.replicate j 0) rfl (howr.alloc _) _ 1 1 [0] rfl rfl (Rd.of_all (blk_lit wr [0] _ rfl)) (by simp only [maxLen]; omega) (by omega) (by have := hbr.size; simp; omega) ?_; intro v5 w5 hown5 hgrow5 _)
    obtain ⟨A5, c5, rfl, _, hpc5, hcm5, _⟩ := row_form2 hown5
    have hbr5 : Below wc.heap.size wc w5 := (hbr.alloc hbr.size _).grown hgrow5 (by have := hbr.size; simp; omega) (fun k hk => (howr.lt k hk).1)
    clear hz1 hz2
    go_wp2_with fail
    go_roundw
    case rel =>
     refine ⟨j + 1, p + 1, A5, c5, rfl, by rw [hp.out]; rfl, hlt, hpc5, hcm5, ?_, hbr5⟩
     rw [show 128 :: List.replicate (j + 1) 0 = 128 :: List.replicate j 0 ++ [0] by rw [List.replicate_succ']; rfl]
     exact hown5
    case measure => show 65 - (p + 1) < 65 - p; omega
   ·obtain rfl : j = J := by omega
    have hz1 : (((r : Int) + (p : Int)) % 64 == 56) = true := by have := HJ.out; simp; omega
    have hz2 : (((r : Int) + (p : Int)) % 64 != 56) = false := by have := HJ.out; simp; omega
    clear hp1
    go_wp2_with fail
    obtain ⟨L1, hL1⟩ : ∃ L1, L1 = 128 :: List.replicate j 0 := ⟨_, rfl⟩
    rw [← hL1] at howr
    have hpL := Lib.hid (show p = L1.length by rw [hL1, hp.out]; simp)
    have HL1 := Lib.hid hL1
    clear hL1 hz1 hz2
    go_loopw [4, 40] (fun s u wr => ∃ i p A c, s = .slice A p c ∧ u = .int .i64 ((i : Nat) : Int) ∧ i ≤ 8 ∧ Hid (p = L1.length + i) ∧ p ≤ c ∧ c ≤ maxLen ∧ wr.ownsRow wc.heap.size 5 1 (.slice A p c) p (ints .u8 (L1 ++ (be64 (8 * m.length % 18446744073709551616)).take i)) ∧ Below wc.heap.size wc wr) (fun s u _ => 8 - (intOf u).toNat)
    case atStart => exact ⟨0, p, A, c, rfl, rfl, Nat.zero_le _, hpL.out, hpc, hcmx, by simpa using howr, hbr⟩
    case round =>
     clear howr hbr q1 hpc hcmx
     obtain ⟨i, p2, A2, c2, rfl, rfl, hi, hp2, hpc, hcmx, howr, hbr⟩ := hrel
     have q2 : wr.cell? ⟨g, 74, none⟩ = some (.int .u64 ((m.length : Nat) : Int)) := ((h3.below hbx).below hbr).cell (i := 1) rfl
     have hp2l : p2 < 80 := by have := hp2.out; have := hpL.out; omega
     by_cases hlt8 : i < 8
     ·obtain ⟨y, hy⟩ : ∃ y, y = 8 * m.length / 2 ^ (56 - 8 * i) % 256 := ⟨_, rfl⟩
      have hv := Lib.hid (show ((y : Nat) : Int) = 8 * (m.length : Int) / 2 ^ (56 - 8 * i) % 256 by rw [hy]; push_cast; rfl)
      have hbt := Lib.hid (be64_succ (n := 8 * m.length % 18446744073709551616) (y := y) hlt8 (by rw [hy, Nat.mod_eq_of_lt (show 8 * m.length < 18446744073709551616 by omega)]))
      clear hy
      go_wp2_with (at_builtin; refine wpList_append_ints _ rfl (.tmp 43) (.tmp 54) _ rfl wc.heap.size 5 .u8 1 Tryz.underlying22 info_u8 (.slice A2 p2 c2) p2 (L1 ++ (be64 (8 * m.length % 18446744073709551616)).take i) rfl (howr.alloc _) _ 1 1 [y] rfl rfl (Rd.of_all (blk_lit wr [y] _ (by rw [← hv.out]; rfl))) (by simp only [maxLen]; omega) (by omega) (by have := hbr.size; simp; omega) ?_; intro v5 w5 hown5 hgrow5 _)
      obtain ⟨A5, c5, rfl, _, hpc5, hcm5, _⟩ := row_form2 hown5
      have hbr5 : Below wc.heap.size wc w5 := (hbr.alloc hbr.size _).grown hgrow5 (by have := hbr.size; simp; omega) (fun k hk => (howr.lt k hk).1)
      rw [List.append_assoc, hbt.out] at hown5
      go_wp2_with fail
      go_roundw
      case rel => exact ⟨i + 1, p2 + 1, A5, c5, rfl, by go_num, hlt8, by show p2 + 1 = L1.length + (i + 1); have := hp2.out; omega, hpc5, hcm5, hown5, hbr5⟩
      case measure => simp [intOf]; omega
     ·have hi8 : i = 8 := by omega
      have hpad := Lib.hid (show L1 ++ (be64 (8 * m.length % 18446744073709551616)).take i = padding m.length by rw [hi8, HL1.out, padding, HJ.out, HRR.out]; rfl)
      rw [hpad.out] at howr
      have hplen := Lib.hid (show p2 = (padding m.length).length by rw [← hpad.out, List.length_append, hp2.out]; simp [be64]; omega)
      have hge8 : ((i : Int) < 8) = False := by simp; omega
      obtain ⟨A3, c3, he3, hA3, _, _, hrd3⟩ := row_form2 howr
      injection he3 with he3 _ he4
      subst he3
      subst he4
      have hoff3 : Off A2 (padding m.length) g3 := by
       rcases hA3 with rfl | ⟨b, rfl⟩
       ·exact .inr fun ad h => by cases h
       ·exact .inr fun ad h => by
         injection h with h
         subst h
         have := (howr.lt b rfl).1
         show b ≠ g3
         omega
      have hlim3 : Lim 256 (padding m.length) := padding_lim _
      have hM3 := hM.out.below' hbr
      have hpb : (padding m.length).length < 80 := by rw [← hplen.out]; exact hp2l
      clear hi8
      go_wp2_with fail
      refine (write_any g3 (.slice A4 lf.length c4) A2 p2 c2 m (padding m.length) 0 _ (.inl hM3) hplen.out hrd3 hlim3 hoff3 (by omega)).mono ?_
      rintro e w6 ⟨rfl, v6, hM6, hbut6, _⟩
      go_wp2_with fail
      have hbA : Below w1.heap.size w1 w6 := But.below (hbx.trans (hbr.mono hbx.size)) hbut6 (Nat.le_trans hbx.size hbr.size) (by
       intro k hk
       rcases hk with rfl | hk
       ·exact hk3
       ·exact hown4 k hk)
      have hC65 := hM6.2.2.1
      obtain ⟨HH, hHH⟩ : ∃ HH, HH = hashed (m ++ padding m.length) := ⟨_, rfl⟩
      have hH8 := Lib.hid (show HH.length = 8 by rw [hHH]; exact (hashed_ok _).1)
      have hHl : Lim 4294967296 HH := by rw [hHH]; exact (hashed_ok _).2
      rw [← hHH] at hC65
      have HHD := Lib.hid (show digest m = outTo HH 32 by rw [digest_eq, hHH]; rfl)
      have hMs : MstN w6 g (.slice A0 (m.length % 64) c0) m m.length := HST.out.below' hbA
      have hw26 := hw2.below hbA
      have hgr6 : w.grownBy w6 (some g) := only_trans hgr (only_of_below hbA _)
      have hg3n : g3 ≠ w.heap.size := by omega
      have hgn : g ≠ w.heap.size := by omega
      clear hHH hM6 hbut6 hbr howr hbx hw2 hgr h3 hrd3 hoff3 hM3 hrd
      go_loopw [59] (fun s wr => ∃ i : Nat, s = .int .i64 (i : Int) ∧ i ≤ 32 ∧ Whl .u8 49 wr w.heap.size (pad 32 (outTo HH i)) ∧ Cut wr g3 65 (ints .u32 HH) ∧ MstN wr g (.slice A0 (m.length % 64) c0) m m.length ∧ w.grownBy wr (some g)) (fun s _ => 32 - (intOf s).toNat)
      case atStart => exact ⟨0, rfl, by omega, hw26, hC65, hMs, hgr6⟩
      case round =>
       clear hw26 hC65 hMs hgr6
       obtain ⟨i, rfl, hi32, hw26, hC65, hMs, hgr6⟩ := hrel
       by_cases hlt32 : i < 32
       ·obtain ⟨x, hx⟩ := get_of_lt (xs := HH) (i := i / 4) (by rw [hH8.out]; omega)
        have q1 := hC65.cell (ints_get hx)
        obtain ⟨y, hy⟩ : ∃ y, y = x / 2 ^ (24 - 8 * (i % 4)) % 256 := ⟨_, rfl⟩
        have hv := Lib.hid (show ((y : Nat) : Int) = (x : Int) / 2 ^ (24 - 8 * (i % 4)) % 256 by rw [hy]; push_cast; rfl)
        have HS := Lib.hid (show outTo HH (i + 1) = outTo HH i ++ [y] by rw [outTo_succ, List.getD_eq_getElem?_getD, hx, hy]; rfl)
        have hpl : (outTo HH i).length < 32 := by rw [outTo_length]; exact hlt32
        have hat := pad_at hpl
        rw [outTo_length] at hat
        have q3 := hw26.blk.cell hat
        have q4 := hw26.blk.frozen hat
        clear hx hy hat hpl
        go_wp2_with fail
        go_roundw
        case rel =>
         refine ⟨i + 1, by go_num, by omega, ?_, hC65.far (p := ⟨w.heap.size, i, none⟩) hg3n _, mst_far hMs hgn hvlt0 i _, only_set hgr6 (p := ⟨w.heap.size, i, none⟩) (Or.inr (Nat.le_refl _)) _⟩
         have h := hw26.set i y
         have h7 := pad_set (n := 32) (l := outTo HH i) (by rw [outTo_length]; exact hlt32) y
         rw [outTo_length] at h7
         rw [h7, ← HS.out, hv.out] at h
         exact h
        case measure => simp [intOf]; omega
       ·obtain rfl : i = 32 := by omega
        rw [pad_full (outTo_length HH 32), ← HHD.out] at hw26
        have hdl := Lib.hid (digest_length m)
        obtain ⟨D, hD⟩ : ∃ D, D = digest m := ⟨_, rfl⟩
        have hDl := Lib.hid (show D.length = 32 by rw [hD]; exact digest_length m)
        rw [← hD] at hw26
        have HD := Lib.hid hD
        clear hD HHD hC65
        go_wp2_with (first | (refine wpList_load_whl rfl 49 (.tmp 2) rfl w.heap.size rfl .u8 _ D hw26 _ Tryz.underlying49 rfl (by rw [hDl.out]; exact size_32u8_s) ?_) | (refine wpList_store_whl rfl 49 (.tmp 2) (.tmp 76) rfl w.heap.size .u8 _ D D rfl rfl hw26 rfl (by rw [hDl.out]; exact size_32u8_s) ?_; intro w7 hw7 hg7 hs7))
        refine bodyPost_ret (v := .agg (ints .u8 D).toArray) (results_whl rfl _ _ w.heap.size .u8 _ D _ rfl hw7 Tryz.underlying49 rfl (by rw [hDl.out]; exact size_32u8_s)) rfl ⟨?_, ?_, ?_⟩
        ·rw [HD.out]
        ·exact mst_grown hMs hg7 hgn hvlt0
        ·exact grown_new hgr6 hg7 (Nat.le_refl _)
end Go.Proofs.YtchaahnhpeoomaaGreat
namespace Go.Proofs.YtchaahnhpeoomaaGreat
set_option linter.unusedVariables false
set_option linter.unusedSimpArgs false
set_option maxRecDepth 20000
open Go.RowKit
set_option maxRecDepth 100000 in
set_option maxHeartbeats 800000 in
theorem shaSum_any (A : Option Addr) (n c : Nat) (b : List Nat) (w : World) (hn : n = b.length) (hl : n ≤ 1099511627776) (hb : Rd .u8 w A b) (lb : Lim 256 b) :
  Calls Tryz.prog 61 #[.slice A n c] w (GivesArr .u8 (digest b) w) := by
 subst hn
 obtain ⟨D, hD⟩ : ∃ D, D = digest b := ⟨_, rfl⟩
 have hDl := Lib.hid (show D.length = 32 by rw [hD]; exact digest_length b)
 rw [← hD]
 have HD := Lib.hid hD
 clear hD
 go_enter Tryz.func61, Tryz.ntmps61
 go_wp2_with fail
 have hw2 : Whl .u8 49 (w.alloc (.cells (ints .u8 (List.replicate 32 0)).toArray 49)) w.heap.size (List.replicate 32 0) := whl_new0 w _
 have hba : Below w.heap.size w (w.alloc (.cells (ints .u8 (List.replicate 32 0)).toArray 49)) := (Below.refl _ _).alloc (Nat.le_refl _) _
 change Calls _ _ _ (w.alloc (.cells (ints .u8 (List.replicate 32 0)).toArray 49)) _
 generalize w.alloc (.cells (ints .u8 (List.replicate 32 0)).toArray 49) = wa at *
 refine (new_any _).mono ?_
 have hltw := hw2.lt
 rintro e w1 ⟨g, v, rfl, hg, rfl, hM, hb1⟩
 replace hw2 := hw2.below hb1
 have hwg : w.heap.size < g := Nat.lt_of_lt_of_le hltw hg
 have hra : Rd .u8 w1 A b := (hb.below hba).below hb1
 have hbel : Below w.heap.size w w1 := hba.trans (hb1.mono hba.size)
 clear hba hb1
 go_wp2_with fail
 refine (write_any g (.slice none 0 0) A b.length c [] b 0 _ (.inl hM) rfl hra lb (Off.new hb (by omega)) (by simp; omega)).mono ?_
 rintro e w2 ⟨rfl, v2, hM2, hbut, _⟩
 replace hw2 := hw2.keep (hbut.2.2.2.2 _ hw2.lt (by
  rintro (h | h)
  ·omega
  ·cases h))
 have hbel2 : Below w.heap.size w w2 := But.below hbel hbut hbel.size (by
  intro k hk
  rcases hk with rfl | hk
  ·omega
  ·cases hk)
 rw [List.nil_append, Nat.zero_add] at hM2
 clear hM hbut hra hbel
 go_wp2_with fail
 refine (stateSum_any g v2 b _ (.inl hM2) hl).mono ?_
 rintro e w3 ⟨he, hM3, hg3⟩
 rw [← HD.out] at he
 subst he
 replace hw2 := hw2.grown hg3 (by simp; omega)
 have hbel3 := below_only hbel2 hg3 hbel2.size (by omega)
 clear hM2 hM3 hg3 hbel2
 go_wp2_with (refine wpList_store_whl rfl 49 (.tmp 2) (.tmp 9) rfl w.heap.size .u8 _ (List.replicate 32 0) D rfl rfl hw2 hDl.out size_32u8_s ?_; intro w7 hw7 hg7 hs7)
 exact bodyPost_ret (v := .agg (ints .u8 D).toArray) (results_whl rfl _ _ w.heap.size .u8 _ D _ rfl hw7 Tryz.underlying49 rfl (by rw [hDl.out]; exact size_32u8_s)) rfl ⟨by rw [HD.out], below_only hbel3 hg7 hbel3.size (Nat.le_refl _)⟩
end Go.Proofs.YtchaahnhpeoomaaGreat
namespace Go.Proofs.YtchaahnhpeoomaaGreat
set_option linter.unusedVariables false
set_option linter.unusedSimpArgs false
set_option maxRecDepth 20000
open Go.RowKit
end Go.Proofs.YtchaahnhpeoomaaGreat
namespace Go.Proofs.YtchaahnhpeoomaaGreat
set_option linter.unusedVariables false
set_option linter.unusedSimpArgs false
set_option maxRecDepth 20000
open Go.RowKit
end Go.Proofs.YtchaahnhpeoomaaGreat
namespace Go.Proofs.YtchaahnhpeoomaaGreat
set_option linter.unusedVariables false
set_option linter.unusedSimpArgs false
set_option maxRecDepth 20000
open Go.RowKit
def cutAddr (A : Option Addr) (p c : Nat) : Option Addr := if c = p then A else A.map fun a => a.add p
theorem elem_u8 : Tryz.prog.underlying 22 = some (.slice (Tryz.prog.elem 22)) := by kernel_rfl
theorem size_u8_s (w : World) : (sizeOf (Tryz.prog.elem 22)).run Tryz.prog w = .ok 1 w := by kernel_rfl
theorem slice_lh (A : Option Addr) (n c p t : Nat) (h1 : p ≤ t) (h2 : t ≤ c) (w : World) :
  (Instr.sliceAt 22 (.slice A n c) (some (.int .i64 (p : Int))) (some (.int .i64 (t : Int))) none).run Tryz.prog w = .ok (.slice (cutAddr A p c) (t - p) (c - p)) w := by
 rw [run_sliceAt_slice _ _ _ _ _ _ elem_u8, run_slice_lh _ _ _ _ _ elem_u8 _ _ _ _ (by omega) (by omega) (by omega), size_u8_s]
 simp [Result.andThen, sliced, cutAddr]
theorem rd_cut {k : IntKind} {w : World} {A : Option Addr} {b : List Nat} (h : Rd k w A b) (p c : Nat) (hc : b.length ≤ c) : Rd k w (cutAddr A p c) (b.drop p) := by
 unfold cutAddr
 split
 ·rename_i h1
  exact .inl (List.drop_eq_nil_of_le (by omega))
 ·rcases h with rfl | ⟨bb, o, rfl, h1, h2⟩
  ·exact .inl (by simp)
  ·have := rd_drop (.inr ⟨bb, o, rfl, h1, h2⟩ : Rd k w (some ⟨bb, o, none⟩) b) p
   rw [Option.map_some, Addr.add_mid]
   exact this
end Go.Proofs.YtchaahnhpeoomaaGreat
namespace Go.Proofs.YtchaahnhpeoomaaGreat
set_option linter.unusedVariables false
set_option linter.unusedSimpArgs false
set_option maxRecDepth 20000
open Go.RowKit
def bstr_s (xs : List Nat) : ByteArray := strOfNums (xs.map fun (x : Nat) => (x : Int))
theorem bstr_list_s (xs : List Nat) : (bstr_s xs).toList = xs.map fun x => UInt8.ofNat x := by
 unfold bstr_s strOfNums
 simp [ByteArray.toList_eq]
theorem bstr_eq_s {xs ys : List Nat} (lx : Lim 256 xs) (ly : Lim 256 ys) : ((bstr_s xs).toList == (bstr_s ys).toList) = decide (xs = ys) := by
 rw [Bool.eq_iff_iff, beq_iff_eq, decide_eq_true_eq, bstr_list_s, bstr_list_s]
 constructor
 ·intro h
  have h2 := congrArg (List.map UInt8.toNat) h
  rw [List.map_map, List.map_map] at h2
  have e : ∀ zs : List Nat, Lim 256 zs → zs.map (UInt8.toNat ∘ fun x => UInt8.ofNat x) = zs := by
   intro zs lz
   refine (List.map_congr_left (g := id) fun x hx => ?_).trans (List.map_id _)
   have := lz x hx
   simp
   omega
  rwa [e xs lx, e ys ly] at h2
 ·rintro rfl
  rfl
theorem conv_str_s (A : Option Addr) (n c : Nat) (xs : List Nat) (w : World) (hn : n = xs.length) (hx : Rd .u8 w A xs) : (convert 22 9 (.slice A n c)).run Tryz.prog w = .ok (.string (bstr_s xs)) w := by
 subst hn
 rcases A with _ | ad
 ·have h0 : xs = [] := by
   rcases hx with h | ⟨b, o, h, _⟩
   ·exact h
   ·cases h
  subst h0
  exact run_convert_bytes_nil w 22 5 Tryz.underlying22 Tryz.underlying5 _ _ 9 Tryz.underlying9
 ·rcases Nat.eq_zero_or_pos xs.length with h0 | h0
  ·have h1 : xs = [] := List.eq_nil_of_length_eq_zero h0
   subst h1
   have h9 := run_bytesToString (P := Tryz.prog) w ad 0 c [] (by simp [loadCells, loadCellsFrom])
   exact (run_convert_bytes_string w 22 9 5 _ _ _ Tryz.underlying22 Tryz.underlying5 Tryz.underlying9).trans h9
  ·obtain ⟨x, hx0⟩ := get_of_lt (xs := xs) (i := 0) h0
   obtain ⟨b, o, he, _, hc⟩ := hx.pos hx0
   injection he with he
   subst he
   refine run_convert_bytes_arg w 22 5 Tryz.underlying22 Tryz.underlying5 b o _ _ _ (by simp) (fun i hi => ?_) 9 Tryz.underlying9
   obtain ⟨y, hy⟩ := get_of_lt hi
   rw [hc i y hy, List.getD_eq_getElem?_getD, List.getElem?_map, hy]
   rfl
theorem eqBytes_any (A B : Option Addr) (n m c d : Nat) (xs ys : List Nat) (w : World) (hn : n = xs.length) (hm : m = ys.length) (hx : Rd .u8 w A xs) (hy : Rd .u8 w B ys) (lx : Lim 256 xs) (ly : Lim 256 ys) :
  Calls Tryz.prog 37 #[.slice A n c, .slice B m d] w (RetB_s (decide (xs = ys)) w) := by
 have h1 := conv_str_s A n c xs w hn hx
 have h2 := conv_str_s B m d ys w hm hy
 have h3 := Lib.hid (bstr_eq_s lx ly)
 generalize bstr_s xs = X at *
 generalize bstr_s ys = Y at *
 clear hn hm
 go_enter Tryz.func37, Tryz.ntmps37
 go_wp2_with fail
 go_ret
 exact ⟨ret_bool h3.out, rfl⟩
set_option maxHeartbeats 400000 in
theorem copyBytes_any (A : Option Addr) (n c : Nat) (xs : List Nat) (w : World) (hn : n = xs.length) (hl : n ≤ 1099511627776) (hx : Rd .u8 w A xs) :
  Calls Tryz.prog 38 #[.slice A n c] w (ClonePost xs w) := by
 subst hn
 go_enter Tryz.func38, Tryz.ntmps38
 go_wp2_with (at_builtin; refine wpList_append_ints _ rfl (.tmp 4) (.tmp 5) _ rfl w.heap.size 5 .u8 1 Tryz.underlying22 info_u8 _ 0 [] rfl (World.ownsRow_nil _ _ _ _) _ _ _ xs rfl rfl hx ?_ ?_ ?_ ?_)
 ·simp only [maxLen]; omega
 ·omega
 ·exact Nat.le_refl _
 ·intro v' w1 hown hgrow
  obtain ⟨A', c', rfl, _⟩ := row_form hown
  go_wp2_with fail
  go_ret
  exact ⟨A', c', rfl, hown, (Below.refl _ _).grown hgrow (Nat.le_refl _) (fun j hj => by cases hj)⟩
end Go.Proofs.YtchaahnhpeoomaaGreat
