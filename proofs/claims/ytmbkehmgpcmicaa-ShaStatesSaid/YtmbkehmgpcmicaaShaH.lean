/-
  Bytes written to a state (Write).
-/
import Derived.Test.YtmbkehmgpcmicaaShaG
namespace Go.Proofs.Ytmbkehmgpcmicaa
set_option linter.unusedVariables false
set_option linter.unusedSimpArgs false
open Go.RowKit

/-- What has turned: only such blocks, and what is new. -/
def But (w w' : World) (S : Nat → Prop) : Prop := w'.os = w.os ∧ w'.tape = w.tape ∧ w'.output = w.output ∧ w.heap.size ≤ w'.heap.size ∧ ∀ k, k < w.heap.size → ¬ S k → w'.heap[k]? = w.heap[k]?
theorem But.of_grown {w w' : World} {row : Option Nat} {S : Nat → Prop} (h : w.grownBy w' row) (hS : ∀ k, row = some k → S k) : But w w' S :=
  ⟨h.os, h.tape, h.output, h.size, fun k hk hn => h.block k hk (fun e => hn (hS k e.symm))⟩
theorem But.of_below {w w' : World} {S : Nat → Prop} (h : Below w.heap.size w w') : But w w' S := ⟨h.os, h.tape, h.output, h.size, fun k hk _ => h.block k hk⟩
theorem But.trans {a b c : World} {S : Nat → Prop} (h : But a b S) (k : But b c S) : But a c S :=
  ⟨k.1.trans h.1, k.2.1.trans h.2.1, k.2.2.1.trans h.2.2.1, Nat.le_trans h.2.2.2.1 k.2.2.2.1, fun i hi hn => (k.2.2.2.2 i (Nat.lt_of_lt_of_le hi h.2.2.2.1) hn).trans (h.2.2.2.2 i hi hn)⟩
theorem But.mono {a b : World} {S T : Nat → Prop} (h : But a b S) (hS : ∀ k, k < a.heap.size → S k → T k) : But a b T :=
  ⟨h.1, h.2.1, h.2.2.1, h.2.2.2.1, fun i hi hn => h.2.2.2.2 i hi (fun hs => hn (hS i hi hs))⟩
theorem But.size {a b : World} {S : Nat → Prop} (h : But a b S) : a.heap.size ≤ b.heap.size := h.2.2.2.1
theorem But.below {B : Nat} {a b c : World} {S : Nat → Prop} (h : Below B a b) (k : But b c S) (hB : B ≤ b.heap.size) (hS : ∀ i, S i → B ≤ i) : Below B a c :=
  ⟨k.1.trans h.os, k.2.1.trans h.tape, k.2.2.1.trans h.output, Nat.le_trans h.size k.size, fun i hi => (k.2.2.2.2 i (Nat.lt_of_lt_of_le hi hB) (fun hs => by have := hS i hs; omega)).trans (h.block i hi)⟩

theorem row_form2 {w : World} {B : Nat} {e : TypeId} {k : IntKind} {v : Value} {n : Nat} {xs : List Nat} (h : w.ownsRow B e 1 v n (ints k xs)) : ∃ A c, v = .slice A n c ∧ (A = none ∨ ∃ b, A = some ⟨b, 0, none⟩) ∧ n ≤ c ∧ c ≤ maxLen ∧ Rd k w A xs := by
  obtain ⟨A, c, h1, h2, h3, h4, h5⟩ := row_form h
  refine ⟨A, c, h1, ?_, h3, h4, h5⟩
  rcases h.2 with ⟨hv, _⟩ | ⟨b, cap, cur, hv, _⟩
  · rw [h1] at hv; injection hv with hv; exact .inl hv
  · rw [h1] at hv; injection hv with hv; exact .inr ⟨b, hv⟩
theorem off_of {w : World} {g : Nat} {A : Option Addr} {xs : List Nat} (hA : A = none ∨ ∃ b, A = some ⟨b, 0, none⟩) (hr : Rd .u8 w A xs) (hc : Cut w g 0 [.bool true]) : Off A xs g := by
  rcases hr with rfl | ⟨b, off, rfl, hb, hcl⟩
  · exact .inl rfl
  · rcases hA with hA | ⟨b', hA⟩
    · cases hA
    · injection hA with hA
      injection hA with h1 h2
      subst h2
      rcases xs with _ | ⟨x, xs⟩
      · exact .inl rfl
      · refine .inr fun ad had => ?_
        injection had with had
        subst had
        rintro rfl
        have h3 := hcl 0 x rfl
        have h4 := hc.cell (i := 0) rfl
        rw [h3] at h4
        injection h4 with h4
        cases h4
theorem rd_drop {k : IntKind} {w : World} {b o : Nat} {xs : List Nat} (h : Rd k w (some ⟨b, o, none⟩) xs) (n : Nat) : Rd k w (some ⟨b, o + n, none⟩) (xs.drop n) := by
  rcases h with rfl | ⟨b', o', he, hb, hc⟩
  · exact .inl (by simp)
  · injection he with he
    injection he with h1 h2
    subst h1
    subst h2
    exact .inr ⟨b, o + n, rfl, hb, fun i x hx => by rw [Nat.add_assoc]; exact hc (n + i) x (by rwa [List.getElem?_drop] at hx)⟩
theorem off_drop {b o g : Nat} {xs : List Nat} (h : Off (some ⟨b, o, none⟩) xs g) (n : Nat) : Off (some ⟨b, o + n, none⟩) (xs.drop n) g := by
  rcases h with rfl | h
  · exact .inl (by simp)
  · refine .inr fun ad had => ?_
    injection had with had
    subst had
    exact h ⟨b, o, none⟩ rfl
theorem own_zero {w : World} {B : Nat} {e : TypeId} {v : Value} {n : Nat} {xs : List Value} (h : w.ownsRow B e 1 v n xs) : w.ownsRow 0 e 1 v n xs := by
  refine ⟨h.1, ?_⟩
  rcases h.2 with h | ⟨g, cap, cur, h1, _, h2⟩
  · exact .inl h
  · exact .inr ⟨g, cap, cur, h1, Nat.zero_le _, h2⟩
def sliceLen : Value → Nat
  | .slice _ n _ => n
  | _ => 0

def WritePost (g : Nat) (v : Value) (m : List Nat) (z : Nat) (w : World) (e : Ending) (w' : World) : Prop :=
  e = .returned (.tuple #[]) ∧ ∃ v', MstN w' g v' m z ∧ But w w' (fun k => k = g ∨ v.ownBlock = some k) ∧ ∀ j, v'.ownBlock = some j → w.heap.size ≤ j

set_option maxRecDepth 100000 in
set_option maxHeartbeats 3200000 in
theorem write_any (g : Nat) (v : Value) (A : Option Addr) (n c : Nat) (m b : List Nat) (z : Nat) (w : World) (hs : StN w g v m z) (hn : n = b.length) (hb : Rd .u8 w A b) (lb : Lim 256 b) (ho : Off A b g) (hm : m.length + n ≤ 2199023255552) :
    Calls Try.prog 20 #[.pointer (some ⟨g, 0, none⟩), .slice A n c] w (WritePost g v (m ++ b) (z + n) w) := by
  subst hn
  go_enter Try.func20, Try.ntmps20
  go_wp2_with fail
  refine (made_any g v m z _ hs).mono ?_
  rintro e w1 ⟨rfl, hst, hg1⟩
  have hb1 : Rd .u8 w1 A b := hb.grown hg1 (by intro j hj; injection hj with hj; rw [← hj]; exact ho)
  have hbut1 : But w w1 (fun k => k = g ∨ v.ownBlock = some k) := But.of_grown hg1 (by intro k hk; injection hk with hk; exact .inl hk.symm)
  have hvlt := hs.own_lt
  clear hs hg1
  obtain ⟨h0, h1, h2, h3, h4, h5, h6, h7, hzm⟩ := hst
  obtain ⟨A0, c0, rfl, hr, hrc, hcm, _⟩ := row_form h4
  generalize m.length % 64 = r at *
  have q1 : w1.cell? ⟨g, 73, none⟩ = some (.slice A0 r c0) := h3.cell (i := 0) rfl
  have q2 : w1.cell? ⟨g, 74, none⟩ = some (.int .u64 (z : Int)) := h3.cell (i := 1) rfl
  have q3 : w1.frozen? ⟨g, 74, none⟩ = false := h3.frozen (i := 1) rfl
  have HR := Lib.hid hr
  have hrl : r < 64 := by rw [hr, left_length]; omega
  clear hr hrc
  go_wp2_with (at_builtin; refine wpList_append_ints _ rfl (.tmp 22) (.tmp 23) _ rfl 0 5 .u8 1 Try.underlying22 info_u8 (.slice A0 r c0) r (left m) rfl (h4.kept (only_set (only_refl w1 (some g)) (p := ⟨g, 74, none⟩) (Or.inl rfl) _) (Or.inr h5)) A _ c b rfl rfl (hb1.setCell (p := ⟨g, 74, none⟩) ho _) (by simp only [maxLen]; omega) (by omega) (Nat.zero_le _) ?_; intro v3 w3 hown hgrow _)
  obtain ⟨A1, c1, rfl, hA1, hc1, hm1, hr1⟩ := row_form2 hown
  have hbut2 : But w1 (w1.setCell ⟨g, 74, none⟩ (.int .u64 ((z : Int) + (b.length : Int)))) (fun k => k = g ∨ (Value.slice A0 r c0).ownBlock = some k) := But.of_grown (only_set (only_refl w1 (some g)) (p := ⟨g, 74, none⟩) (Or.inl rfl) _) (by intro k hk; injection hk with hk; exact .inl hk.symm)
  have hbut3 := (hbut1.trans hbut2).trans (But.of_grown hgrow (fun k hk => .inr hk))
  have h0' := (h0.apart (p := ⟨g, 74, none⟩) (Or.inr (Or.inr (by simp))) (.int .u64 ((z : Int) + (b.length : Int)))).grown hgrow h5
  have h1' := (h1.apart (p := ⟨g, 74, none⟩) (Or.inr (Or.inr (by rw [ints_length, K64_length]; show 1 + 64 ≤ 74; omega))) (.int .u64 ((z : Int) + (b.length : Int)))).grown hgrow h5
  have h2' := (h2.apart (p := ⟨g, 74, none⟩) (Or.inr (Or.inr (by rw [ints_length, (hashed_ok m).1]; show 65 + 8 ≤ 74; omega))) (.int .u64 ((z : Int) + (b.length : Int)))).grown hgrow h5
  have h3' := (h3.set (i := 1) rfl (.int .u64 ((z : Int) + (b.length : Int)))).grown hgrow h5
  have hoff := off_of hA1 hr1 h0'
  clear hbut1 hbut2 hgrow h0 h1 h2 h3 h4 hb1 ho q1 q2 q3 hb
  obtain ⟨al, hal⟩ : ∃ al, al = left m ++ b := ⟨_, rfl⟩
  rw [← hal] at hr1 hown hoff
  have HAL := Lib.hid hal
  have hall := Lib.hid (show al.length = r + b.length by rw [hal, List.length_append, HR.out])
  have hlal : Lim 256 al := by rw [hal]; exact (left_lim h6).append lb
  obtain ⟨hs0, hhs0⟩ : ∃ hs0, hs0 = hashed m := ⟨_, rfl⟩
  have hs8 := Lib.hid (show hs0.length = 8 by rw [hhs0]; exact (hashed_ok m).1)
  have hsl : Lim 4294967296 hs0 := by rw [hhs0]; exact (hashed_ok m).2
  rw [← hhs0] at h2'
  have HHS := Lib.hid hhs0
  clear hal hhs0 hown
  go_wp2_with fail
  go_loopw [4] (fun s wr => ∃ k xs A c, s = .slice A xs.length c ∧ Hid (xs = al.drop (64 * k)) ∧ Hid (64 * k + xs.length = al.length) ∧ xs.length ≤ c ∧ c ≤ 9223372036854775807 ∧ Rd .u8 wr A xs ∧ Off A xs g ∧ Cut wr g 0 [.bool true] ∧ Cut wr g 1 (ints .u32 K64) ∧ Cut wr g 65 (ints .u32 (blocks hs0 al k)) ∧ Cut wr g 73 ([Value.slice A0 r c0, Value.int .u64 (z : Int)].set 1 (.int .u64 ((z : Int) + (b.length : Int)))) ∧ But w3 wr (fun k => k = g)) (fun s _ => sliceLen s)
  case atStart => exact ⟨0, al, A1, c1, by rw [hall.out], rfl, by show 64 * 0 + al.length = al.length; omega, by rw [hall.out]; exact hc1, by simpa [maxLen] using hm1, hr1, hoff, h0', h1', h2', h3', But.of_below (Below.refl _ _)⟩
  case round =>
    clear hr1 hoff h0' h1' h2' h3'
    obtain ⟨k, xs, A2, c2, rfl, hxs, hkl, hxc, hcm2, hrd, hoff, h0, h1, h2, h3, hbut⟩ := hrel
    by_cases hge : 64 ≤ xs.length
    · obtain ⟨x0, hx0⟩ := get_of_lt (xs := xs) (i := 0) (by omega)
      obtain ⟨bb, o, rfl, _, _⟩ := hrd.pos hx0
      have hlx : Lim 256 xs := by rw [hxs.out]; exact hlal.drop _
      have hb64 : (xs.take 64).length = 64 := by rw [List.length_take]; omega
      have hbk := blocks_ok hs8.out hsl al k
      obtain ⟨hv, hhv⟩ : ∃ hv, hv = blocks hs0 al k := ⟨_, rfl⟩
      rw [← hhv] at h2 hbk
      have hbl := blocks_ok hs8.out hsl al (k + 1)
      obtain ⟨O, hO⟩ : ∃ O, O = blocks hs0 al (k + 1) := ⟨_, rfl⟩
      have HO := Lib.hid (show compress hv (xs.take 64) = O by rw [hO, hhv, hxs.out]; rfl)
      have HO2 := Lib.hid hO
      rw [← hO] at hbl
      have hO8 := Lib.hid hbl.1
      have hv8 := Lib.hid hbk.1
      have hvl := hbk.2
      have hbeh := Lib.hid (fun w (hK : Cut w g 1 (ints .u32 K64)) (hH : Cut w g 65 (ints .u32 hv)) (hR : Rd .u8 w (some ⟨bb, o, none⟩) xs) => behind_any g (some ⟨bb, o, none⟩) c2 hv (xs.take 64) w hK hH hvl (hR.take 64) hv8.out hb64 (hlx.take 64) (by omega) hcm2)
      clear hx0 hb64 hbk hbl hO hhv
      have hcc : 64 ≤ c2 := by omega
      by_cases hc64 : c2 = 64
      · have hx64 : xs.length = 64 := by omega
        have HX := Lib.hid hx64
        clear hx64
        subst hc64
        go_wp2_with fail
        refine (hbeh.out _ h1 h2 hrd).mono ?_
        rw [HO.out]
        rintro e w4 ⟨rfl, hb4⟩
        replace hrd := hrd.below hb4
        replace h0 := h0.below hb4
        replace h1 := h1.below hb4
        replace h2 := h2.below hb4
        replace h3 := h3.below hb4
        have hbut' := hbut.trans (But.of_below hb4)
        clear hb4 hbut
        go_wp2_with (refine wpList_store_cut rfl 34 (.tmp 34) (.tmp 32) rfl g 65 (ints .u32 O) (ints .u32 hv) rfl rfl h2 (by rw [ints_length, ints_length, hO8.out, hv8.out]) (by rw [ints_length, hO8.out]; exact size_8u32) (ints_one _ _) ?_; intro w5 hst5)
        have h0'' := hst5.2.2.2 0 _ h0 (Or.inl (by simp))
        have h1'' := hst5.2.2.2 1 _ h1 (Or.inl (by rw [ints_length, K64_length]; omega))
        have h2'' := hst5.2.2.1
        have h3'' := hst5.2.2.2 73 _ h3 (Or.inr (by rw [ints_length, hO8.out]; omega))
        have hrd'' := hrd.grown hst5.1 (by intro j hj; injection hj with hj; rw [← hj]; exact hoff)
        have hbut'' := hbut'.trans (But.of_grown hst5.1 (by intro j hj; injection hj with hj; exact hj.symm))
        clear hst5 h0 h1 h2 h3 hrd hbut'
        go_roundw
        case rel =>
          refine ⟨k + 1, [], some ⟨bb, o, none⟩, 0, rfl, ?_, ?_, Nat.le_refl _, by omega, Rd.nil _ _ _, Or.inl rfl, h0'', h1'', by rw [← HO2.out]; exact h2'', h3'', hbut''⟩
          · exact (List.drop_eq_nil_of_le (by have := hkl.out; have := HX.out; omega)).symm
          · show 64 * (k + 1) + 0 = al.length
            have := hkl.out
            have := HX.out
            omega
        case measure => show 0 < xs.length; have := HX.out; omega
      · go_wp2_with fail
        refine (hbeh.out _ h1 h2 hrd).mono ?_
        rw [HO.out]
        rintro e w4 ⟨rfl, hb4⟩
        replace hrd := hrd.below hb4
        replace h0 := h0.below hb4
        replace h1 := h1.below hb4
        replace h2 := h2.below hb4
        replace h3 := h3.below hb4
        have hbut' := hbut.trans (But.of_below hb4)
        clear hb4 hbut
        go_wp2_with (refine wpList_store_cut rfl 34 (.tmp 34) (.tmp 32) rfl g 65 (ints .u32 O) (ints .u32 hv) rfl rfl h2 (by rw [ints_length, ints_length, hO8.out, hv8.out]) (by rw [ints_length, hO8.out]; exact size_8u32) (ints_one _ _) ?_; intro w5 hst5)
        have h0'' := hst5.2.2.2 0 _ h0 (Or.inl (by simp))
        have h1'' := hst5.2.2.2 1 _ h1 (Or.inl (by rw [ints_length, K64_length]; omega))
        have h2'' := hst5.2.2.1
        have h3'' := hst5.2.2.2 73 _ h3 (Or.inr (by rw [ints_length, hO8.out]; omega))
        have hrd'' := hrd.grown hst5.1 (by intro j hj; injection hj with hj; rw [← hj]; exact hoff)
        have hbut'' := hbut'.trans (But.of_grown hst5.1 (by intro j hj; injection hj with hj; exact hj.symm))
        clear hst5 h0 h1 h2 h3 hrd hbut'
        go_roundw
        case rel =>
          refine ⟨k + 1, xs.drop 64, some ⟨bb, o + 64, none⟩, c2 - 64, by rw [List.length_drop], ?_, ?_, by rw [List.length_drop]; omega, by omega, rd_drop hrd'' 64, off_drop hoff 64, h0'', h1'', by rw [← HO2.out]; exact h2'', h3'', hbut''⟩
          · show xs.drop 64 = al.drop (64 * (k + 1))
            rw [hxs.out, List.drop_drop, Nat.mul_add]
          · show 64 * (k + 1) + (xs.drop 64).length = al.length
            have := hkl.out
            rw [List.length_drop]
            omega
        case measure => show xs.length - 64 < xs.length; omega
    · have hle := Lib.hid (show blocks hs0 al k = hashed (m ++ b) by rw [hashed_append, ← HAL.out, ← HHS.out, show al.length / 64 = k from by have := hkl.out; omega])
      have hlf := Lib.hid (show left (m ++ b) = xs by rw [left_append, ← HAL.out, show al.length / 64 = k from by have := hkl.out; omega, ← hxs.out])
      have q1 := h3.cell (i := 0) rfl
      have q2 := h3.frozen (i := 0) rfl
      have hgl := h0.lt
      go_wp2_with fail
      refine (clone_any A2 xs.length c2 xs _ rfl (by omega) hrd).mono ?_
      rintro e w4 ⟨A4, c4, rfl, hown4, hb4⟩
      replace h0 := h0.below hb4
      replace h1 := h1.below hb4
      replace h2 := h2.below hb4
      replace h3 := h3.below hb4
      have q1 : w4.cell? ⟨g, 73, none⟩ = some (.slice A0 r c0) := h3.cell (i := 0) rfl
      have q2 : w4.frozen? ⟨g, 73, none⟩ = false := h3.frozen (i := 0) rfl
      have hne4 : (Value.slice A4 xs.length c4).ownBlock ≠ some g := fun e => by have := (hown4.lt g e).1; omega
      go_wp2_with fail
      go_end0
      refine ⟨rfl, .slice A4 xs.length c4, ⟨?_, ?_, ?_, ?_, ?_, hne4, h6.append lb, by rw [List.length_append]; exact hm, by rw [List.length_append]; omega⟩, ?_, ?_⟩
      · exact h0.apart (p := ⟨g, 73, none⟩) (Or.inr (Or.inr (by simp))) _
      · exact h1.apart (p := ⟨g, 73, none⟩) (Or.inr (Or.inr (by rw [ints_length, K64_length]; show 1 + 64 ≤ 73; omega))) _
      · rw [← hle.out]
        exact h2.apart (p := ⟨g, 73, none⟩) (Or.inr (Or.inr (by rw [ints_length, (blocks_ok hs8.out hsl al k).1]; exact Nat.le_refl _))) _
      · have h9 := h3.set (i := 0) rfl (.slice A4 xs.length c4)
        rw [show ((z + b.length : Nat) : Int) = (z : Int) + (b.length : Int) by omega]
        exact h9
      · rw [hlf.out, ← left_length, hlf.out]
        exact own_zero (hown4.kept (only_set (only_refl w4 (some g)) (p := ⟨g, 73, none⟩) (Or.inl rfl) _) (Or.inr hne4))
      · exact ((hbut3.trans (hbut.mono fun _ _ h => .inl h)).trans (But.of_below hb4)).trans (But.of_grown (only_set (only_refl w4 (some g)) (p := ⟨g, 73, none⟩) (Or.inl rfl) _) (by intro j hj; injection hj with hj; exact .inl hj.symm))
      · intro j hj
        have := (hown4.lt j hj).1
        have := hbut3.size
        have := hbut.size
        omega
end Go.Proofs.Ytmbkehmgpcmicaa
