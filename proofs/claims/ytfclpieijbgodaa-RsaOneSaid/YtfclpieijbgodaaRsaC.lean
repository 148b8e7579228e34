/-
  bytes.Join over what is known of its parts; the encoded message of a digest, by the program. Holds for every digest and every length.
-/
import Derived.Test.YtfclpieijbgodaaRsaA
import Derived.Test.YtfclpieijbgodaaNatC
import Derived.Lib.SlParts
namespace Go.Proofs.Ytfclpieijbgodaa
set_option linter.unusedVariables false
set_option linter.unusedSimpArgs false
open Go.RowKit

/-- Numbers as bytes. -/
def u8s (xs : List Nat) : List UInt8 := xs.map UInt8.ofNat
theorem u8s_length (xs : List Nat) : (u8s xs).length = xs.length := by simp [u8s]
theorem u8_nat {x : Nat} (h : x < 256) : (UInt8.ofNat x).toNat = x := by simp; omega
theorem u8s_get {xs : List Nat} {i : Nat} {y : UInt8} (h : (u8s xs)[i]? = some y) : ∃ x, xs[i]? = some x ∧ y = UInt8.ofNat x := by
  simp only [u8s, List.getElem?_map, Option.map_eq_some_iff] at h
  obtain ⟨x, h1, h2⟩ := h
  exact ⟨x, h1, h2.symm⟩
theorem holds_rd {w : World} {A : Option Addr} {xs : List Nat} (n c : Nat) (hn : n = xs.length) (h : Rd .u8 w A xs) (lx : Lim 256 xs) : Lib.HoldsBytes w (.slice A n c) (u8s xs) := by
  subst hn
  refine ⟨A, c, by rw [u8s_length], ?_, ?_⟩
  · rintro rfl
    rcases h with rfl | ⟨_, _, h, _⟩
    · rfl
    · cases h
  · rintro a rfl i y hy
    obtain ⟨x, hx, rfl⟩ := u8s_get hy
    obtain ⟨b, o, he, _, hc⟩ := h.pos hx
    injection he with he
    subst he
    rw [u8_nat (lx.get hx)]
    exact (congrArg _ (Lib.add_plain2 b o i)).trans (hc i x hx)
theorem bytesOf_toNat {zs : List Int} {xs : List Nat} (lx : Lim 256 xs) (hz : ∀ x ∈ zs, 0 ≤ x ∧ x < 256) (h : Lib.bytesOf zs = u8s xs) : zs = xs.map fun (x : Nat) => (x : Int) := by
  have hl : zs.length = xs.length := by
    have := congrArg List.length h
    simpa [Lib.bytesOf, u8s] using this
  apply List.ext_getElem (by simpa using hl)
  intro i h1 h2
  have e := congrArg (fun l => l[i]?) h
  have h3 : i < xs.length := by omega
  simp only [Lib.bytesOf, u8s, List.getElem?_map, List.getElem?_eq_getElem h1, List.getElem?_eq_getElem h3, Option.map_some, Option.some.injEq] at e
  have := hz _ (List.getElem_mem h1)
  have := lx _ (List.getElem_mem h3)
  have e2 := congrArg UInt8.toNat e
  simp at e2
  simp
  omega
theorem own_of_fresh {B : Nat} {w : World} {v : Value} {xs : List Nat} (lx : Lim 256 xs) (h : Lib.FreshBytes B w v (u8s xs)) : ∃ A c, v = .slice A xs.length c ∧ xs.length ≤ c ∧ c ≤ maxLen ∧ Own .u8 w B A xs := by
  obtain ⟨g, cap, zs, rfl, hB, hc, hm, hz, hr, hb, hcell, hfz⟩ := h
  rw [u8s_length] at hc hb
  have e := bytesOf_toNat lx (fun x hx => hr x (List.mem_of_mem_take hx)) hb
  refine ⟨some ⟨g, 0, none⟩, cap, by rw [u8s_length], hc, hm, ?_⟩
  rcases Nat.eq_zero_or_pos xs.length with h0 | h0
  · rw [List.eq_nil_of_length_eq_zero h0]
    exact Own.nil _ _ _ _
  · have hcells : ∀ (i x : Nat), xs[i]? = some x → w.cell? ⟨g, i, none⟩ = some (.int .u8 (x : Int)) := fun i x hx => by
      have hi := (List.getElem?_eq_some_iff.1 hx).1
      rw [hcell i (by omega)]
      have h1 : (zs.take xs.length)[i]? = some (x : Int) := by rw [e]; simp [hx]
      rw [List.getElem?_take] at h1
      rw [if_pos hi] at h1
      simp [List.getD, h1]
    obtain ⟨x0, hx0⟩ := get_of_lt h0
    exact Own.of_blk ⟨World.block_lt_of_cell? w _ (hcells 0 x0 hx0), fun i x hx => ⟨hcells i x hx, hfz i (by have := (List.getElem?_eq_some_iff.1 hx).1; omega)⟩⟩ hB
theorem joinTail_flat (rs : List (List Nat)) : Lib.joinTail [] (rs.map u8s) = u8s rs.flatten := by
  induction rs with
  | nil => rfl
  | cons r rs ih =>
    have e : Lib.joinTail [] ((r :: rs).map u8s) = u8s r ++ Lib.joinTail [] (rs.map u8s) := by simp [Lib.joinTail]
    rw [e, ih]
    simp [u8s]
theorem join_flat (rs : List (List Nat)) : Lib.join (rs.map u8s) [] = u8s rs.flatten := by
  cases rs with
  | nil => rfl
  | cons r rs =>
    rw [List.map_cons, Lib.join_cons, joinTail_flat]
    simp [u8s]
theorem lens_flat (rs : List (List Nat)) : Lib.lens (rs.map u8s) = rs.flatten.length := by
  unfold Lib.lens
  rw [List.map_map, List.length_flatten]
  congr 1
  apply List.map_congr_left
  intro x _
  simp [u8s]
theorem lim_flatten {rs : List (List Nat)} {b : Nat} (h : ∀ r ∈ rs, Lim b r) : Lim b rs.flatten := fun x hx => by
  obtain ⟨r, hr, hxr⟩ := List.mem_flatten.1 hx
  exact h r hr x hxr
/-- Slices that stand in a row of cells, and what each reads as. -/
structure Parts (w : World) (b o : Nat) (vs : List Value) (rs : List (List Nat)) : Prop where
  len : vs.length = rs.length
  cell : ∀ (i : Nat) v, vs[i]? = some v → w.cell? ⟨b, o + i, none⟩ = some v
  part : ∀ (i : Nat) v r, vs[i]? = some v → rs[i]? = some r → ∃ A c, v = .slice A r.length c ∧ Rd .u8 w A r ∧ Lim 256 r
theorem Parts.at {w : World} {b o : Nat} {vs : List Value} {rs : List (List Nat)} (h : Parts w b o vs rs) : Lib.PartsAt w ⟨b, o, none⟩ vs (rs.map u8s) := by
  refine ⟨by simpa using h.len, fun i v hv => (congrArg _ (Lib.add_plain2 b o i)).trans (h.cell i v hv), fun i v l hv hl => ?_⟩
  simp only [List.getElem?_map, Option.map_eq_some_iff] at hl
  obtain ⟨r, hr, rfl⟩ := hl
  obtain ⟨A, c, rfl, h1, h2⟩ := h.part i v r hv hr
  exact holds_rd _ _ rfl h1 h2
/-- Each of these values is a slice that reads as the row beside it. -/
def PartL (w : World) : List Value → List (List Nat) → Prop
  | [], [] => True
  | v :: vs, r :: rs => (∃ A c, v = .slice A r.length c ∧ Rd .u8 w A r ∧ Lim 256 r) ∧ PartL w vs rs
  | _, _ => False
theorem PartL.len {w : World} : ∀ {vs : List Value} {rs : List (List Nat)}, PartL w vs rs → vs.length = rs.length
  | [], [], _ => rfl
  | _ :: _, _ :: _, h => by simp [PartL.len h.2]
  | [], _ :: _, h => by cases h
  | _ :: _, [], h => by cases h
theorem PartL.get {w : World} : ∀ {vs : List Value} {rs : List (List Nat)}, PartL w vs rs → ∀ (i : Nat) v r, vs[i]? = some v → rs[i]? = some r → ∃ A c, v = .slice A r.length c ∧ Rd .u8 w A r ∧ Lim 256 r
  | [], [], _ => fun i v r hv => by simp at hv
  | x :: vs, y :: rs, h => fun i v r hv hr => by
    cases i with
    | zero =>
      simp at hv hr
      subst hv
      subst hr
      exact h.1
    | succ i => exact PartL.get h.2 i v r (by simpa using hv) (by simpa using hr)
  | [], _ :: _, h => by cases h
  | _ :: _, [], h => by cases h
theorem parts_new {w : World} (t : TypeId) {vs : List Value} {rs : List (List Nat)} (h : PartL (w.alloc (.cells vs.toArray t)) vs rs) : Parts (w.alloc (.cells vs.toArray t)) w.heap.size 0 vs rs :=
  ⟨h.len, (Cut.of_heap (o := 0) (heap_alloc_new w (.cells vs.toArray t)) fun i v hv => by simpa using hv).range, h.get⟩
theorem join_any (b o n c : Nat) (vs : List Value) (rs : List (List Nat)) (w : World) (hn : rs.length = n) (h2 : 2 ≤ n) (h3 : n ≤ 1000) (hcap : n ≤ c) (hP : Parts w b o vs rs) (hl : rs.flatten.length ≤ 70000) :
    Calls Try.prog 84 #[.slice (some ⟨b, o, none⟩) n c] w (Gives .u8 rs.flatten w) := by
  have hlim : Lim 256 rs.flatten := lim_flatten fun r hr => by
    obtain ⟨i, hi⟩ := List.mem_iff_getElem?.1 hr
    have hlt := (List.getElem?_eq_some_iff.1 hi).1
    rw [← hP.len] at hlt
    obtain ⟨_, _, _, _, h⟩ := hP.part i vs[i] r (List.getElem?_eq_getElem hlt) hi
    exact h
  have hJ := Lib.hid (Try.bytes_Join_many b o n c vs (rs.map u8s) (.slice none 0 0) [] w (by simpa using hn) h2 hP.at hcap ⟨none, 0, rfl, fun _ => rfl, fun a h => by cases h⟩ (by omega) (by rw [lens_flat]; simp only [List.length_nil, Nat.zero_mul, Nat.add_zero]; omega))
  rw [join_flat] at hJ
  clear hP hn
  generalize rs.flatten = F at *
  go_enter Try.func84, Try.ntmps84
  go_wp2_with fail
  refine hJ.out.mono ?_
  rintro e w1 ⟨v, rfl, hf, hb⟩
  obtain ⟨A, c', rfl, h4, h5, h6⟩ := own_of_fresh hlim hf
  go_wp2_with fail
  go_ret
  exact ⟨A, c', rfl, h4, h5, h6, hb⟩

/-- What stands ahead of a digest. -/
def head19 : List Nat := [48, 49, 48, 13, 6, 9, 96, 134, 72, 1, 101, 3, 4, 2, 1, 5, 0, 4, 32]
/-- The encoded message. -/
def encN (ds : List Nat) (n : Nat) : List Nat := [0, 1] ++ (List.replicate (n - 54) 255 ++ ([0] ++ (head19 ++ ds)))
def encOf (ds : List Nat) (n : Int) : List Nat × Int := if n < 62 ∨ 512 < n then ([], 1) else (encN ds n.toNat, 0)
theorem encN_flat (ds : List Nat) (n : Nat) : [[0, 1], List.replicate (n - 54) 255, [0], head19, ds].flatten = encN ds n := by simp [encN]
theorem encN_length (ds : List Nat) (n : Nat) (hd : ds.length = 32) (hn : 54 ≤ n) : (encN ds n).length = n := by
  simp [encN, head19, hd]
  omega
theorem encN_lim (ds : List Nat) (n : Nat) (hd : Lim 256 ds) : Lim 256 (encN ds n) := by
  intro x hx
  simp only [encN, List.mem_append, List.mem_replicate, List.mem_cons, List.not_mem_nil, or_false] at hx
  rcases hx with (rfl | rfl) | ⟨_, rfl⟩ | rfl | hx | hx
  · omega
  · omega
  · omega
  · omega
  · exact lim_small (b := 256) (by decide) x hx
  · exact hd x hx
set_option maxRecDepth 100000 in
set_option maxHeartbeats 1600000 in
theorem encode_any (ds : List Nat) (n : Int) (w : World) (hd : ds.length = 32) (ld : Lim 256 ds) (hi : -9223372036854775808 ≤ n ∧ n ≤ 9223372036854775807) :
    Calls Try.prog 42 #[.agg (ints .u8 ds).toArray, .int .i64 n] w (Gives2 .u8 (encOf ds n).1 (encOf ds n).2 w) := by
  by_cases h : n < 62 ∨ 512 < n
  · have HE := Lib.hid (show encOf ds n = ([], 1) by unfold encOf; rw [if_pos h])
    have hb : (decide (n < 62) || decide (512 < n)) = true := by simpa using h
    go_enter Try.func42, Try.ntmps42
    go_wp2
    all_goals go_ret2
    all_goals rw [HE.out]
    all_goals exact ⟨none, 0, rfl, Nat.le_refl _, Nat.zero_le _, Own.nil _ _ _ _, (Below.refl _ _).alloc (Nat.le_refl _) _⟩
  · obtain ⟨m, rfl⟩ : ∃ m : Nat, n = (m : Int) := ⟨n.toNat, by omega⟩
    have HE := Lib.hid (show encOf ds (m : Int) = (encN ds m, 0) by unfold encOf; rw [if_neg h]; rfl)
    have h1 : 62 ≤ m ∧ m ≤ 512 := by omega
    obtain ⟨h1, h2⟩ := h1
    clear h
    have hq : (m : Int) - 3 - 19 - 32 = ((m - 54 : Nat) : Int) := by omega
    go_enter Try.func42, Try.ntmps42
    go_wp2_with fail
    have b1 : Blk .u8 (w.alloc (Obj.cells (ints .u8 ds).toArray 49)) w.heap.size ds := blk_lit w ds _ rfl
    generalize hw1 : w.alloc (Obj.cells (ints .u8 ds).toArray 49) = w1 at *
    have s1 : w1.heap.size = w.heap.size + 1 := by rw [← hw1]; simp
    have e1 : Below w.heap.size w w1 := by rw [← hw1]; exact (Below.refl _ _).alloc (Nat.le_refl _) _
    clear hw1
    generalize hw2 : w1.alloc _ = w2 at *
    have s2 : w2.heap.size = w.heap.size + 1 + 1 := by rw [← hw2]; simp [s1]
    have b2 : Blk .u8 w2 (w.heap.size + 1) head19 := by rw [← hw2, ← s1]; exact blk_lit w1 head19 _ rfl
    have e2 : Below w1.heap.size w1 w2 := by rw [← hw2]; exact (Below.refl _ _).alloc (Nat.le_refl _) _
    have b1 := b1.below e2
    have e2 : Below w.heap.size w w2 := e1.trans (e2.mono e1.size)
    clear hw2 e1
    have hR := repeat_any (w.heap.size + 1 + 1) 1 (m - 54) 255 (w2.alloc (.cells #[.int .u8 255] 5)) (by omega) (by omega) (by rw [← s2]; simp) (by simp [s2])
    have e3 : Below w2.heap.size w2 (w2.alloc (.cells #[.int .u8 255] 5)) := (Below.refl _ _).alloc (Nat.le_refl _) _
    have b1 := b1.below e3
    have b2 := b2.below e3
    have e3 := e2.trans (e3.mono e2.size)
    have s3 : (w2.alloc (.cells #[.int .u8 255] 5)).heap.size = w.heap.size + 1 + 1 + 1 := by simp [s2]
    generalize w2.alloc (.cells #[.int .u8 255] 5) = w3 at *
    clear e2 s2
    refine hR.mono ?_
    rintro e w4 ⟨A4, c4, rfl, h4a, h4b, o4, e4⟩
    have b1 := b1.below e4
    have b2 := b2.below e4
    have e4 := e3.trans (e4.mono e3.size)
    have o4 := o4.rd
    clear hR e3 s3
    go_wp2_with fail
    generalize hw5 : w4.alloc (.cells #[.int .u8 0, .int .u8 1] 5) = w5 at *
    have s5 : w5.heap.size = w4.heap.size + 1 := by rw [← hw5]; simp
    have b5 : Blk .u8 w5 w4.heap.size [0, 1] := by rw [← hw5]; exact blk_lit w4 [0, 1] _ rfl
    have e5 : Below w4.heap.size w4 w5 := by rw [← hw5]; exact (Below.refl _ _).alloc (Nat.le_refl _) _
    have b1 := b1.below e5
    have b2 := b2.below e5
    have o4 := o4.below e5
    have e5 := e4.trans (e5.mono e4.size)
    clear hw5 e4
    have b6 : Blk .u8 (w5.alloc (.cells #[.int .u8 0] 5)) w5.heap.size [0] := blk_lit w5 [0] _ rfl
    generalize hw6 : w5.alloc (.cells #[.int .u8 0] 5) = w6 at *
    have s6 : w6.heap.size = w4.heap.size + 1 + 1 := by rw [← hw6]; simp [s5]
    rw [s5] at b6
    have e6 : Below w5.heap.size w5 w6 := by rw [← hw6]; exact (Below.refl _ _).alloc (Nat.le_refl _) _
    have b1 := b1.below e6
    have b2 := b2.below e6
    have o4 := o4.below e6
    have b5 := b5.below e6
    have e6 := e5.trans (e6.mono e5.size)
    clear hw6 e5 s5
    have e7 : Below w6.heap.size w6 (w6.alloc (.cells [.slice (some ⟨w4.heap.size, 0, none⟩) 2 2, .slice A4 (m - 54) c4, .slice (some ⟨w4.heap.size + 1, 0, none⟩) 1 1, .slice (some ⟨w.heap.size + 1, 0, none⟩) 19 19, .slice (some ⟨w.heap.size, 0, none⟩) 32 32].toArray 50)) := (Below.refl _ _).alloc (Nat.le_refl _) _
    have hP := parts_new (w := w6) 50 (vs := [.slice (some ⟨w4.heap.size, 0, none⟩) 2 2, .slice A4 (m - 54) c4, .slice (some ⟨w4.heap.size + 1, 0, none⟩) 1 1, .slice (some ⟨w.heap.size + 1, 0, none⟩) 19 19, .slice (some ⟨w.heap.size, 0, none⟩) 32 32]) (rs := [[0, 1], List.replicate (m - 54) 255, [0], head19, ds])
      ⟨⟨_, _, rfl, Rd.of_all (b5.below e7), lim_small (by decide)⟩, ⟨A4, c4, by simp, o4.below e7, Lim.replicate (by omega)⟩, ⟨_, _, rfl, Rd.of_all (b6.below e7), lim_small (by decide)⟩, ⟨_, _, rfl, Rd.of_all (b2.below e7), lim_small (by decide)⟩, ⟨_, 32, by rw [hd], Rd.of_all (b1.below e7), ld⟩, trivial⟩
    have hJ := join_any w6.heap.size 0 5 5 _ _ _ rfl (by omega) (by omega) (Nat.le_refl _) hP (by rw [encN_flat, encN_length _ _ hd (by omega)]; omega)
    rw [encN_flat, s6] at hJ
    have e7 := e6.trans (e7.mono e6.size)
    clear hP b1 b2 o4 b5 b6 e6
    refine hJ.mono ?_
    rintro e w8 ⟨A8, c8, rfl, h8a, h8b, o8, e8⟩
    have o8 := o8.mono e7.size
    have e8 := e7.trans (e8.mono e7.size)
    have hlen := encN_length ds m hd (by omega)
    clear hJ e7
    go_wp2_with fail
    go_ret2
    rw [HE.out]
    refine ⟨A8, c8, ?_, ?_, h8b, o8, e8⟩
    · rw [show (encN ds m, (0 : Int)).1.length = m from hlen]
      rfl
    · rw [show (encN ds m, (0 : Int)).1.length = m from hlen]
      first | exact h8a | (rw [hlen] at h8a; exact h8a)
end Go.Proofs.Ytfclpieijbgodaa
