/-
  nat.Add: the sum, by a closure over the carry.
-/
import Derived.Test.YtfclpieijbgodaaNatK
namespace Go.Proofs.Ytfclpieijbgodaa
set_option linter.unusedVariables false
set_option linter.unusedSimpArgs false
open Go.RowKit

def StepPost (i x m cy g bc : Nat) (w : World) (e : Ending) (w' : World) : Prop :=
  e = .returned (.tuple #[]) ∧ ∃ q, w' = ((w.setCell ⟨g, i, none⟩ (.int .u32 (((x + m + cy) % 4294967296 : Nat) : Int))).setCell ⟨bc, 0, none⟩ (.int .u64 (((x + m + cy) / 4294967296 : Nat) : Int))).drewN q

set_option maxHeartbeats 800000 in
theorem step_any (A : Option Addr) (n c g k c2 i x m cy z bx bc bo : Nat) (xs ds : List Nat) (w : World)
    (hbx : Box w bx (.slice A n c)) (hbc : Box w bc (.int .u64 (cy : Int))) (hbo : Box w bo (.slice (some ⟨g, 0, none⟩) k c2))
    (hx : Rd .u32 w A xs) (hn : n = xs.length) (hl : n ≤ 70000) (hgx : xs[i]? = some x) (hg : Blk .u32 w g ds) (hgz : ds[i]? = some z) (hi : i < k) (hk : k ≤ 70001)
    (h1 : g ≠ bc) (hxb : x < 4294967296) (hmb : m < 4294967296) (hcb : cy ≤ 1) :
    Calls Try.prog 56 #[.int .i64 (i : Int), .int .u32 (m : Int), .pointer (some ⟨bx, 0, none⟩), .pointer (some ⟨bc, 0, none⟩), .pointer (some ⟨bo, 0, none⟩)] w (StepPost i x m cy g bc w) := by
  subst hn
  have hil : i < xs.length := (List.getElem?_eq_some_iff.1 hgx).1
  obtain ⟨b, o, rfl, _, hcl⟩ := hx.pos hgx
  have hcx := hcl _ x hgx
  have hcz := hg.cell hgz
  have hfz := hg.frozen hgz
  obtain ⟨x1, x2, x3⟩ := hbx
  obtain ⟨c1, c2', c3⟩ := hbc
  obtain ⟨o1, o2, o3⟩ := hbo
  clear hcl hgx hgz
  go_enter Try.func56, Try.ntmps56
  go_wp2_with fail
  go_quiet (fail)
  go_wp2_with fail
  go_end0
  refine ⟨rfl, nq, ?_⟩
  have e1 : ((x : Int) + m + cy) = ((x + m + cy : Nat) : Int) := by omega
  rw [e1]
  rfl

/-- What Add has done behind i limbs: the limbs, and the carry. -/
def addTo (xs ys : List Nat) : Nat → List Nat × Nat
  | 0 => (List.replicate (xs.length + 1) 0, 0)
  | i + 1 =>
    let p := addTo xs ys i
    (p.1.set i ((xs.getD i 0 + ys.getD i 0 + p.2) % 4294967296), (xs.getD i 0 + ys.getD i 0 + p.2) / 4294967296)
theorem addTo_length (xs ys : List Nat) (i : Nat) : (addTo xs ys i).1.length = xs.length + 1 := by
  induction i with
  | zero => simp [addTo]
  | succ i ih => simp [addTo, ih]
theorem addTo_ok {xs ys : List Nat} (lx : Lim 4294967296 xs) (ly : Lim 4294967296 ys) {i : Nat} (hi : i ≤ xs.length) :
    val (addTo xs ys i).1 + 4294967296 ^ i * (addTo xs ys i).2 = val (xs.take i) + val (ys.take i) ∧ (addTo xs ys i).2 ≤ 1 ∧ Lim 4294967296 (addTo xs ys i).1 ∧ ∀ j z, i ≤ j → (addTo xs ys i).1[j]? = some z → z = 0 := by
  induction i with
  | zero =>
    refine ⟨by simp [addTo, val_replicate, val], by simp [addTo], Lim.replicate (by omega), fun j z _ hz => ?_⟩
    rw [addTo, List.getElem?_replicate] at hz
    split at hz
    · injection hz with hz; exact hz.symm
    · cases hz
  | succ i ih =>
    obtain ⟨h1, h2, h3, h4⟩ := ih (by omega)
    have hlen := addTo_length xs ys i
    obtain ⟨ds, c, hd⟩ : ∃ ds c, addTo xs ys i = (ds, c) := ⟨_, _, rfl⟩
    rw [hd] at h1 h2 h3 h4 hlen
    simp only at h1 h2 h3 h4 hlen
    obtain ⟨z, hz⟩ := get_of_lt (xs := ds) (i := i) (by omega)
    have hz0 := h4 i z (Nat.le_refl _) hz
    subst hz0
    have hs : addTo xs ys (i + 1) = (ds.set i ((xs.getD i 0 + ys.getD i 0 + c) % 4294967296), (xs.getD i 0 + ys.getD i 0 + c) / 4294967296) := by simp only [addTo, hd]
    have hxl := getD_lim lx (by omega) i
    have hyl := getD_lim ly (by omega) i
    rw [hs, val_take_succ (xs := xs) (k := i) rfl, val_take_succ (xs := ys) (k := i) rfl]
    generalize xs.getD i 0 = x at *
    generalize ys.getD i 0 = y at *
    simp only
    refine ⟨?_, by omega, h3.set (Nat.mod_lt _ (by omega)), fun j w hj hw => ?_⟩
    · have h5 := val_set hz ((x + y + c) % 4294967296)
      rw [Nat.mul_zero, Nat.add_zero] at h5
      rw [h5, Nat.pow_succ, Nat.mul_assoc, Nat.add_assoc, ← Nat.mul_add, Nat.mod_add_div, Nat.mul_add, Nat.mul_add]
      omega
    · rw [List.getElem?_set_ne (by omega)] at hw
      exact h4 j w (by omega) hw
theorem addTo_succ {xs ys ds : List Nat} {i c x y : Nat} (hd : addTo xs ys i = (ds, c)) (hx : xs[i]? = some x) (hy : ys.getD i 0 = y) :
    addTo xs ys (i + 1) = (ds.set i ((x + y + c) % 4294967296), (x + y + c) / 4294967296) := by
  have e : xs.getD i 0 = x := by rw [List.getD_eq_getElem?_getD, hx]; rfl
  simp only [addTo, hd, e, hy]
theorem addTo_end {xs ys ds : List Nat} {c : Nat} (lx : Lim 4294967296 xs) (ly : Lim 4294967296 ys) (hle : ys.length ≤ xs.length) (hd : addTo xs ys xs.length = (ds, c)) :
    val (ds.set xs.length c) = val xs + val ys ∧ Lim 4294967296 (ds.set xs.length c) := by
  obtain ⟨h1, h2, h3, h4⟩ := addTo_ok lx ly (Nat.le_refl xs.length)
  have hlen := addTo_length xs ys xs.length
  rw [hd] at h1 h2 h3 h4 hlen
  simp only at h1 h2 h3 h4 hlen
  rw [List.take_length, List.take_of_length_le hle] at h1
  obtain ⟨z, hz⟩ := get_of_lt (xs := ds) (i := xs.length) (by omega)
  have hz0 := h4 _ z (Nat.le_refl _) hz
  subst hz0
  have h5 := val_set hz c
  exact ⟨by omega, h3.set (by omega)⟩

set_option maxHeartbeats 1600000 in
theorem add_any (A B : Option Addr) (n m c d : Nat) (xs ys : List Nat) (w : World) (hn : n = xs.length) (hm : m = ys.length) (hx : Rd .u32 w A xs) (hy : Rd .u32 w B ys) (lx : Lim 4294967296 xs) (ly : Lim 4294967296 ys)
    (r1 : isRight xs = true) (r2 : isRight ys = true) :
    Calls Try.prog 18 #[.slice A n c, .slice B m d] w (Gives2 .u32 (fitsOf (val xs + val ys)).1 (fitsOf (val xs + val ys)).2 w) := by
  subst hn
  subst hm
  have hl := isRight_len r1
  have hl' := isRight_len r2
  by_cases hlt : xs.length < ys.length
  · go_enter Try.func18, Try.ntmps18
    go_wp2_with fail
    refine (right_any _ _ c xs _ rfl (by omega) (hx.alloc _)).mono ?_
    rintro e w' ⟨rfl, rfl⟩
    go_wp2_with fail
    refine (right_any _ _ d ys _ rfl (by omega) (hy.alloc _)).mono ?_
    rintro e w' ⟨rfl, rfl⟩
    go_wp2_with (at_make; refine wpList_make_ints _ rfl _ _ _ rfl .u32 33 4 Try.underlying22 info_u32 _ _ (ys.length + 1) _ _ rfl rfl (by omega) (by omega) (by omega) (by omega) ?_; intro g w1 hg hw1 hs1 hb1; obtain ⟨x1, x2, x3⟩ := (Box.new w (.slice B ys.length d) 22).below hb1)
    have hgl : w.heap.size ≤ g := by rw [hg.out]; simp
    have hgE := Lib.hid (show g = w.heap.size + 1 by rw [hg.out]; simp)
    have hbel1 : Below w.heap.size w w1 := ((Below.refl w.heap.size w).alloc (Nat.le_refl _) (.cells #[.slice B ys.length d] 22)).trans (hb1.mono (by simp))
    have hS := Lib.hid hs1
    clear hs1 hg
    have hbo : Box ((w1.alloc (.cells #[.slice (some ⟨g, 0, none⟩) (ys.length + 1) (ys.length + 1)] 22)).alloc (.cells #[.int .u64 0] 44)) (w.heap.size + 1 + 1) (.slice (some ⟨g, 0, none⟩) (ys.length + 1) (ys.length + 1)) := by
      have h9 := (Box.new w1 (.slice (some ⟨g, 0, none⟩) (ys.length + 1) (ys.length + 1)) 22).alloc (.cells #[.int .u64 0] 44)
      rw [hS.out] at h9
      simpa using h9
    have hbc : Box ((w1.alloc (.cells #[.slice (some ⟨g, 0, none⟩) (ys.length + 1) (ys.length + 1)] 22)).alloc (.cells #[.int .u64 0] 44)) (w.heap.size + 1 + 1 + 1) (.int .u64 ((0 : Nat) : Int)) := by
      have h9 := Box.new (w1.alloc (.cells #[.slice (some ⟨g, 0, none⟩) (ys.length + 1) (ys.length + 1)] 22)) (.int .u64 0) 44
      rw [World.size_alloc, hS.out] at h9
      simpa using h9
    have hbx : Box ((w1.alloc (.cells #[.slice (some ⟨g, 0, none⟩) (ys.length + 1) (ys.length + 1)] 22)).alloc (.cells #[.int .u64 0] 44)) w.heap.size (.slice B ys.length d) := ((Box.new w (.slice B ys.length d) 22).below hb1 |>.alloc _).alloc _
    clear x1 x2 x3
    go_loopw [32] (fun t wr => ∃ i cy ds, t = .int .i64 ((i : Nat) : Int) ∧ i ≤ ys.length ∧ Hid (addTo ys xs i = (ds, cy)) ∧ cy ≤ 1 ∧ Blk .u32 wr g ds ∧ Box wr w.heap.size (.slice B ys.length d) ∧ Box wr (w.heap.size + 1 + 1 + 1) (.int .u64 ((cy : Nat) : Int)) ∧ Box wr (w.heap.size + 1 + 1) (.slice (some ⟨g, 0, none⟩) (ys.length + 1) (ys.length + 1)) ∧ Below w.heap.size w wr) (fun t _ => ys.length - (intOf t).toNat)
    case atStart => exact ⟨0, 0, _, rfl, Nat.zero_le _, rfl, by omega, (hw1.blk.alloc _).alloc _, hbx, hbc, hbo, (hbel1.alloc hbel1.size _).alloc (by have := hbel1.size; simp; omega) _⟩
    case round =>
      obtain ⟨i, cy, ds, rfl, hi, hd, hcy, hbk, hbxr, hbcr, hbor, hbelr⟩ := hrel
      have hgne : g ≠ w.heap.size + 1 + 1 + 1 := by rw [hgE.out]; omega
      by_cases hlt2 : i < ys.length
      · obtain ⟨x, hgx⟩ := get_of_lt hlt2
        have hxb := ly.get hgx
        have hlen := addTo_length ys xs i
        rw [hd.out] at hlen
        obtain ⟨z, hgz⟩ := get_of_lt (xs := ds) (i := i) (by simp at hlen; omega)
        have HL := Lib.hid hlen
        clear hlen
        have hxr := hy.below hbelr
        have hyr := hx.below hbelr
        by_cases hly : i < xs.length
        · obtain ⟨y, hgy⟩ := get_of_lt hly
          obtain ⟨b2, o2, hB2, _, hcl⟩ := hyr.pos hgy
          subst hB2
          have hcell := hcl i y hgy
          have hyb := lx.get hgy
          have HS := Lib.hid (addTo_succ hd.out hgx (show xs.getD i 0 = y by rw [List.getD_eq_getElem?_getD, hgy]; rfl))
          have HX := Lib.hid hgx
          have HZ := Lib.hid hgz
          clear hcl hgy hgx hgz
          go_wp2_with fail
          refine (step_any B _ d g (ys.length + 1) (ys.length + 1) i x y cy z w.heap.size (w.heap.size + 1 + 1 + 1) (w.heap.size + 1 + 1) ys ds _ hbxr hbcr hbor hxr rfl (by omega) HX.out hbk HZ.out (by omega) (by omega) hgne hxb hyb hcy).mono ?_
          rintro e w2 ⟨rfl, q, rfl⟩
          go_wp2_with fail
          go_roundw
          case rel =>
            refine ⟨i + 1, _, _, by go_num, by omega, HS.out, by omega, ?_, ?_, ?_, ?_, ?_⟩
            · exact ((hbk.set HZ.out _).far (p := ⟨w.heap.size + 1 + 1 + 1, 0, none⟩) hgne _).drewN q
            · exact ((hbxr.far (p := ⟨g, i, none⟩) (by rw [hgE.out]; simp) _).far (p := ⟨w.heap.size + 1 + 1 + 1, 0, none⟩) (by show w.heap.size ≠ w.heap.size + 1 + 1 + 1; omega) _).drewN q
            · exact ((hbcr.far (p := ⟨g, i, none⟩) (Ne.symm hgne) _).set _).drewN q
            · exact ((hbor.far (p := ⟨g, i, none⟩) (by rw [hgE.out]; simp) _).far (p := ⟨w.heap.size + 1 + 1 + 1, 0, none⟩) (by simp) _).drewN q
            · exact below_drewN ((hbelr.setCell hgl _).setCell (p := ⟨w.heap.size + 1 + 1 + 1, 0, none⟩) (by simp; omega) _) q
          case measure => simp [intOf] <;> omega
        · have HS := Lib.hid (addTo_succ (y := 0) hd.out hgx (by rw [List.getD_eq_getElem?_getD, List.getElem?_eq_none (by omega)]; rfl))
          have HX := Lib.hid hgx
          have HZ := Lib.hid hgz
          clear hgx hgz
          go_wp2_with fail
          refine (step_any B _ d g (ys.length + 1) (ys.length + 1) i x 0 cy z w.heap.size (w.heap.size + 1 + 1 + 1) (w.heap.size + 1 + 1) ys ds _ hbxr hbcr hbor hxr rfl (by omega) HX.out hbk HZ.out (by omega) (by omega) hgne hxb (by omega) hcy).mono ?_
          rintro e w2 ⟨rfl, q, rfl⟩
          go_wp2_with fail
          go_roundw
          case rel =>
            refine ⟨i + 1, _, _, by go_num, by omega, HS.out, by omega, ?_, ?_, ?_, ?_, ?_⟩
            · exact ((hbk.set HZ.out _).far (p := ⟨w.heap.size + 1 + 1 + 1, 0, none⟩) hgne _).drewN q
            · exact ((hbxr.far (p := ⟨g, i, none⟩) (by rw [hgE.out]; simp) _).far (p := ⟨w.heap.size + 1 + 1 + 1, 0, none⟩) (by show w.heap.size ≠ w.heap.size + 1 + 1 + 1; omega) _).drewN q
            · exact ((hbcr.far (p := ⟨g, i, none⟩) (Ne.symm hgne) _).set _).drewN q
            · exact ((hbor.far (p := ⟨g, i, none⟩) (by rw [hgE.out]; simp) _).far (p := ⟨w.heap.size + 1 + 1 + 1, 0, none⟩) (by simp) _).drewN q
            · exact below_drewN ((hbelr.setCell hgl _).setCell (p := ⟨w.heap.size + 1 + 1 + 1, 0, none⟩) (by simp; omega) _) q
          case measure => simp [intOf] <;> omega
      · obtain rfl : i = ys.length := by omega
        have hend := addTo_end ly lx (by omega) hd.out
        have hlen := addTo_length ys xs ys.length
        rw [hd.out] at hlen
        obtain ⟨z, hgz⟩ := get_of_lt (xs := ds) (i := ys.length) (by simp at hlen; omega)
        obtain ⟨x1, x2, x3⟩ := hbxr
        obtain ⟨c1, c2, c3⟩ := hbcr
        obtain ⟨o1, o2, o3⟩ := hbor
        have hcz := hbk.cell hgz
        have hfz := hbk.frozen hgz
        have hset := Lib.hid (hbk.set hgz cy)
        have HE := Lib.hid hend
        have HL := Lib.hid (show (ds.set ys.length cy).length = ys.length + 1 by rw [List.length_set]; exact hlen)
        have hob : ¬ g = w.heap.size + 1 + 1 := by rw [hgE.out]; omega
        clear hend hlen hgz
        go_wp2_with fail
        have hans := answer_any (some ⟨g, 0, none⟩) (ys.length + 1) (ys.length + 1) (ds.set ys.length cy) _ w HL.out.symm (Nat.le_refl _) (by omega) (Own.of_blk hset.out hgl) HE.out.2 (hbelr.setCell hgl _)
        rw [HE.out.1] at hans
        refine hans.mono ?_
        rintro e w5 ⟨A', c', rfl, q1, q2, q3, q4⟩
        go_wp2_with fail
        go_ret2
        exact ⟨A', c', by rw [Nat.add_comm]; rfl, by rw [Nat.add_comm]; exact q1, q2, by rw [Nat.add_comm]; exact q3, q4⟩
  · go_enter Try.func18, Try.ntmps18
    go_wp2_with fail
    refine (right_any _ _ c xs _ rfl (by omega) (hx.alloc _)).mono ?_
    rintro e w' ⟨rfl, rfl⟩
    go_wp2_with fail
    refine (right_any _ _ d ys _ rfl (by omega) (hy.alloc _)).mono ?_
    rintro e w' ⟨rfl, rfl⟩
    go_wp2_with (at_make; refine wpList_make_ints _ rfl _ _ _ rfl .u32 33 4 Try.underlying22 info_u32 _ _ (xs.length + 1) _ _ rfl rfl (by omega) (by omega) (by omega) (by omega) ?_; intro g w1 hg hw1 hs1 hb1; obtain ⟨x1, x2, x3⟩ := (Box.new w (.slice A xs.length c) 22).below hb1)
    have hgl : w.heap.size ≤ g := by rw [hg.out]; simp
    have hgE := Lib.hid (show g = w.heap.size + 1 by rw [hg.out]; simp)
    have hbel1 : Below w.heap.size w w1 := ((Below.refl w.heap.size w).alloc (Nat.le_refl _) (.cells #[.slice A xs.length c] 22)).trans (hb1.mono (by simp))
    have hS := Lib.hid hs1
    clear hs1 hg
    have hbo : Box ((w1.alloc (.cells #[.slice (some ⟨g, 0, none⟩) (xs.length + 1) (xs.length + 1)] 22)).alloc (.cells #[.int .u64 0] 44)) (w.heap.size + 1 + 1) (.slice (some ⟨g, 0, none⟩) (xs.length + 1) (xs.length + 1)) := by
      have h9 := (Box.new w1 (.slice (some ⟨g, 0, none⟩) (xs.length + 1) (xs.length + 1)) 22).alloc (.cells #[.int .u64 0] 44)
      rw [hS.out] at h9
      simpa using h9
    have hbc : Box ((w1.alloc (.cells #[.slice (some ⟨g, 0, none⟩) (xs.length + 1) (xs.length + 1)] 22)).alloc (.cells #[.int .u64 0] 44)) (w.heap.size + 1 + 1 + 1) (.int .u64 ((0 : Nat) : Int)) := by
      have h9 := Box.new (w1.alloc (.cells #[.slice (some ⟨g, 0, none⟩) (xs.length + 1) (xs.length + 1)] 22)) (.int .u64 0) 44
      rw [World.size_alloc, hS.out] at h9
      simpa using h9
    have hbx : Box ((w1.alloc (.cells #[.slice (some ⟨g, 0, none⟩) (xs.length + 1) (xs.length + 1)] 22)).alloc (.cells #[.int .u64 0] 44)) w.heap.size (.slice A xs.length c) := ((Box.new w (.slice A xs.length c) 22).below hb1 |>.alloc _).alloc _
    clear x1 x2 x3
    go_loopw [32] (fun t wr => ∃ i cy ds, t = .int .i64 ((i : Nat) : Int) ∧ i ≤ xs.length ∧ Hid (addTo xs ys i = (ds, cy)) ∧ cy ≤ 1 ∧ Blk .u32 wr g ds ∧ Box wr w.heap.size (.slice A xs.length c) ∧ Box wr (w.heap.size + 1 + 1 + 1) (.int .u64 ((cy : Nat) : Int)) ∧ Box wr (w.heap.size + 1 + 1) (.slice (some ⟨g, 0, none⟩) (xs.length + 1) (xs.length + 1)) ∧ Below w.heap.size w wr) (fun t _ => xs.length - (intOf t).toNat)
    case atStart => exact ⟨0, 0, _, rfl, Nat.zero_le _, rfl, by omega, (hw1.blk.alloc _).alloc _, hbx, hbc, hbo, (hbel1.alloc hbel1.size _).alloc (by have := hbel1.size; simp; omega) _⟩
    case round =>
      obtain ⟨i, cy, ds, rfl, hi, hd, hcy, hbk, hbxr, hbcr, hbor, hbelr⟩ := hrel
      have hgne : g ≠ w.heap.size + 1 + 1 + 1 := by rw [hgE.out]; omega
      by_cases hlt2 : i < xs.length
      · obtain ⟨x, hgx⟩ := get_of_lt hlt2
        have hxb := lx.get hgx
        have hlen := addTo_length xs ys i
        rw [hd.out] at hlen
        obtain ⟨z, hgz⟩ := get_of_lt (xs := ds) (i := i) (by simp at hlen; omega)
        have HL := Lib.hid hlen
        clear hlen
        have hxr := hx.below hbelr
        have hyr := hy.below hbelr
        by_cases hly : i < ys.length
        · obtain ⟨y, hgy⟩ := get_of_lt hly
          obtain ⟨b2, o2, hB2, _, hcl⟩ := hyr.pos hgy
          subst hB2
          have hcell := hcl i y hgy
          have hyb := ly.get hgy
          have HS := Lib.hid (addTo_succ hd.out hgx (show ys.getD i 0 = y by rw [List.getD_eq_getElem?_getD, hgy]; rfl))
          have HX := Lib.hid hgx
          have HZ := Lib.hid hgz
          clear hcl hgy hgx hgz
          go_wp2_with fail
          refine (step_any A _ c g (xs.length + 1) (xs.length + 1) i x y cy z w.heap.size (w.heap.size + 1 + 1 + 1) (w.heap.size + 1 + 1) xs ds _ hbxr hbcr hbor hxr rfl (by omega) HX.out hbk HZ.out (by omega) (by omega) hgne hxb hyb hcy).mono ?_
          rintro e w2 ⟨rfl, q, rfl⟩
          go_wp2_with fail
          go_roundw
          case rel =>
            refine ⟨i + 1, _, _, by go_num, by omega, HS.out, by omega, ?_, ?_, ?_, ?_, ?_⟩
            · exact ((hbk.set HZ.out _).far (p := ⟨w.heap.size + 1 + 1 + 1, 0, none⟩) hgne _).drewN q
            · exact ((hbxr.far (p := ⟨g, i, none⟩) (by rw [hgE.out]; simp) _).far (p := ⟨w.heap.size + 1 + 1 + 1, 0, none⟩) (by show w.heap.size ≠ w.heap.size + 1 + 1 + 1; omega) _).drewN q
            · exact ((hbcr.far (p := ⟨g, i, none⟩) (Ne.symm hgne) _).set _).drewN q
            · exact ((hbor.far (p := ⟨g, i, none⟩) (by rw [hgE.out]; simp) _).far (p := ⟨w.heap.size + 1 + 1 + 1, 0, none⟩) (by simp) _).drewN q
            · exact below_drewN ((hbelr.setCell hgl _).setCell (p := ⟨w.heap.size + 1 + 1 + 1, 0, none⟩) (by simp; omega) _) q
          case measure => simp [intOf] <;> omega
        · have HS := Lib.hid (addTo_succ (y := 0) hd.out hgx (by rw [List.getD_eq_getElem?_getD, List.getElem?_eq_none (by omega)]; rfl))
          have HX := Lib.hid hgx
          have HZ := Lib.hid hgz
          clear hgx hgz
          go_wp2_with fail
          refine (step_any A _ c g (xs.length + 1) (xs.length + 1) i x 0 cy z w.heap.size (w.heap.size + 1 + 1 + 1) (w.heap.size + 1 + 1) xs ds _ hbxr hbcr hbor hxr rfl (by omega) HX.out hbk HZ.out (by omega) (by omega) hgne hxb (by omega) hcy).mono ?_
          rintro e w2 ⟨rfl, q, rfl⟩
          go_wp2_with fail
          go_roundw
          case rel =>
            refine ⟨i + 1, _, _, by go_num, by omega, HS.out, by omega, ?_, ?_, ?_, ?_, ?_⟩
            · exact ((hbk.set HZ.out _).far (p := ⟨w.heap.size + 1 + 1 + 1, 0, none⟩) hgne _).drewN q
            · exact ((hbxr.far (p := ⟨g, i, none⟩) (by rw [hgE.out]; simp) _).far (p := ⟨w.heap.size + 1 + 1 + 1, 0, none⟩) (by show w.heap.size ≠ w.heap.size + 1 + 1 + 1; omega) _).drewN q
            · exact ((hbcr.far (p := ⟨g, i, none⟩) (Ne.symm hgne) _).set _).drewN q
            · exact ((hbor.far (p := ⟨g, i, none⟩) (by rw [hgE.out]; simp) _).far (p := ⟨w.heap.size + 1 + 1 + 1, 0, none⟩) (by simp) _).drewN q
            · exact below_drewN ((hbelr.setCell hgl _).setCell (p := ⟨w.heap.size + 1 + 1 + 1, 0, none⟩) (by simp; omega) _) q
          case measure => simp [intOf] <;> omega
      · obtain rfl : i = xs.length := by omega
        have hend := addTo_end lx ly (by omega) hd.out
        have hlen := addTo_length xs ys xs.length
        rw [hd.out] at hlen
        obtain ⟨z, hgz⟩ := get_of_lt (xs := ds) (i := xs.length) (by simp at hlen; omega)
        obtain ⟨x1, x2, x3⟩ := hbxr
        obtain ⟨c1, c2, c3⟩ := hbcr
        obtain ⟨o1, o2, o3⟩ := hbor
        have hcz := hbk.cell hgz
        have hfz := hbk.frozen hgz
        have hset := Lib.hid (hbk.set hgz cy)
        have HE := Lib.hid hend
        have HL := Lib.hid (show (ds.set xs.length cy).length = xs.length + 1 by rw [List.length_set]; exact hlen)
        have hob : ¬ g = w.heap.size + 1 + 1 := by rw [hgE.out]; omega
        clear hend hlen hgz
        go_wp2_with fail
        have hans := answer_any (some ⟨g, 0, none⟩) (xs.length + 1) (xs.length + 1) (ds.set xs.length cy) _ w HL.out.symm (Nat.le_refl _) (by omega) (Own.of_blk hset.out hgl) HE.out.2 (hbelr.setCell hgl _)
        rw [HE.out.1] at hans
        refine hans.mono ?_
        rintro e w5 ⟨A', c', rfl, q1, q2, q3, q4⟩
        go_wp2_with fail
        go_ret2
        exact ⟨A', c', rfl, q1, q2, q3, q4⟩
end Go.Proofs.Ytfclpieijbgodaa
