/-
  A block's words (schedule), in the program.
-/
import Derived.Test.YtmbkehmgpcmicaaShaC
import Derived.IntWalk
namespace Go.Proofs.Ytmbkehmgpcmicaa
set_option linter.unusedVariables false
set_option linter.unusedSimpArgs false
open Go.RowKit

theorem size_64u32 : (Try.prog.info? 33).map (·.size) = some 64 := by kernel_rfl
/-- The first j bytes of word i. -/
def part (b : List Nat) (i : Nat) : Nat → Nat
  | 0 => 0
  | j + 1 => part b i j * 256 + b.getD (4 * i + j) 0
theorem getD_lt {b : List Nat} {m : Nat} (hm : 0 < m) (hb : Lim m b) (i : Nat) : b.getD i 0 < m := by
  rw [List.getD_eq_getElem?_getD]
  cases h : b[i]? with
  | none => exact hm
  | some x => exact hb.get h
theorem part_lt {b : List Nat} (hb : Lim 256 b) (i j : Nat) : part b i j < 256 ^ j := by
  induction j with
  | zero => simp [part]
  | succ j ih =>
    have := getD_lt (by decide) hb (4 * i + j)
    rw [part, Nat.pow_succ]
    omega
theorem part_4 (b : List Nat) (i : Nat) : part b i 4 = be32 b (4 * i) := by simp [part, be32, Nat.add_assoc]
def words (b : List Nat) (i : Nat) : List Nat := (List.range i).map fun t => be32 b (4 * t)
theorem words_length (b : List Nat) (i : Nat) : (words b i).length = i := by simp [words]
theorem words_succ (b : List Nat) (i : Nat) : words b (i + 1) = words b i ++ [be32 b (4 * i)] := by simp [words, List.range_succ]
theorem pad_zero {n : Nat} {l : List Nat} (h : l.length < n) : pad n (l ++ [0]) = pad n l := by
  rw [← pad_set h]
  have := pad_at h
  rw [List.getElem?_eq_some_iff] at this
  obtain ⟨h1, h2⟩ := this
  rw [← h2, List.set_getElem_self]
theorem pad_set2 {n : Nat} {l : List Nat} (h : l.length < n) (x y : Nat) : (pad n (l ++ [x])).set l.length y = pad n (l ++ [y]) := by
  rw [← pad_set h, List.set_set, pad_set h]
theorem pad_at2 {n : Nat} {l : List Nat} (h : l.length < n) (x : Nat) : (pad n (l ++ [x]))[l.length]? = some x := by
  rw [← pad_set h, List.getElem?_set_self (by rw [pad_length (by omega)]; exact h)]
theorem or_byte (v c : Nat) (hv : v < 16777216) (hc : c < 256) : bits .or .u32 ((v * 256 : Nat) : Int) (c : Int) = ((v * 256 + c : Nat) : Int) := by
  rw [u32_or_nat _ _ (by omega) (by omega), nat_join 8 _ _ (by simp) (by simpa using hc)]

theorem pad_get {n i : Nat} {l : List Nat} (h : l.length = i) (j : Nat) (hj : j < i) : (pad n l)[j]? = some (l.getD j 0) := by
  rw [pad, List.getElem?_append_left (by omega), List.getD_eq_getElem?_getD, List.getElem?_eq_getElem (by omega)]
  rfl
theorem sched_length (b : List Nat) (t : Nat) : (sched b t).length = 16 + t := by
  induction t with
  | zero => simp [sched]
  | succ t ih => rw [sched, List.length_append, ih]; simp; omega
theorem addw_lt (a b : Nat) : addw a b < 4294967296 := Nat.mod_lt _ (by decide)
theorem be32_lt {b : List Nat} (hb : Lim 256 b) (i : Nat) : be32 b i < 4294967296 := by
  have h1 := getD_lt (by decide) hb i
  have h2 := getD_lt (by decide) hb (i + 1)
  have h3 := getD_lt (by decide) hb (i + 2)
  have h4 := getD_lt (by decide) hb (i + 3)
  unfold be32
  omega
theorem sched_lim {b : List Nat} (hb : Lim 256 b) (t : Nat) : Lim 4294967296 (sched b t) := by
  induction t with
  | zero =>
    intro x hx
    obtain ⟨i, _, rfl⟩ := List.mem_map.1 hx
    exact be32_lt hb _
  | succ t ih =>
    rw [sched]
    refine ih.append fun x hx => ?_
    rw [List.mem_singleton] at hx
    subst hx
    exact addw_lt _ _
set_option maxRecDepth 100000 in
set_option maxHeartbeats 1600000 in
theorem sched_any (A : Option Addr) (c : Nat) (b : List Nat) (w : World) (hb : Rd .u8 w A b) (hl : b.length = 64) (lb : Lim 256 b) (hc : 64 ≤ c) (hcl : c ≤ 9223372036854775807) :
    Calls Try.prog 36 #[.slice A 64 c] w (GivesArr .u32 (sched b 48) w) := by
  have HL := Lib.hid hl
  obtain ⟨bb, o, rfl, hbw, hcell⟩ : ∃ bb o, A = some ⟨bb, o, none⟩ ∧ bb < w.heap.size ∧ ∀ (i x : Nat), b[i]? = some x → w.cell? ⟨bb, o + i, none⟩ = some (.int .u8 (x : Int)) := by
    obtain ⟨x, hx⟩ := get_of_lt (xs := b) (i := 0) (by omega)
    exact hb.pos hx
  have HC := Lib.hid hcell
  clear hl hb hcell
  go_enter Try.func36, Try.ntmps36
  go_wp2_with fail
  go_loopw [9] (fun t wr => ∃ i : Nat, t = .int .i64 (i : Int) ∧ i ≤ 16 ∧ Whl .u32 33 wr w.heap.size (pad 64 (words b i)) ∧ Below w.heap.size w wr) (fun t _ => 16 - (intOf t).toNat)
  case atStart =>
    exact ⟨0, rfl, by omega, whl_new w (pad 64 []) _ rfl, (Below.refl _ _).alloc (Nat.le_refl _) _⟩
  case round =>
    obtain ⟨i, rfl, hi, hw, hbel⟩ := hrel
    by_cases hlt : i < 16
    · go_wp2_with fail
      obtain ⟨wo, rfl⟩ : ∃ wo, wo = wr := ⟨_, rfl⟩
      go_loopw [20] (fun t wr => ∃ j : Nat, t = .int .i64 (j : Int) ∧ j ≤ 4 ∧ Whl .u32 33 wr w.heap.size (pad 64 (words b i ++ [part b i j])) ∧ Below w.heap.size w wr) (fun t _ => 4 - (intOf t).toNat)
      case atStart => exact ⟨0, rfl, by omega, by rw [show part b i 0 = 0 from rfl, pad_zero (by rw [words_length]; omega)]; exact hw, hbel⟩
      case round =>
        clear hw hbel
        obtain ⟨j, rfl, hj, hw, hbel⟩ := hrel
        by_cases hlt2 : j < 4
        · obtain ⟨x, hgx⟩ := get_of_lt (xs := b) (i := 4 * i + j) (by rw [HL.out]; omega)
          have hxb := lb.get hgx
          have hcx := HC.out _ _ hgx
          have hcx2 := (hbel.cell (p := ⟨bb, o + (4 * i + j), none⟩) hbw).trans hcx
          rw [← Nat.add_assoc] at hcx2
          have hvl := part_lt lb i j
          have hvl2 : part b i j < 16777216 := Nat.lt_of_lt_of_le hvl (Nat.le_trans (Nat.pow_le_pow_right (by decide) (show j ≤ 3 by omega)) (by decide))
          have hP := Lib.hid (show part b i (j + 1) = part b i j * 256 + x by rw [part, List.getD_eq_getElem?_getD, hgx]; rfl)
          have hwl : (words b i).length < 64 := by rw [words_length]; omega
          have hat := pad_at2 hwl (part b i j)
          rw [words_length] at hat
          have hcw := hw.blk.cell hat
          have hfw := hw.blk.frozen hat
          have HW := Lib.hid hw
          have hor := or_byte (part b i j) x hvl2 hxb
          have hor2 : bits .or .u32 ((part b i j : Int) * 256) (x : Int) = ((part b i j * 256 + x : Nat) : Int) := hor
          clear hcx hvl hgx hat hor hwl
          go_wp2_with fail
          go_roundw
          case rel =>
            refine ⟨j + 1, by go_num, by omega, ?_, hbel.setCell (p := ⟨w.heap.size, i, none⟩) (Nat.le_refl _) _⟩
            have h := HW.out.set i (part b i (j + 1))
            have h2 := pad_set2 (n := 64) (l := words b i) (by rw [words_length]; omega) (part b i j) (part b i (j + 1))
            rw [words_length] at h2
            rw [h2] at h
            have h3 : ((part b i (j + 1) : Nat) : Int) = (part b i j : Int) * 256 + (x : Int) := by rw [hP.out]; omega
            rw [h3] at h
            exact h
          case measure => simp [intOf]; omega
        · obtain rfl : j = 4 := by omega
          rw [part_4, ← words_succ] at hw
          go_wp2_with fail
          go_roundw
          case rel => exact ⟨i + 1, by go_num, by omega, hw, hbel⟩
          case measure => simp [intOf]; omega
    · have h16 : i = 16 := by omega
      rw [h16] at hw
      have hge : ((i : Int) < 16) = False := by simp; omega
      clear h16
      obtain ⟨i16, rfl⟩ : ∃ j, j = i := ⟨_, rfl⟩
      go_wp2_with fail
      go_loopw [6] (fun t wr => ∃ i : Nat, t = .int .i64 (i : Int) ∧ 16 ≤ i ∧ i ≤ 64 ∧ Whl .u32 33 wr w.heap.size (pad 64 (sched b (i - 16))) ∧ Below w.heap.size w wr) (fun t _ => 64 - (intOf t).toNat)
      case atStart => exact ⟨16, rfl, Nat.le_refl _, by omega, hw, hbel⟩
      case round =>
        clear hw hbel
        obtain ⟨i, rfl, hi1, hi2, hw, hbel⟩ := hrel
        by_cases hlt2 : i < 64
        · obtain ⟨s, hs⟩ : ∃ s, s = sched b (i - 16) := ⟨_, rfl⟩
          have hsl : s.length = i := by rw [hs, sched_length]; omega
          have hs1 := Lib.hid (show sched b (i + 1 - 16) = s ++ [expand (s.getD (i - 16) 0) (s.getD (i - 15) 0) (s.getD (i - 7) 0) (s.getD (i - 2) 0)] by rw [hs, show i + 1 - 16 = (i - 16) + 1 from by omega, sched, show i - 16 + 1 = i - 15 from by omega, show i - 16 + 9 = i - 7 from by omega, show i - 16 + 14 = i - 2 from by omega])
          have hsb : Lim 4294967296 s := by rw [hs]; exact sched_lim lb _
          rw [← hs] at hw
          clear hs
          have ha := pad_get (n := 64) hsl (i - 16) (by omega)
          have hx := pad_get (n := 64) hsl (i - 15) (by omega)
          have hc7 := pad_get (n := 64) hsl (i - 7) (by omega)
          have hy := pad_get (n := 64) hsl (i - 2) (by omega)
          have hla := getD_lt (by decide) hsb (i - 16)
          have hlx := getD_lt (by decide) hsb (i - 15)
          have hlc := getD_lt (by decide) hsb (i - 7)
          have hly := getD_lt (by decide) hsb (i - 2)
          have HS := Lib.hid hsl
          generalize s.getD (i - 16) 0 = va at *
          generalize s.getD (i - 15) 0 = vx at *
          generalize s.getD (i - 7) 0 = vc at *
          generalize s.getD (i - 2) 0 = vy at *
          have h1 := hw.blk.cell ha
          have h2 := hw.blk.cell hx
          have h3 := hw.blk.cell hc7
          have h4 := hw.blk.cell hy
          have hat := pad_at (n := 64) (l := s) (by omega)
          rw [hsl] at hat
          have h5 := hw.blk.cell hat
          have h6 := hw.blk.frozen hat
          clear hat ha hx hc7 hy hsl
          go_wp2_with fail
          go_quiet (fail)
          have e1 : bits .xor .u32 ((rotr vx 7 : Nat) : Int) ((rotr vx 18 : Nat) : Int) = ((rotr vx 7 ^^^ rotr vx 18 : Nat) : Int) := u32_xor_nat _ _ (rotr_lt _ _ hlx) (rotr_lt _ _ hlx)
          have e2 : bits .xor .u32 ((rotr vx 7 ^^^ rotr vx 18 : Nat) : Int) ((vx : Int) / 8) = ((sig0 vx : Nat) : Int) := xor_div _ _ 8 (xor_lt (rotr_lt _ _ hlx) (rotr_lt _ _ hlx)) hlx
          have e3 : bits .xor .u32 ((rotr vy 17 : Nat) : Int) ((rotr vy 19 : Nat) : Int) = ((rotr vy 17 ^^^ rotr vy 19 : Nat) : Int) := u32_xor_nat _ _ (rotr_lt _ _ hly) (rotr_lt _ _ hly)
          have e4 : bits .xor .u32 ((rotr vy 17 ^^^ rotr vy 19 : Nat) : Int) ((vy : Int) / 1024) = ((sig1 vy : Nat) : Int) := xor_div _ _ 1024 (xor_lt (rotr_lt _ _ hly) (rotr_lt _ _ hly)) hly
          have e5 := wrap_add va (sig0 vx)
          have e6 := wrap_add (addw va (sig0 vx)) vc
          have e7 : IntKind.u32.wrap (((addw (addw va (sig0 vx)) vc : Nat) : Int) + ((sig1 vy : Nat) : Int)) = ((expand va vx vc vy : Nat) : Int) := wrap_add _ _
          go_wp2_with fail
          refine wp_region_still_tail 29 (by kernel_rfl) (by kernel_rfl) ?_
          simp only [List.take_succ_cons, List.take_zero, List.drop_succ_cons, List.drop_zero]
          show wpStill Try.prog _ (wr.drewN nq).drew (fun a' => wpList Try.prog _ _ _ a' (wr.drewN nq).drew) _ _
          have hw2 : Whl .u32 33 (wr.drewN nq).drew w.heap.size (pad 64 s) := hw
          have hbel2 : Below w.heap.size w (wr.drewN nq).drew := below_drewN (below_drewN hbel nq) 1
          replace h1 : (wr.drewN nq).drew.cell? ⟨w.heap.size, i - 16, none⟩ = some (.int .u32 (va : Int)) := h1
          replace h3 : (wr.drewN nq).drew.cell? ⟨w.heap.size, i - 7, none⟩ = some (.int .u32 (vc : Int)) := h3
          replace h5 : (wr.drewN nq).drew.cell? ⟨w.heap.size, i, none⟩ = some (.int .u32 ((0 : Nat) : Int)) := h5
          replace h6 : (wr.drewN nq).drew.frozen? ⟨w.heap.size, i, none⟩ = false := h6
          generalize (wr.drewN nq).drew = wz at *
          have e8 : IntKind.i64.wrap ((i : Int) - 16) = (i : Int) - 16 := IntWalk.i64_in _ (by omega)
          have e9 : IntKind.i64.wrap ((i : Int) - 7) = (i : Int) - 7 := IntWalk.i64_in _ (by omega)
          have e10 : ((i : Int) - 16).toNat = i - 16 := by omega
          have e11 : ((i : Int) - 7).toNat = i - 7 := by omega
          have i1 : (0 : Int) ≤ (i : Int) - 16 := by omega
          have i2 : (0 : Int) ≤ (i : Int) - 7 := by omega
          have i3 : (i : Int) - 16 < 64 := by omega
          have i4 : (i : Int) - 7 < 64 := by omega
          have i5 : (16 : Int) ≤ (i : Int) := by omega
          have i6 : (7 : Int) ≤ (i : Int) := by omega
          have i7 : (i : Int) < 80 := by omega
          have i8 : (i : Int) < 71 := by omega
          clear h2 h4 hw hbel
          iterate 6 still_step
          still_call (still_of (right_7 vx _ hlx))
          still_step
          still_call (still_of (right_18 vx _ hlx))
          iterate 11 still_step
          still_call (still_of (right_17 vy _ hly))
          still_step
          still_call (still_of (right_19 vy _ hly))
          iterate 6 still_step
          refine wpStill_nil ?_
          clear e8 e9 e10 e11 i1 i2 i3 i4 i5 i6 i7 i8
          go_wp2_with fail
          go_roundw
          case rel =>
            refine ⟨i + 1, by go_num, by omega, by omega, ?_, hbel2.setCell (p := ⟨w.heap.size, i, none⟩) (Nat.le_refl _) _⟩
            have h := hw2.set i (expand va vx vc vy)
            have h7 := pad_set (n := 64) (l := s) (by have := HS.out; omega) (expand va vx vc vy)
            rw [HS.out] at h7
            rw [h7, ← hs1.out] at h
            exact h
          case measure => simp [intOf]; omega
        · obtain rfl : i = 64 := by omega
          have hfull : pad 64 (sched b 48) = sched b 48 := pad_full (by rw [sched_length])
          have hw2 : Whl .u32 33 wr w.heap.size (sched b 48) := by rw [← hfull]; exact hw
          have hsz : (Try.prog.info? 33).map (·.size) = some (sched b 48).length := by rw [sched_length]; exact size_64u32
          have HSZ := Lib.hid hsz
          clear hsz hfull hw
          go_wp2_with (first | (refine wpList_load_whl rfl 33 (.tmp 2) rfl w.heap.size rfl .u32 _ (sched b 48) hw2 _ Try.underlying33 rfl HSZ.out ?_) | (refine wpList_store_whl rfl 33 (.tmp 2) (.tmp 76) rfl w.heap.size .u32 _ (sched b 48) (sched b 48) rfl rfl hw2 rfl HSZ.out ?_; intro w3 hw3 hg3 hs3; clear hs3))
          exact bodyPost_ret (v := .agg (ints .u32 (sched b 48)).toArray) (results_whl rfl _ _ w.heap.size .u32 _ (sched b 48) _ rfl hw3 Try.underlying33 rfl HSZ.out) rfl ⟨rfl, below_only hbel hg3 hbel.size (Nat.le_refl _)⟩
end Go.Proofs.Ytmbkehmgpcmicaa
