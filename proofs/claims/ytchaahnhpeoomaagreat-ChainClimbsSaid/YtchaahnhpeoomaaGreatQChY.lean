/-
  Rows put behind one another, of whatever records; rows of certificates that a call has made.
-/
import Derived.Test.YtchaahnhpeoomaaGreatQChU
import Derived.Test.YtchaahnhpeoomaaGreatQChnR
namespace Go.Proofs.YtchaahnhpeoomaaGreat
set_option linter.unusedVariables false
set_option linter.unusedSimpArgs false
set_option maxRecDepth 20000
open Go.RowKit
def fitC (c : Crt) (j : Nat) : Bool := decide (c.path < 0) || decide ((j : Int) - 1 ≤ c.path)
def cAt (cs : List Crt) (lf : Crt) (k : Nat) : Crt := (cs[k]?).getD lf
theorem cAt_lt {cs : List Crt} {lf : Crt} {k : Nat} (h : k < cs.length) : cs[k]? = some (cAt cs lf k) := by
 unfold cAt
 rw [List.getElem?_eq_getElem h]
 rfl
theorem drop_map {cs : List Crt} {lf : Crt} : cs.drop 1 = (List.range (cs.length - 1)).map fun i => cAt cs lf (i + 1) := by
 refine List.ext_getElem? fun i => ?_
 rw [List.getElem?_drop, List.getElem?_map, Nat.add_comm 1 i]
 by_cases h : i + 1 < cs.length
 ·rw [cAt_lt (lf := lf) h, List.getElem?_range (by omega)]
  rfl
 ·rw [List.getElem?_eq_none (by omega), List.getElem?_eq_none (by simp; omega)]
  rfl
theorem take_map {cs : List Crt} {lf : Crt} {k : Nat} (h : k ≤ cs.length) : cs.take k = (List.range k).map fun i => cAt cs lf i := by
 refine List.ext_getElem? fun i => ?_
 rw [List.getElem?_map]
 by_cases hi : i < k
 ·rw [List.getElem?_take_of_lt hi, cAt_lt (lf := lf) (by omega), List.getElem?_range hi]
  rfl
 ·rw [List.getElem?_eq_none (by rw [List.length_take]; omega), List.getElem?_eq_none (by simp; omega)]
  rfl
section
variable {l : List Rung} {cs pool : List Crt} {ks : List Nat} {ke m : Nat} {lf : Crt}
theorem lad_inj (hs : cs.map Crt.say = ladderB l ks ke) (hn : Letters l) {i j : Nat} (hi : i < cs.length) (hj : j < cs.length) (h : cAt cs lf i = cAt cs lf j) : i = j := by
 obtain ⟨r, K, E, hr, hcs, _, _⟩ := lad_len hs i _ (cAt_lt (lf := lf) hi)
 obtain ⟨r', K', E', hr', hds, _, _⟩ := lad_len hs j _ (cAt_lt (lf := lf) hj)
 have h1 : (cAt cs lf i).subject.xs = nameB r.name := congrArg Say.subject hcs
 have h2 : (cAt cs lf j).subject.xs = nameB r'.name := congrArg Say.subject hds
 rw [h, h2, hn _ _ hr, hn _ _ hr'] at h1
 have := nameB_one h1
 omega
theorem lad_lv (hs : cs.map Crt.say = ladderB l ks ke) (hk : ks ≠ []) (hn : Letters l) (h0 : cs[0]? = some lf) (hp : pool.Perm (cs.drop 1)) (hm0 : 0 < m) (hm : m ≤ cs.length) (hok : ∀ j c, 0 < j → j < m → cs[j]? = some c → mayC c = true ∧ fitC c j = true)
  (hno : ∀ c, cs[m]? = some c → mayC c = false ∨ fitC c m = false) : ∀ k, (hse lf pool).lv k = if k < m then [cAt cs lf k] else [] := by
 refine Chn.lv_ladder (H := hse lf pool) (n := cs.length) (ok := fun j => mayC (cAt cs lf j)) ?_ ?_ (fun i j hi hj h => lad_inj hs hn hi hj h) (fun i j hi _ hj => ?_) hm hm0 (fun j h1 h2 => hok j _ h1 h2 (cAt_lt (by omega))) (fun h => hno _ (cAt_lt h))
 ·show lf = cAt cs lf 0
  unfold cAt
  rw [h0]
  rfl
 ·show pool.Perm _
  rw [← drop_map]
  exact hp
 ·show sgB _ _ = _
  exact lad_sg hs hk hn (cAt_lt hi) (cAt_lt hj)
theorem lad_find (hl : ∀ k, (hse lf pool).lv k = if k < m then [cAt cs lf k] else []) (hm : m ≤ cs.length) {tr : Crt → Bool} {j : Nat} (hj : j < 8) (hjm : j < m) (ht : ∀ c, cs[j]? = some c → tr c = true) (hf : ∀ i c, i < j → cs[i]? = some c → tr c = false) : (hse lf pool).find tr = some (cs.take (j + 1)) := by
 rw [take_map (lf := lf) (by omega)]
 exact Chn.find_ones (H := hse lf pool) (fun k _ => hl k) hj hjm (ht _ (cAt_lt (by omega))) (fun i hi => hf i _ hi (cAt_lt (by omega)))
theorem lad_none (hl : ∀ k, (hse lf pool).lv k = if k < m then [cAt cs lf k] else []) (hm : m ≤ cs.length) {tr : Crt → Bool} (hf : ∀ i c, i < 8 → i < m → cs[i]? = some c → tr c = false) : (hse lf pool).find tr = none :=
 Chn.find_ones_none (H := hse lf pool) (fun k _ => hl k) (fun i h1 h2 => hf i _ h1 h2 (cAt_lt (by omega)))
theorem lad_reach (hs : cs.map Crt.say = ladderB l ks ke) (hn : Letters l) (hl : ∀ k, (hse lf pool).lv k = if k < m then [cAt cs lf k] else []) (hm0 : 0 < m) (hm : m ≤ cs.length) : (hse lf pool).reach = cs.take (min 8 m) := by
 rw [take_map (lf := lf) (by omega)]
 exact Chn.reach_ones (H := hse lf pool) hm0 (fun k _ => hl k) (fun i j hi hj h => lad_inj hs hn (by omega) (by omega) h)
end
structure Works3 (c0 c1 c2 : Crt) : Prop where
 found : ∀ s : Sl, s.xs = c2.raw.xs → (hse c0 [c2, c1]).find (trB [s]) = some [c0, c1, c2]
 none : (hse c0 [c1, c2]).find (trB []) = none
 reach : (hse c0 [c0, c1, c2]).reach.length = 3
 s01 : sgB c0 c1 = true
 s10 : sgB c1 c0 = false
theorem letters3 : Letters rungs3 := fun i r h => by
 rcases i with _ | _ | _ | i
 ·obtain rfl : plainOf 97 = r := by simpa [rungs3] using h
  rfl
 ·obtain rfl : plainOf 98 = r := by simpa [rungs3] using h
  rfl
 ·obtain rfl : plainOf 99 = r := by simpa [rungs3] using h
  rfl
 ·simp [rungs3] at h
theorem lad_plain {l : List Rung} {cs : List Crt} {ks : List Nat} {ke j : Nat} {c : Crt} (hs : cs.map Crt.say = ladderB l ks ke) (hl : ∀ r, l[j]? = some r → r.ca = true ∧ r.path < 0 ∧ r.usage < 0) (hc : cs[j]? = some c) : mayC c = true ∧ fitC c j = true := by
 obtain ⟨r, K, E, hr, hcs, _, _⟩ := lad_len hs j c hc
 obtain ⟨h1, h2, h3⟩ := hl r hr
 have e1 : c.ca = r.ca := congrArg Say.ca hcs
 have e2 : c.path = r.path := congrArg Say.path hcs
 have e3 : c.usage = r.usage := congrArg Say.usage hcs
 unfold mayC fitC
 rw [e1, e2, e3, h1]
 simp [h2, h3]
theorem works3 {c0 c1 c2 : Crt} (hs : [c0, c1, c2].map Crt.say = ladderB rungs3 [1] 3) : Works3 c0 c1 c2 := by
 have hk : ([1] : List Nat) ≠ [] := by simp
 have hsh := lad_short hs rungs3_ok ⟨by decide, fun x hx => by simp at hx; omega⟩
 have hpl : ∀ (j : Nat) (c : Crt), [c0, c1, c2][j]? = some c → mayC c = true ∧ fitC c j = true := fun j c hc => lad_plain hs (fun r hr => by
  have := rungs3_ok r (List.mem_of_getElem? hr)
  refine ⟨?_, by rw [this.path]; decide, by rw [this.usage]; decide⟩
  have hm := List.mem_of_getElem? hr
  simp only [rungs3, List.mem_cons, List.not_mem_nil, or_false] at hm
  rcases hm with rfl | rfl | rfl <;> rfl) hc
 have raw : ∀ (i j : Nat) (c d : Crt), [c0, c1, c2][i]? = some c → [c0, c1, c2][j]? = some d → c.raw.xs = d.raw.xs → i = j := fun i j c d hc hd h => lad_raw hs letters3 (fun c hc => Nat.le_trans (hsh c hc).1 (by decide)) hc hd h
 have sg : ∀ (i j : Nat) (c d : Crt), [c0, c1, c2][i]? = some c → [c0, c1, c2][j]? = some d → sgB c d = (decide (j = i + 1) && mayC d) := fun i j c d hc hd => lad_sg hs hk letters3 hc hd
 have lv : ∀ pool : List Crt, pool.Perm [c1, c2] → ∀ k, (hse c0 pool).lv k = if k < 3 then [cAt [c0, c1, c2] c0 k] else [] := fun pool hp => lad_lv hs hk letters3 rfl hp (by decide) (by simp) (fun j c _ _ hc => hpl j c hc) (fun c hc => by simp at hc)
 refine ⟨fun s hsr => ?_, ?_, ?_, ?_, ?_⟩
 ·refine lad_find (cs := [c0, c1, c2]) (j := 2) (lv [c2, c1] (List.Perm.swap _ _ _)) (by simp) (by decide) (by decide) (fun c hc => ?_) (fun i c hi hc => ?_)
  ·obtain rfl : c2 = c := by simpa using hc
   simp [trB, hsr]
  ·have h : ¬ c2.raw.xs = c.raw.xs := fun h => by
    have := raw 2 i c2 c rfl hc h
    omega
   simp [trB, hsr, h]
 ·exact lad_none (cs := [c0, c1, c2]) (lv [c1, c2] (List.Perm.refl _)) (by simp) (fun i c _ _ _ => rfl)
 ·have hr : (hse c0 [c1, c2]).reach = [c0, c1, c2] := lad_reach (cs := [c0, c1, c2]) (m := 3) hs letters3 (lv [c1, c2] (List.Perm.refl _)) (by decide) (by simp)
  rw [Chn.reach_other (G := hse c0 [c0, c1, c2]) (H := hse c0 [c1, c2]) ⟨rfl, rfl, rfl⟩ (c := c0) (a := []) (b := [c1, c2]) rfl rfl (fun x hx => ?_), hr]
  ·rfl
  ·rw [hr] at hx
   obtain ⟨i, hi⟩ := List.mem_iff_getElem?.1 hx
   show sgB x c0 = false
   rw [sg i 0 x c0 hi rfl]
   simp
 ·rw [sg 0 1 c0 c1 rfl rfl, (hpl 1 c1 rfl).1]
  rfl
 ·rw [sg 1 0 c1 c0 rfl rfl]
  rfl
theorem sl_from1 (g n c : Nat) (h : 2 ≤ n) (h2 : n ≤ c) (hc : c ≤ maxLen) (W : World) : (Instr.sliceAt 31 (.slice (some ⟨g, 0, none⟩) n c) (some (.int .i64 1)) none none).run Tryz.prog W = .ok (.slice (some ⟨g, 24, none⟩) (n - 1) (c - 1)) W := by
 have hm : maxLen = 9223372036854775807 := rfl
 have h1 : (1 : Int) ≤ (n : Int) := by omega
 have h3 : (1 : Int) ≤ (c : Int) := by omega
 have h4 : (n : Int) ≤ (c : Int) := by omega
 have h5 : ¬ c = 1 := by omega
 go_simp
def w4T (gl cl g2 : Nat) (c0 c1 c2 : Crt) (r : Option (List Crt)) : Nat → Tg
 | 0 => tv (.slice (some ⟨gl, 0, none⟩) 3 cl)
 | 1 => tv (.pointer (some ⟨gl, 0 + 0 * 24, none⟩))
 | 2 => tv c0.val
 | 3 => tv (.slice (some ⟨gl, 0, none⟩) 3 cl)
 | 4 => tv (.pointer (some ⟨gl, 0 + 2 * 24, none⟩))
 | 5 => tv c2.val
 | 6 => tv (.slice (some ⟨gl, 0, none⟩) 3 cl)
 | 7 => tv (.pointer (some ⟨gl, 0 + 1 * 24, none⟩))
 | 8 => tv c1.val
 | 9 => tCr [c2, c1]
 | 10 => tv (.func (.func 24) #[.pointer (some ⟨g2, 0, none⟩)] #[])
 | 11 => tFnd r
 | 12 => tFnd r
 | 13 => tCr (r.getD [])
 | 14 => tv (.bool r.isSome)
 | 15 => tCr (r.getD [])
 | _ => tv (.bool r.isSome)
def w5T (gl cl g3 : Nat) (c0 c1 c2 : Crt) (r : Option (List Crt)) : Nat → Tg
 | 0 => tv (.slice (some ⟨gl, 0, none⟩) 3 cl)
 | 1 => tv (.pointer (some ⟨gl, 0 + 0 * 24, none⟩))
 | 2 => tv c0.val
 | 3 => tv (.slice (some ⟨gl, 0, none⟩) 3 cl)
 | 4 => tCr [c1, c2]
 | 5 => tv (.func (.func 24) #[.pointer (some ⟨g3, 0, none⟩)] #[])
 | 6 => tFnd r
 | 7 => tFnd r
 | 8 => tCr (r.getD [])
 | 9 => tv (.bool r.isSome)
 | 10 => tCr (r.getD [])
 | _ => tv (.bool r.isSome)
def w6T (gl cl : Nat) (c0 c1 c2 : Crt) (L : List Crt) : Nat → Tg
 | 2 => tv (.bool false)
 | 6 => tCr [c0, c1, c2]
 | 7 => tCr [c0, c1, c2]
 | 11 => tv (.slice (some ⟨gl, 0, none⟩) 3 cl)
 | 12 => tv (.pointer (some ⟨gl, 0 + 0 * 24, none⟩))
 | 13 => tv c0.val
 | 14 => tCr [c0, c1, c2]
 | 15 => tCr L
 | 16 => tv (.int .i64 3)
 | 20 => tv (.slice (some ⟨gl, 0, none⟩) 3 cl)
 | 21 => tv (.pointer (some ⟨gl, 0 + 0 * 24, none⟩))
 | 22 => tv c0.val
 | 23 => tv (.slice (some ⟨gl, 0, none⟩) 3 cl)
 | 24 => tv (.pointer (some ⟨gl, 0 + 1 * 24, none⟩))
 | 25 => tv c1.val
 | 29 => tv (.slice (some ⟨gl, 0, none⟩) 3 cl)
 | 30 => tv (.pointer (some ⟨gl, 0 + 1 * 24, none⟩))
 | 31 => tv c1.val
 | 32 => tv (.slice (some ⟨gl, 0, none⟩) 3 cl)
 | 33 => tv (.pointer (some ⟨gl, 0 + 0 * 24, none⟩))
 | 34 => tv c0.val
 | 35 => tv (.bool false)
 | _ => tv (.bool true)
theorem rg79 : List.range 79 = [0, 1, 2, 3, 4, 5, 6, 7, 8, 9, 10, 11, 12, 13, 14, 15, 16, 17, 18, 19, 20, 21, 22, 23, 24, 25, 26, 27, 28, 29, 30, 31, 32, 33, 34, 35, 36, 37, 38, 39, 40, 41, 42, 43, 44, 45, 46, 47, 48, 49, 50, 51, 52, 53, 54, 55, 56, 57, 58, 59, 60, 61, 62, 63, 64, 65, 66, 67, 68, 69, 70, 71, 72, 73, 74, 75, 76, 77, 78] := rfl
set_option maxRecDepth 100000 in
set_option maxHeartbeats 12800000 in
theorem works13_any (w : World) : Calls Tryz.prog 22 #[] w (RetW true w) := by
 go_enter Tryz.func22, Tryz.ntmps22
 go_wp2_with fail
 refine (ladder13_any w).mono ?_
 rintro e w1 ⟨cs, v, rfl, own, hl, hsay, hok, e1⟩
 obtain ⟨c0, c1, c2, rfl⟩ : ∃ c0 c1 c2, cs = [c0, c1, c2] := by
  rcases cs with _ | ⟨c0, _ | ⟨c1, _ | ⟨c2, _ | ⟨c3, r⟩⟩⟩⟩ <;> simp at hl
  exact ⟨c0, c1, c2, rfl⟩
 clear hl
 have X := works3 hsay
 have hsh := lad_short hsay rungs3_ok ⟨by decide, fun x hx => by simp at hx; omega⟩
 clear hsay
 obtain ⟨gl, cl, rfl, hlc, hcl, hgl, RL⟩ := own_crt own (by decide)
 clear own
 have P0 : ∀ (lf : Crt) (pl : List Crt), (∀ c ∈ lf :: pl, c ∈ [c0, c1, c2]) → pl.length ≤ 16 → PoolOk w1 lf pl := fun lf pl h hn => ⟨Nat.lt_of_le_of_lt (Nat.zero_le _) RL.1, fun c hc => hok c (h c hc), fun c hc => Nat.le_trans (hsh c (h c hc)).1 (by decide), fun c hc => Nat.le_trans (hsh c (h c hc)).2 (by decide), hn⟩
 have o0 := hok c0 (by simp)
 have o1 := hok c1 (by simp)
 have o2 := hok c2 (by simp)
 have hk2 : w1.cell? ⟨gl, 48, none⟩ = some (.slice c2.raw.A c2.raw.xs.length c2.raw.c) := by
  have R2 := crt_row RL (i := 2) (c := c2) rfl
  have q := R2.cell (i := 0) (v := .slice c2.raw.A c2.raw.xs.length c2.raw.c) rfl
  simpa using q
 have hlc3 : 3 ≤ cl := hlc
 go_wp2_with (refine wpList_build_sls rfl [.tmp 12] [c2.raw] 1 #[(0, .tmp 12)] rfl rfl (by rfl) rfl (by decide) (by decide) ?_)
 obtain ⟨gs, hgs⟩ : ∃ g, g = w1.heap.size := ⟨_, rfl⟩
 obtain ⟨g2, hg2⟩ : ∃ g, g = gs + 1 := ⟨_, rfl⟩
 obtain ⟨g3, hg3⟩ : ∃ g, g = gs + 1 + 1 := ⟨_, rfl⟩
 obtain ⟨u1, hu1⟩ : ∃ u, u = w1.alloc (.cells [c2.raw.val].toArray 22) := ⟨_, rfl⟩
 obtain ⟨u2, hu2⟩ : ∃ u, u = u1.alloc (.cells [Value.slice (some ⟨gs, 0, none⟩) 1 1].toArray 34) := ⟨_, rfl⟩
 obtain ⟨w4, hw4⟩ : ∃ u, u = u2.alloc (.cells [Value.slice none 0 0].toArray 34) := ⟨_, rfl⟩
 have zu1 : u1.heap.size = g2 := by rw [hu1, hg2, hgs]; simp
 have zu2 : u2.heap.size = g3 := by rw [hu2, hg3, ← hg2, ← zu1]; simp
 have f1 : Below w1.heap.size w1 u1 := by rw [hu1]; exact (Below.refl _ _).alloc (Nat.le_refl _) _
 have f2 : Below u1.heap.size u1 u2 := by rw [hu2]; exact (Below.refl _ _).alloc (Nat.le_refl _) _
 have f3 : Below u2.heap.size u2 w4 := by rw [hw4]; exact (Below.refl _ _).alloc (Nat.le_refl _) _
 have R1 : Row u1 gs 0 [c2.raw.val] := by rw [hu1, hgs]; exact row_new _
 have R2 : Row u2 g2 0 [Value.slice (some ⟨gs, 0, none⟩) 1 1] := by rw [hu2, ← zu1]; exact row_new _
 have R3 : Row w4 g3 0 [Value.slice none 0 0] := by rw [hw4, ← zu2]; exact row_new _
 replace R1 := (R1.below f2).below f3
 replace R2 := R2.below f3
 have e14 : Below w1.heap.size w1 w4 := (f1.trans (f2.mono f1.size)).trans (f3.mono (Nat.le_trans f1.size f2.size))
 refine wp_world (W' := w4) (by rw [hw4, hu2, hu1, hgs]) ?_
 rw [← hgs, ← hg3, ← hg2]
 clear hw4 hu2 hu1 zu1 zu2 f1 f2 f3
 have A2 : Anc w4 24 #[.pointer (some ⟨g2, 0, none⟩)] (trB [c2.raw]) := anc_is (t := ⟨some ⟨gs, 0, none⟩, 1, [c2.raw]⟩) (R2.2 0 _ rfl) ⟨by show 1 ≤ 1; decide, by show 1 ≤ 9223372036854775807; decide, .inr ⟨gs, 0, rfl, R1⟩, fun s h => by
  rw [List.mem_singleton.1 h]
  exact o2.raw.below e14⟩
 have A3 : Anc w4 24 #[.pointer (some ⟨g3, 0, none⟩)] (trB []) := anc_is (t := ⟨none, 0, []⟩) (R3.2 0 _ rfl) ⟨by decide, by decide, .inl rfl, fun s h => by cases h⟩
 have x1 : (hse c0 [c2, c1]).find (trB [c2.raw]) = some [c0, c1, c2] := X.found c2.raw rfl
 have x2 : (hse c0 [c1, c2]).find (trB []) = none := X.none
 clear R1 R2 R3 hk2
 replace RL := RL.below e14
 replace o0 := o0.below e14
 replace o1 := o1.below e14
 replace o2 := o2.below e14
 have P4 := fun lf pl h hn => (P0 lf pl h hn).below e14
 replace e1 := e1.trans (e14.mono e1.size)
 clear P0 e14 hok
 replace hgs := Lib.hid hgs
 replace hg2 := Lib.hid hg2
 replace hg3 := Lib.hid hg3
 have C0 : Row w4 gl (0 + 0 * 24) c0.cells := crt_row RL (i := 0) rfl
 have C1 : Row w4 gl (0 + 1 * 24) c1.cells := crt_row RL (i := 1) rfl
 have C2 : Row w4 gl (0 + 2 * 24) c2.cells := crt_row RL (i := 2) rfl
 have hd0 : Below w4.heap.size w4 w4.drew := below_drewN (Below.refl _ _) 1
 refine wp_region_steps (by kernel_rfl) (fun i => if i = 12 then 16 else if i = 13 then 29 else if i = 14 then 30 else if i = 15 then 4 else if i = 16 then 5 else 17 + i) (fun i v W => Sp ((w4T gl cl g2 c0 c1 c2 (some [c0, c1, c2])) i) v W) (fun W => Below w4.heap.size w4 W) (by kernel_rfl) (by kernel_rfl) ?inj ?lt (fun i v W W' h hs => h.mono hs) hd0 ⟨?s0, ?s1, ?s2, ?s3, ?s4, ?s5, ?s6, ?s7, ?s8, ?s9, ?s10, ?s11, ?s12, ?s13, ?s14, ?s15, ?s16, trivial⟩ ?fin
 case inj =>
  intro i j hi hj h
  have h40 : i < 17 ∧ j < 17 := ⟨hi, hj⟩
  have h : (if i = 12 then 16 else if i = 13 then 29 else if i = 14 then 30 else if i = 15 then 4 else if i = 16 then 5 else 17 + i) = (if j = 12 then 16 else if j = 13 then 29 else if j = 14 then 30 else if j = 15 then 4 else if j = 16 then 5 else 17 + j) := h
  (repeat' split at h) <;> omega
 case lt =>
  intro i hi
  have h40 : i < 17 := hi
  show (if i = 12 then 16 else if i = 13 then 29 else if i = 14 then 30 else if i = 15 then 4 else if i = 16 then 5 else 17 + i) < 79
  (repeat' split) <;> omega
 case s0 => exact (st_move rfl (.inl rfl) (src_base (fun i hi => by have hi : i < 17 := hi; show (if i = 12 then 16 else if i = 13 then 29 else if i = 14 then 30 else if i = 15 then 4 else if i = 16 then 5 else 17 + i) ≠ _; (repeat' split) <;> omega) rfl))
 case s1 => exact (st_index rfl rfl rfl (src_dep (j := 0) (e := ⟨0, .data⟩) (by simp) rfl rfl rfl) src_const (fun W => ia_cert gl 0 3 cl 0 (by decide) W))
 case s2 => exact (st_loadR (b := gl) (off := (0 + 0 * 24)) rfl rfl rfl (src_dep (j := 1) (e := ⟨1, .data⟩) (by simp) rfl rfl rfl) Tryz.underlying30 rfl (sz_crt _) (fun W h => (C0.below h).rng))
 case s3 => exact (st_move rfl (.inl rfl) (src_base (fun i hi => by have hi : i < 17 := hi; show (if i = 12 then 16 else if i = 13 then 29 else if i = 14 then 30 else if i = 15 then 4 else if i = 16 then 5 else 17 + i) ≠ _; (repeat' split) <;> omega) rfl))
 case s4 => exact (st_index rfl rfl rfl (src_dep (j := 3) (e := ⟨3, .data⟩) (by simp) rfl rfl rfl) src_const (fun W => ia_cert gl 0 3 cl 2 (by decide) W))
 case s5 => exact (st_loadR (b := gl) (off := (0 + 2 * 24)) rfl rfl rfl (src_dep (j := 4) (e := ⟨4, .data⟩) (by simp) rfl rfl rfl) Tryz.underlying30 rfl (sz_crt _) (fun W h => (C2.below h).rng))
 case s6 => exact (st_move rfl (.inl rfl) (src_base (fun i hi => by have hi : i < 17 := hi; show (if i = 12 then 16 else if i = 13 then 29 else if i = 14 then 30 else if i = 15 then 4 else if i = 16 then 5 else 17 + i) ≠ _; (repeat' split) <;> omega) rfl))
 case s7 => exact (st_index rfl rfl rfl (src_dep (j := 6) (e := ⟨6, .data⟩) (by simp) rfl rfl rfl) src_const (fun W => ia_cert gl 0 3 cl 1 (by decide) W))
 case s8 => exact (st_loadR (b := gl) (off := (0 + 1 * 24)) rfl rfl rfl (src_dep (j := 7) (e := ⟨7, .data⟩) (by simp) rfl rfl rfl) Tryz.underlying30 rfl (sz_crt _) (fun W h => (C1.below h).rng))
 case s9 => exact (st_cert2 rfl (.tmp 22) (.tmp 25) rfl rfl (src_dep (j := 5) (e := ⟨5, .data⟩) (by simp) rfl rfl rfl) (src_dep (j := 8) (e := ⟨8, .data⟩) (by simp) rfl rfl rfl))
 case s10 => exact (st_bound rfl (.tmp 2) rfl rfl (src_base (fun i hi => by have hi : i < 17 := hi; show (if i = 12 then 16 else if i = 13 then 29 else if i = 14 then 30 else if i = 15 then 4 else if i = 16 then 5 else 17 + i) ≠ 2; (repeat' split) <;> omega) rfl))
 case s11 => exact (st_find (lf := c0) (cs := [c2, c1]) (tr := trB [c2.raw]) rfl (.tmp 19) (.tmp 26) (.tmp 27) _ rfl (by rw [x1]; rfl) (src_dep (j := 2) (e := ⟨2, .data⟩) (by simp) rfl rfl rfl) (src_dep (j := 9) (e := ⟨9, .data⟩) (by simp) rfl rfl rfl) (src_dep (j := 10) (e := ⟨10, .data⟩) (by simp) rfl rfl rfl) A2 (P4 c0 [c2, c1] (by simp) (by simp)))
 case s12 => exact (st_move rfl (.inl rfl) (src_dep (j := 11) (e := ⟨11, .data⟩) (by simp) rfl rfl rfl))
 case s13 => exact (st_ext0 rfl (.tmp 16) rfl rfl (src_dep (j := 12) (e := ⟨12, .data⟩) (by simp) rfl rfl rfl))
 case s14 => exact (st_ext1 rfl (.tmp 16) rfl _ rfl rfl (src_dep (j := 12) (e := ⟨12, .data⟩) (by simp) rfl rfl rfl))
 case s15 => exact (st_move rfl (.inr rfl) (src_dep (j := 13) (e := ⟨13, .data⟩) (by simp) rfl rfl rfl))
 case s16 => exact (st_move rfl (.inr rfl) (src_dep (j := 14) (e := ⟨14, .data⟩) (by simp) rfl rfl rfl))
 case fin =>
  intro a w5 h1 h2 h3 h4 h5
  have hq4 := (h4 15 (by show 15 < 17; omega)).now
  have hq5 := (h4 16 (by show 16 < 17; omega)).now
  obtain ⟨A4, n4, b4, i4, j4, q4⟩ := hq4
  replace b4 : a.tmps.getD 4 undef = .slice A4 3 n4 := b4
  have b5 : a.tmps.getD 5 undef = .bool true := hq5
  clear hq5
  have hz : a.tmps.size = 79 := h2
  have hdf : a.defers = [] := h1
  have b0 : a.tmps.getD 0 undef = .bool false := h3 0 (fun i (h : i < 17) => by show (if i = 12 then 16 else if i = 13 then 29 else if i = 14 then 30 else if i = 15 then 4 else if i = 16 then 5 else 17 + i) ≠ 0; (repeat' split) <;> omega)
  have b1 : a.tmps.getD 1 undef = .slice (some ⟨gl, 0, none⟩) 3 cl := h3 1 (fun i (h : i < 17) => by show (if i = 12 then 16 else if i = 13 then 29 else if i = 14 then 30 else if i = 15 then 4 else if i = 16 then 5 else 17 + i) ≠ 1; (repeat' split) <;> omega)
  have b2 : a.tmps.getD 2 undef = .pointer (some ⟨g2, 0, none⟩) := h3 2 (fun i (h : i < 17) => by show (if i = 12 then 16 else if i = 13 then 29 else if i = 14 then 30 else if i = 15 then 4 else if i = 16 then 5 else 17 + i) ≠ 2; (repeat' split) <;> omega)
  have b3 : a.tmps.getD 3 undef = .pointer (some ⟨g3, 0, none⟩) := h3 3 (fun i (h : i < 17) => by show (if i = 12 then 16 else if i = 13 then 29 else if i = 14 then 30 else if i = 15 then 4 else if i = 16 then 5 else 17 + i) ≠ 3; (repeat' split) <;> omega)
  rw [act_eq hz hdf]
  simp only [rg79, List.map_cons, List.map_nil, b0, b1, b2, b3, b4, b5]
  clear b0 b1 b2 b3 b4 b5 hz hdf h1 h2 h3 h4
  have hb45 := h5
  replace e1 := e1.trans (h5.mono e1.size)
  replace RL := RL.below h5
  replace C0 := C0.below h5
  replace C1 := C1.below h5
  replace C2 := C2.below h5
  replace o0 := o0.below h5
  replace o1 := o1.below h5
  replace o2 := o2.below h5
  replace A3 := A3.below h5
  have P5 := fun lf pl h hn => (P4 lf pl h hn).below h5
  clear P4 A2 h5 hb45
  go_wp2_with fail
  have C12 : Row w5 gl 24 (crtCells [c1, c2]) := ⟨RL.1, fun i v hv => by
   have q := RL.2 (24 + i) v (by
    show (crtCells ([c0] ++ [c1, c2]))[24 + i]? = some v
    unfold crtCells at *
    rw [List.map_append, List.flatten_append, List.getElem?_append_right (by simp [Crt.cells_length])]
    simpa [Crt.cells_length] using hv)
   rw [Nat.zero_add] at q
   exact q⟩
  have hd0 : Below w5.heap.size w5 w5.drew := below_drewN (Below.refl _ _) 1
  refine wp_region_steps (by kernel_rfl) (fun i => if i = 7 then 31 else if i = 8 then 39 else if i = 9 then 40 else if i = 10 then 6 else if i = 11 then 7 else 32 + i) (fun i v W => Sp ((w5T gl cl g3 c0 c1 c2 none) i) v W) (fun W => Below w5.heap.size w5 W) (by kernel_rfl) (by kernel_rfl) ?inj ?lt (fun i v W W' h hs => h.mono hs) hd0 ⟨?s0, ?s1, ?s2, ?s3, ?s4, ?s5, ?s6, ?s7, ?s8, ?s9, ?s10, ?s11, trivial⟩ ?fin
  case inj =>
   intro i j hi hj h
   have h40 : i < 12 ∧ j < 12 := ⟨hi, hj⟩
   have h : (if i = 7 then 31 else if i = 8 then 39 else if i = 9 then 40 else if i = 10 then 6 else if i = 11 then 7 else 32 + i) = (if j = 7 then 31 else if j = 8 then 39 else if j = 9 then 40 else if j = 10 then 6 else if j = 11 then 7 else 32 + j) := h
   (repeat' split at h) <;> omega
  case lt =>
   intro i hi
   have h40 : i < 12 := hi
   show (if i = 7 then 31 else if i = 8 then 39 else if i = 9 then 40 else if i = 10 then 6 else if i = 11 then 7 else 32 + i) < 79
   (repeat' split) <;> omega
  case s0 => exact (st_move rfl (.inl rfl) (src_base (fun i hi => by have hi : i < 12 := hi; show (if i = 7 then 31 else if i = 8 then 39 else if i = 9 then 40 else if i = 10 then 6 else if i = 11 then 7 else 32 + i) ≠ _; (repeat' split) <;> omega) rfl))
  case s1 => exact (st_index rfl rfl rfl (src_dep (j := 0) (e := ⟨0, .data⟩) (by simp) rfl rfl rfl) src_const (fun W => ia_cert gl 0 3 cl 0 (by decide) W))
  case s2 => exact (st_loadR (b := gl) (off := (0 + 0 * 24)) rfl rfl rfl (src_dep (j := 1) (e := ⟨1, .data⟩) (by simp) rfl rfl rfl) Tryz.underlying30 rfl (sz_crt _) (fun W h => (C0.below h).rng))
  case s3 => exact (st_move rfl (.inl rfl) (src_base (fun i hi => by have hi : i < 12 := hi; show (if i = 7 then 31 else if i = 8 then 39 else if i = 9 then 40 else if i = 10 then 6 else if i = 11 then 7 else 32 + i) ≠ _; (repeat' split) <;> omega) rfl))
  case s4 => exact (st_run rfl fun a W hba hd hg => by
    have h1 : a.eval (.tmp 35) = .slice (some ⟨gl, 0, none⟩) 3 cl := (hd ⟨3, .data⟩ (by simp) rfl).now
    have hrun := sl_from1 gl 3 cl (by decide) hlc3 hcl W
    refine ⟨.slice (some ⟨gl, 24, none⟩) 2 (cl - 1), W, ?_, Sub.refl W, hg, Sp.tCr (L := [c1, c2]) (by show 2 ≤ _; omega) (by omega) (.inr ⟨gl, 24, rfl, ?_⟩)⟩
    ·unfold execOp
     have h2 : (some (Operand.const (.int .i64 1))).map a.eval = some (.int .i64 1) := rfl
     simp only [h1, h2, Option.map_none]
     first | exact congrArg _ hrun | (simp only [Sem.run_bind, hrun]; rfl) | go_simp
    ·have hR := C12.below hg
     exact hR)
  case s5 => exact (st_bound rfl (.tmp 3) rfl rfl (src_base (fun i hi => by have hi : i < 12 := hi; show (if i = 7 then 31 else if i = 8 then 39 else if i = 9 then 40 else if i = 10 then 6 else if i = 11 then 7 else 32 + i) ≠ 3; (repeat' split) <;> omega) rfl))
  case s6 => exact (st_find (lf := c0) (cs := [c1, c2]) (tr := trB []) rfl (.tmp 34) (.tmp 36) (.tmp 37) _ rfl (by rw [x2]; rfl) (src_dep (j := 2) (e := ⟨2, .data⟩) (by simp) rfl rfl rfl) (src_dep (j := 4) (e := ⟨4, .data⟩) (by simp) rfl rfl rfl) (src_dep (j := 5) (e := ⟨5, .data⟩) (by simp) rfl rfl rfl) A3 (P5 c0 [c1, c2] (by simp) (by simp)))
  case s7 => exact (st_move rfl (.inl rfl) (src_dep (j := 6) (e := ⟨6, .data⟩) (by simp) rfl rfl rfl))
  case s8 => exact (st_ext0 rfl (.tmp 31) rfl rfl (src_dep (j := 7) (e := ⟨7, .data⟩) (by simp) rfl rfl rfl))
  case s9 => exact (st_ext1 rfl (.tmp 31) rfl _ rfl rfl (src_dep (j := 7) (e := ⟨7, .data⟩) (by simp) rfl rfl rfl))
  case s10 => exact (st_move rfl (.inr rfl) (src_dep (j := 8) (e := ⟨8, .data⟩) (by simp) rfl rfl rfl))
  case s11 => exact (st_move rfl (.inr rfl) (src_dep (j := 9) (e := ⟨9, .data⟩) (by simp) rfl rfl rfl))
  case fin =>
   intro a w6 h1 h2 h3 h4 h5
   have hq6 := (h4 10 (by show 10 < 12; omega)).now
   have hq7 := (h4 11 (by show 11 < 12; omega)).now
   obtain ⟨A6, n6, b6, i6, j6, q6⟩ := hq6
   replace b6 : a.tmps.getD 6 undef = .slice A6 0 n6 := b6
   have b7 : a.tmps.getD 7 undef = .bool false := hq7
   clear hq7
   have hz : a.tmps.size = 79 := h2
   have hdf : a.defers = [] := h1
   have b0 : a.tmps.getD 0 undef = .bool false := h3 0 (fun i (h : i < 12) => by show (if i = 7 then 31 else if i = 8 then 39 else if i = 9 then 40 else if i = 10 then 6 else if i = 11 then 7 else 32 + i) ≠ 0; (repeat' split) <;> omega)
   have b1 : a.tmps.getD 1 undef = .slice (some ⟨gl, 0, none⟩) 3 cl := h3 1 (fun i (h : i < 12) => by show (if i = 7 then 31 else if i = 8 then 39 else if i = 9 then 40 else if i = 10 then 6 else if i = 11 then 7 else 32 + i) ≠ 1; (repeat' split) <;> omega)
   have b2 : a.tmps.getD 2 undef = .pointer (some ⟨g2, 0, none⟩) := h3 2 (fun i (h : i < 12) => by show (if i = 7 then 31 else if i = 8 then 39 else if i = 9 then 40 else if i = 10 then 6 else if i = 11 then 7 else 32 + i) ≠ 2; (repeat' split) <;> omega)
   have b3 : a.tmps.getD 3 undef = .pointer (some ⟨g3, 0, none⟩) := h3 3 (fun i (h : i < 12) => by show (if i = 7 then 31 else if i = 8 then 39 else if i = 9 then 40 else if i = 10 then 6 else if i = 11 then 7 else 32 + i) ≠ 3; (repeat' split) <;> omega)
   have b4 : a.tmps.getD 4 undef = .slice A4 3 n4 := h3 4 (fun i (h : i < 12) => by show (if i = 7 then 31 else if i = 8 then 39 else if i = 9 then 40 else if i = 10 then 6 else if i = 11 then 7 else 32 + i) ≠ 4; (repeat' split) <;> omega)
   have b5 : a.tmps.getD 5 undef = .bool true := h3 5 (fun i (h : i < 12) => by show (if i = 7 then 31 else if i = 8 then 39 else if i = 9 then 40 else if i = 10 then 6 else if i = 11 then 7 else 32 + i) ≠ 5; (repeat' split) <;> omega)
   rw [act_eq hz hdf]
   simp only [rg79, List.map_cons, List.map_nil, b0, b1, b2, b3, b4, b5, b6, b7]
   clear b0 b1 b2 b3 b4 b5 b6 b7 hz hdf h1 h2 h3 h4
   replace e1 := e1.trans (h5.mono e1.size)
   replace RL := RL.below h5
   replace C0 := C0.below h5
   replace C1 := C1.below h5
   replace o0 := o0.below h5
   replace o1 := o1.below h5
   replace o2 := o2.below h5
   replace q4 := q4.below h5
   have P6 := fun lf pl h hn => (P5 lf pl h hn).below h5
   clear P5 A3 h5 C2 C12
   have okL : ∀ c ∈ [c0, c1, c2], c.ok w6 := fun c hc => by
    simp only [List.mem_cons, List.not_mem_nil, or_false] at hc
    rcases hc with rfl | rfl | rfl
    ·exact o0
    ·exact o1
    ·exact o2
   obtain ⟨LR, hLR⟩ : ∃ L, L = (hse c0 [c0, c1, c2]).reach := ⟨_, rfl⟩
   have x3 : (LR.length : Int) = 3 := by rw [hLR, X.reach]; rfl
   replace hLR := Lib.hid hLR
   have hs0 := hsh c0 (by simp)
   have hs1 := hsh c1 (by simp)
   go_wp2_with fail
   have hd0 : Below w6.heap.size w6 w6.drew := below_drewN (Below.refl _ _) 1
   refine wp_region_steps (by kernel_rfl) (fun i => if i = 38 then 0 else 41 + i) (fun i v W => Sp ((w6T gl cl c0 c1 c2 LR) i) v W) (fun W => Below w6.heap.size w6 W) (by kernel_rfl) (by kernel_rfl) ?inj ?lt (fun i v W W' h hs => h.mono hs) hd0 ⟨?s0, ?s1, ?s2, ?s3, ?s4, ?s5, ?s6, ?s7, ?s8, ?s9, ?s10, ?s11, ?s12, ?s13, ?s14, ?s15, ?s16, ?s17, ?s18, ?s19, ?s20, ?s21, ?s22, ?s23, ?s24, ?s25, ?s26, ?s27, ?s28, ?s29, ?s30, ?s31, ?s32, ?s33, ?s34, ?s35, ?s36, ?s37, ?s38, trivial⟩ ?fin
   case inj =>
    intro i j hi hj h
    have h40 : i < 39 ∧ j < 39 := ⟨hi, hj⟩
    have h : (if i = 38 then 0 else 41 + i) = (if j = 38 then 0 else 41 + j) := h
    (repeat' split at h) <;> omega
   case lt =>
    intro i hi
    have h40 : i < 39 := hi
    show (if i = 38 then 0 else 41 + i) < 79
    (repeat' split) <;> omega
   case s0 => exact (st_move rfl (.inl rfl) (src_base (fun i hi => by have hi : i < 39 := hi; show (if i = 38 then 0 else 41 + i) ≠ _; (repeat' split) <;> omega) rfl))
   case s1 => exact (st_move rfl (.inl rfl) (src_dep (j := 0) (e := ⟨0, .data⟩) (by simp) rfl rfl rfl))
   case s2 => exact (st_guard (j := 1) (b := true) (e := ⟨1, .guard⟩) rfl (by simp) rfl rfl rfl rfl (st_move rfl (.inl rfl) (src_base (fun i hi => by have hi : i < 39 := hi; show (if i = 38 then 0 else 41 + i) ≠ _; (repeat' split) <;> omega) rfl)))
   case s3 => exact (st_guard (j := 1) (b := true) (e := ⟨1, .guard⟩) rfl (by simp) rfl rfl rfl rfl (st_pure (V := .bool false) (U := .bool true) rfl (src_dep (j := 2) (e := ⟨2, .data⟩) (by simp) rfl rfl rfl) (fun a h W => by
      have h : a.eval (.tmp 43) = .bool false := h
      unfold execOp
      simp only [h]
      rfl) (fun W hg => Sp.tv rfl)))
   case s4 => exact (st_pick rfl rfl (src_dep (j := 1) (e := ⟨1, .data⟩) (by simp) rfl rfl rfl) (src_dep (j := 3) (e := ⟨3, .data⟩) (by simp) rfl rfl rfl))
   case s5 => exact (st_move rfl (.inl rfl) (src_dep (j := 4) (e := ⟨4, .data⟩) (by simp) rfl rfl rfl))
   case s6 => exact (st_guard (j := 5) (b := true) (e := ⟨5, .guard⟩) rfl (by simp) rfl rfl rfl rfl (st_move rfl (.inl rfl) (Src.cr (L := [c0, c1, c2]) (src_base (fun i hi => by have hi : i < 39 := hi; show (if i = 38 then 0 else 41 + i) ≠ 4; (repeat' split) <;> omega) rfl) i4 j4 q4)))
   case s7 => exact (st_guard (j := 5) (b := true) (e := ⟨5, .guard⟩) rfl (by simp) rfl rfl rfl rfl (st_move rfl (.inl rfl) (Src.cr (L := [c0, c1, c2]) (src_base (fun i hi => by have hi : i < 39 := hi; show (if i = 38 then 0 else 41 + i) ≠ 1; (repeat' split) <;> omega) rfl) hlc3 hcl (.inr ⟨gl, 0, rfl, RL⟩))))
   case s8 => exact (st_guard (j := 5) (b := true) (e := ⟨5, .guard⟩) rfl (by simp) rfl rfl rfl rfl (st_same (cs := [c0, c1, c2]) (ds := [c0, c1, c2]) rfl (.tmp 47) (.tmp 48) _ rfl true (decide_eq_true rfl) rfl (src_dep (j := 6) (e := ⟨6, .data⟩) (by simp) rfl rfl rfl) (src_dep (j := 7) (e := ⟨7, .data⟩) (by simp) rfl rfl rfl) okL okL (by simp)))
   case s9 => exact (st_pick rfl rfl (src_dep (j := 5) (e := ⟨5, .data⟩) (by simp) rfl rfl rfl) (src_dep (j := 8) (e := ⟨8, .data⟩) (by simp) rfl rfl rfl))
   case s10 => exact (st_move rfl (.inl rfl) (src_dep (j := 9) (e := ⟨9, .data⟩) (by simp) rfl rfl rfl))
   case s11 => exact (st_guard (j := 10) (b := true) (e := ⟨10, .guard⟩) rfl (by simp) rfl rfl rfl rfl (st_move rfl (.inl rfl) (src_base (fun i hi => by have hi : i < 39 := hi; show (if i = 38 then 0 else 41 + i) ≠ _; (repeat' split) <;> omega) rfl)))
   case s12 => exact (st_guard (j := 10) (b := true) (e := ⟨10, .guard⟩) rfl (by simp) rfl rfl rfl rfl (st_index rfl rfl rfl (src_dep (j := 11) (e := ⟨11, .data⟩) (by simp) rfl rfl rfl) src_const (fun W => ia_cert gl 0 3 cl 0 (by decide) W)))
   case s13 => exact (st_guard (j := 10) (b := true) (e := ⟨10, .guard⟩) rfl (by simp) rfl rfl rfl rfl (st_loadR (b := gl) (off := (0 + 0 * 24)) rfl rfl rfl (src_dep (j := 12) (e := ⟨12, .data⟩) (by simp) rfl rfl rfl) Tryz.underlying30 rfl (sz_crt _) (fun W h => (C0.below h).rng)))
   case s14 => exact (st_guard (j := 10) (b := true) (e := ⟨10, .guard⟩) rfl (by simp) rfl rfl rfl rfl (st_move rfl (.inl rfl) (Src.cr (L := [c0, c1, c2]) (src_base (fun i hi => by have hi : i < 39 := hi; show (if i = 38 then 0 else 41 + i) ≠ 1; (repeat' split) <;> omega) rfl) hlc3 hcl (.inr ⟨gl, 0, rfl, RL⟩))))
   case s15 => exact (st_guard (j := 10) (b := true) (e := ⟨10, .guard⟩) rfl (by simp) rfl rfl rfl rfl (st_reach (lf := c0) (cs := [c0, c1, c2]) rfl (.tmp 54) (.tmp 55) _ rfl (by rw [← hLR.out]; rfl) (src_dep (j := 13) (e := ⟨13, .data⟩) (by simp) rfl rfl rfl) (src_dep (j := 14) (e := ⟨14, .data⟩) (by simp) rfl rfl rfl) (P6 c0 [c0, c1, c2] (by simp) (by simp))))
   case s16 => exact (st_guard (j := 10) (b := true) (e := ⟨10, .guard⟩) rfl (by simp) rfl rfl rfl rfl (st_len rfl (.tmp 56) rfl 3 x3 rfl (src_dep (j := 15) (e := ⟨15, .data⟩) (by simp) rfl rfl rfl)))
   case s17 => exact (st_guard (j := 10) (b := true) (e := ⟨10, .guard⟩) rfl (by simp) rfl rfl rfl rfl (st_pure (V := .int .i64 3) (U := .bool true) rfl (src_dep (j := 16) (e := ⟨16, .data⟩) (by simp) rfl rfl rfl) (fun a h W => by
     have h : a.eval (.tmp 57) = .int .i64 3 := h
     unfold execOp
     simp only [h]
     rfl) (fun W hg => Sp.tv rfl)))
   case s18 => exact (st_pick rfl rfl (src_dep (j := 10) (e := ⟨10, .data⟩) (by simp) rfl rfl rfl) (src_dep (j := 17) (e := ⟨17, .data⟩) (by simp) rfl rfl rfl))
   case s19 => exact (st_move rfl (.inl rfl) (src_dep (j := 18) (e := ⟨18, .data⟩) (by simp) rfl rfl rfl))
   case s20 => exact (st_guard (j := 19) (b := true) (e := ⟨19, .guard⟩) rfl (by simp) rfl rfl rfl rfl (st_move rfl (.inl rfl) (src_base (fun i hi => by have hi : i < 39 := hi; show (if i = 38 then 0 else 41 + i) ≠ _; (repeat' split) <;> omega) rfl)))
   case s21 => exact (st_guard (j := 19) (b := true) (e := ⟨19, .guard⟩) rfl (by simp) rfl rfl rfl rfl (st_index rfl rfl rfl (src_dep (j := 20) (e := ⟨20, .data⟩) (by simp) rfl rfl rfl) src_const (fun W => ia_cert gl 0 3 cl 0 (by decide) W)))
   case s22 => exact (st_guard (j := 19) (b := true) (e := ⟨19, .guard⟩) rfl (by simp) rfl rfl rfl rfl (st_loadR (b := gl) (off := (0 + 0 * 24)) rfl rfl rfl (src_dep (j := 21) (e := ⟨21, .data⟩) (by simp) rfl rfl rfl) Tryz.underlying30 rfl (sz_crt _) (fun W h => (C0.below h).rng)))
   case s23 => exact (st_guard (j := 19) (b := true) (e := ⟨19, .guard⟩) rfl (by simp) rfl rfl rfl rfl (st_move rfl (.inl rfl) (src_base (fun i hi => by have hi : i < 39 := hi; show (if i = 38 then 0 else 41 + i) ≠ _; (repeat' split) <;> omega) rfl)))
   case s24 => exact (st_guard (j := 19) (b := true) (e := ⟨19, .guard⟩) rfl (by simp) rfl rfl rfl rfl (st_index rfl rfl rfl (src_dep (j := 23) (e := ⟨23, .data⟩) (by simp) rfl rfl rfl) src_const (fun W => ia_cert gl 0 3 cl 1 (by decide) W)))
   case s25 => exact (st_guard (j := 19) (b := true) (e := ⟨19, .guard⟩) rfl (by simp) rfl rfl rfl rfl (st_loadR (b := gl) (off := (0 + 1 * 24)) rfl rfl rfl (src_dep (j := 24) (e := ⟨24, .data⟩) (by simp) rfl rfl rfl) Tryz.underlying30 rfl (sz_crt _) (fun W h => (C1.below h).rng)))
   case s26 => exact (st_guard (j := 19) (b := true) (e := ⟨19, .guard⟩) rfl (by simp) rfl rfl rfl rfl (st_signed (c := c0) (d := c1) rfl (.tmp 63) (.tmp 66) _ rfl true X.s01 rfl (src_dep (j := 22) (e := ⟨22, .data⟩) (by simp) rfl rfl rfl) (src_dep (j := 25) (e := ⟨25, .data⟩) (by simp) rfl rfl rfl) o0 o1 (Nat.le_trans hs0.1 (by decide)) (Nat.le_trans hs1.2 (by decide))))
   case s27 => exact (st_pick rfl rfl (src_dep (j := 19) (e := ⟨19, .data⟩) (by simp) rfl rfl rfl) (src_dep (j := 26) (e := ⟨26, .data⟩) (by simp) rfl rfl rfl))
   case s28 => exact (st_move rfl (.inl rfl) (src_dep (j := 27) (e := ⟨27, .data⟩) (by simp) rfl rfl rfl))
   case s29 => exact (st_guard (j := 28) (b := true) (e := ⟨28, .guard⟩) rfl (by simp) rfl rfl rfl rfl (st_move rfl (.inl rfl) (src_base (fun i hi => by have hi : i < 39 := hi; show (if i = 38 then 0 else 41 + i) ≠ _; (repeat' split) <;> omega) rfl)))
   case s30 => exact (st_guard (j := 28) (b := true) (e := ⟨28, .guard⟩) rfl (by simp) rfl rfl rfl rfl (st_index rfl rfl rfl (src_dep (j := 29) (e := ⟨29, .data⟩) (by simp) rfl rfl rfl) src_const (fun W => ia_cert gl 0 3 cl 1 (by decide) W)))
   case s31 => exact (st_guard (j := 28) (b := true) (e := ⟨28, .guard⟩) rfl (by simp) rfl rfl rfl rfl (st_loadR (b := gl) (off := (0 + 1 * 24)) rfl rfl rfl (src_dep (j := 30) (e := ⟨30, .data⟩) (by simp) rfl rfl rfl) Tryz.underlying30 rfl (sz_crt _) (fun W h => (C1.below h).rng)))
   case s32 => exact (st_guard (j := 28) (b := true) (e := ⟨28, .guard⟩) rfl (by simp) rfl rfl rfl rfl (st_move rfl (.inl rfl) (src_base (fun i hi => by have hi : i < 39 := hi; show (if i = 38 then 0 else 41 + i) ≠ _; (repeat' split) <;> omega) rfl)))
   case s33 => exact (st_guard (j := 28) (b := true) (e := ⟨28, .guard⟩) rfl (by simp) rfl rfl rfl rfl (st_index rfl rfl rfl (src_dep (j := 32) (e := ⟨32, .data⟩) (by simp) rfl rfl rfl) src_const (fun W => ia_cert gl 0 3 cl 0 (by decide) W)))
   case s34 => exact (st_guard (j := 28) (b := true) (e := ⟨28, .guard⟩) rfl (by simp) rfl rfl rfl rfl (st_loadR (b := gl) (off := (0 + 0 * 24)) rfl rfl rfl (src_dep (j := 33) (e := ⟨33, .data⟩) (by simp) rfl rfl rfl) Tryz.underlying30 rfl (sz_crt _) (fun W h => (C0.below h).rng)))
   case s35 => exact (st_guard (j := 28) (b := true) (e := ⟨28, .guard⟩) rfl (by simp) rfl rfl rfl rfl (st_signed (c := c1) (d := c0) rfl (.tmp 72) (.tmp 75) _ rfl false X.s10 rfl (src_dep (j := 31) (e := ⟨31, .data⟩) (by simp) rfl rfl rfl) (src_dep (j := 34) (e := ⟨34, .data⟩) (by simp) rfl rfl rfl) o1 o0 (Nat.le_trans hs1.1 (by decide)) (Nat.le_trans hs0.2 (by decide))))
   case s36 => exact (st_guard (j := 28) (b := true) (e := ⟨28, .guard⟩) rfl (by simp) rfl rfl rfl rfl (st_pure (V := .bool false) (U := .bool true) rfl (src_dep (j := 35) (e := ⟨35, .data⟩) (by simp) rfl rfl rfl) (fun a h W => by
      have h : a.eval (.tmp 76) = .bool false := h
      unfold execOp
      simp only [h]
      rfl) (fun W hg => Sp.tv rfl)))
   case s37 => exact (st_pick rfl rfl (src_dep (j := 28) (e := ⟨28, .data⟩) (by simp) rfl rfl rfl) (src_dep (j := 36) (e := ⟨36, .data⟩) (by simp) rfl rfl rfl))
   case s38 => exact (st_move rfl (.inr rfl) (src_dep (j := 37) (e := ⟨37, .data⟩) (by simp) rfl rfl rfl))
   case fin =>
    intro a w7 h1 h2 h3 h4 h5
    have b0 : a.tmps.getD 0 undef = .bool true := (h4 38 (by show 38 < 39; omega)).now
    have hz : a.tmps.size = 79 := h2
    have hdf : a.defers = [] := h1
    have b1 : a.tmps.getD 1 undef = .slice (some ⟨gl, 0, none⟩) 3 cl := h3 1 (fun i (h : i < 39) => by show (if i = 38 then 0 else 41 + i) ≠ 1; (repeat' split) <;> omega)
    rw [act_eq hz hdf]
    simp only [rg79, List.map_cons, List.map_nil, b1, b0]
    clear b1 b0 hz hdf h1 h2 h3 h4
    replace e1 := e1.trans (h5.mono e1.size)
    go_wp2_with fail
    go_ret
    exact ⟨rfl, e1⟩
theorem wpList_append_R {w : World} {ops : Array Oper} {rest : List Oper} {o : Oper} {a : Act} {Q : Exit → Act → World → Prop} (hgd : o.guard = none) (s x : Operand) (t : TypeId) (ho : o.op = .call { callee := .builtin .append, args := #[s, x], argTypes := #[t, t] })
  (B : Nat) (e : TypeId) (z : Value) (size bytes : Nat) (ht : Tryz.prog.underlying t = some (.slice e)) (hinfo : (Tryz.prog.info? e).map (fun i => (i.zero, i.size, i.bytes)) = some (some z, size, bytes)) (hzs : z.cells.size = size) (hsz : 0 < size)
  (v : Value) (n : Nat) (xs : List Value) (hs : a.eval s = v) (hown : w.ownsRow B e size v n xs) (A : Option Addr) (m c : Nat) (news : List Value) (hx : a.eval x = .slice A m c) (hl : news.length = m * size)
  (hnews : (m = 0) ∨ ∃ g off, A = some ⟨g, off, none⟩ ∧ Row w g off news) (h1 : ∀ u ∈ news, u.oneCell' = true) (h63 : n + m ≤ 1000000) (hbytes : bytes ≤ 1000) (hbase : B ≤ w.heap.size)
  (h : ∀ v' w', w'.ownsRow B e size v' (n + m) (xs ++ news) → w.grownBy w' v.ownBlock → wpList Tryz.prog ops Q rest (a.put o.dst v') w') : wpList Tryz.prog ops Q (o :: rest) a w := by
 have hb2 : (n + m) * bytes ≤ 140737488355328 := Nat.le_trans (Nat.mul_le_mul h63 hbytes) (by decide)
 have hm63 : n + m ≤ maxLen := Nat.le_trans h63 (by decide)
 rcases A with _ | ad
 ·have h0 : m = 0 := by
   rcases hnews with h | ⟨b, off, h, _⟩
   ·exact h
   ·cases h
  subst h0
  obtain rfl : news = [] := List.eq_nil_of_length_eq_zero (by simpa using hl)
  obtain ⟨i, hi, hzz⟩ := Option.map_eq_some_iff.1 hinfo
  simp only [Prod.mk.injEq] at hzz
  obtain ⟨hz, hs1, hb⟩ := hzz
  have hrun : (Builtin.append_ #[t, t] o.type #[v, .slice none 0 c]).run Tryz.prog w = .ok v w := by
   rcases hown.2 with ⟨rfl, rfl⟩ | ⟨g, cap, cur, rfl, _, _, hnc, _⟩
   ·simp [Builtin.append_, run_underlying ht, sizeOf, typeInfo, hi, Builtin.lenOf, Builtin.firstCells]
   ·simp [Builtin.append_, run_underlying ht, sizeOf, typeInfo, hi, Builtin.lenOf, Builtin.firstCells, hnc, storeCells]
  refine wpList_plain hgd fun K hK => ?_
  unfold Oper.wp execOp
  simp only [ho, resolve, invoke, builtin, Sem.run_bind, Sem.run_pure, Result.andThen_ok, List.map_toArray, List.map_cons, List.map_nil, hs, hx, hrun]
  exact hK _ _ (h _ _ (by simpa using hown) ⟨rfl, rfl, rfl, Nat.le_refl _, fun _ _ _ => rfl⟩)
 ·refine wpList_append_V hgd s x t ho B e z size bytes ht hinfo hzs hsz v n xs hs hown ad m c news hx hl (fun j u hj => ?_) h1 hm63 hb2 hbase (fun v' w' o1 g1 b1 => h v' w' o1 g1)
  rcases hnews with rfl | ⟨b, off, he, hR⟩
  ·obtain rfl : news = [] := List.eq_nil_of_length_eq_zero (by simpa using hl)
   simp at hj
  ·injection he with he
   subst he
   rw [addr_addC]
   exact hR.2 j u hj
theorem wpList_append_crs {w : World} {ops : Array Oper} {rest : List Oper} {o : Oper} {a : Act} {Q : Exit → Act → World → Prop} (hgd : o.guard = none) (s x : Operand) (ho : o.op = .call { callee := .builtin .append, args := #[s, x], argTypes := #[31, 31] })
  (B : Nat) (v : Value) (l : List Crt) (n : Nat) (hs : a.eval s = v) (hown : w.ownsRow B 30 24 v n (crtCells l)) (A : Option Addr) (m c : Nat) (news : List Crt) (hx : a.eval x = .slice A m c) (hm : m = news.length) (hR : Crs w A news) (hsm : n + m ≤ 1000000) (hB : B ≤ w.heap.size)
  (h : ∀ v' w', w'.ownsRow B 30 24 v' (n + m) (crtCells (l ++ news)) → (∀ A, Below B A w → Below B A w') → wpList Tryz.prog ops Q rest (a.put o.dst v') w') : wpList Tryz.prog ops Q (o :: rest) a w := by
 subst hm
 refine wpList_append_R hgd s x _ ho B 30 (.agg Crt.none.cells.toArray) 24 224 Tryz.underlying31 info_cert rfl (by decide) v n (crtCells l) hs hown A news.length c (crtCells news) hx (crtCells_length news) (hR.imp (fun h => by rw [h]; rfl) id) (crtCells_one news) hsm (by decide) hB (fun v' w' o1 g1 => ?_)
 rw [← crtCells_append] at o1
 refine h v' w' o1 fun A hA => hA.grown g1 hB fun k hk => ?_
 exact (hown.lt k hk).1
theorem own_crs {W : World} {B : Nat} {v : Value} {l : List Crt} {n : Nat} (hn : n = l.length) (h : W.ownsRow B 30 24 v n (crtCells l)) : ∃ A c, v = .slice A l.length c ∧ l.length ≤ c ∧ c ≤ maxLen ∧ Crs W A l := by
 subst hn
 rcases Nat.eq_zero_or_pos l.length with h0 | h0
 ·obtain rfl : l = [] := List.eq_nil_of_length_eq_zero h0
  rcases h.2 with ⟨h1, h2⟩ | ⟨g, cap, cur, h1, hB, h3, h4, h5, h6, h7⟩
  ·exact ⟨none, 0, h1, Nat.le_refl _, Nat.zero_le _, .inl rfl⟩
  ·exact ⟨_, cap, h1, Nat.zero_le _, h5, .inl rfl⟩
 ·obtain ⟨g, c, h1, h2, h3, h4, h5⟩ := own_crt h h0
  exact ⟨_, c, h1, h2, h3, .inr ⟨g, 0, rfl, h5⟩⟩
end Go.Proofs.YtchaahnhpeoomaaGreat
