/-
 The house of a ladder: who stands at which place, what is found and who is reached.
-/
import Derived.Test.YtchaahnhpeoomaaGreatPChU
import Derived.Test.YtchaahnhpeoomaaGreatPChnR
namespace Go.Proofs.YtchaahnhpeoomaaGreat
set_option linter.unusedVariables false
set_option linter.unusedSimpArgs false
set_option maxRecDepth 20000
open Go.RowKit
def fitC (c : Crt) (j : Nat) : Bool := decide (c.path < 0) || decide ((j : Int) - 1 ≤ c.path)
def cAt (cs : List Crt) (lf : Crt) (k : Nat) : Crt := (cs[k]?).getD lf
theorem cAt_lt {cs : List Crt} {lf : Crt} {k : Nat} (h : k < cs.length) : cs[k]? = some (cAt cs lf k) := by
 unfold cAt
 rw [List.getElem?_eq_getElem h]
 rfl
theorem drop_map {cs : List Crt} {lf : Crt} : cs.drop 1 = (List.range (cs.length - 1)).map fun i => cAt cs lf (i + 1) := by
 refine List.ext_getElem? fun i => ?_
 rw [List.getElem?_drop, List.getElem?_map, Nat.add_comm 1 i]
 by_cases h : i + 1 < cs.length
 ·rw [cAt_lt (lf := lf) h, List.getElem?_range (by omega)]
  rfl
 ·rw [List.getElem?_eq_none (by omega), List.getElem?_eq_none (by simp; omega)]
  rfl
theorem take_map {cs : List Crt} {lf : Crt} {k : Nat} (h : k ≤ cs.length) : cs.take k = (List.range k).map fun i => cAt cs lf i := by
 refine List.ext_getElem? fun i => ?_
 rw [List.getElem?_map]
 by_cases hi : i < k
 ·rw [List.getElem?_take_of_lt hi, cAt_lt (lf := lf) (by omega), List.getElem?_range hi]
  rfl
 ·rw [List.getElem?_eq_none (by rw [List.length_take]; omega), List.getElem?_eq_none (by simp; omega)]
  rfl
section
variable {l : List Rung} {cs pool : List Crt} {ks : List Nat} {ke m : Nat} {lf : Crt}
theorem lad_inj (hs : cs.map Crt.say = ladderB l ks ke) (hn : Letters l) {i j : Nat} (hi : i < cs.length) (hj : j < cs.length) (h : cAt cs lf i = cAt cs lf j) : i = j := by
 obtain ⟨r, K, E, hr, hcs, _, _⟩ := lad_len hs i _ (cAt_lt (lf := lf) hi)
 obtain ⟨r', K', E', hr', hds, _, _⟩ := lad_len hs j _ (cAt_lt (lf := lf) hj)
 have h1 : (cAt cs lf i).subject.xs = nameB r.name := congrArg Say.subject hcs
 have h2 : (cAt cs lf j).subject.xs = nameB r'.name := congrArg Say.subject hds
 rw [h, h2, hn _ _ hr, hn _ _ hr'] at h1
 have := nameB_one h1
 omega
theorem lad_lv (hs : cs.map Crt.say = ladderB l ks ke) (hk : ks ≠ []) (hn : Letters l) (h0 : cs[0]? = some lf) (hp : pool.Perm (cs.drop 1)) (hm0 : 0 < m) (hm : m ≤ cs.length) (hok : ∀ j c, 0 < j → j < m → cs[j]? = some c → mayC c = true ∧ fitC c j = true)
  (hno : ∀ c, cs[m]? = some c → mayC c = false ∨ fitC c m = false) : ∀ k, (hse lf pool).lv k = if k < m then [cAt cs lf k] else [] := by
 refine Chn.lv_ladder (H := hse lf pool) (n := cs.length) (ok := fun j => mayC (cAt cs lf j)) ?_ ?_ (fun i j hi hj h => lad_inj hs hn hi hj h) (fun i j hi _ hj => ?_) hm hm0 (fun j h1 h2 => hok j _ h1 h2 (cAt_lt (by omega))) (fun h => hno _ (cAt_lt h))
 ·show lf = cAt cs lf 0
  unfold cAt
  rw [h0]
  rfl
 ·show pool.Perm _
  rw [← drop_map]
  exact hp
 ·show sgB _ _ = _
  exact lad_sg hs hk hn (cAt_lt hi) (cAt_lt hj)
theorem lad_find (hl : ∀ k, (hse lf pool).lv k = if k < m then [cAt cs lf k] else []) (hm : m ≤ cs.length) {tr : Crt → Bool} {j : Nat} (hj : j < 8) (hjm : j < m) (ht : ∀ c, cs[j]? = some c → tr c = true) (hf : ∀ i c, i < j → cs[i]? = some c → tr c = false) : (hse lf pool).find tr = some (cs.take (j + 1)) := by
 rw [take_map (lf := lf) (by omega)]
 exact Chn.find_ones (H := hse lf pool) (fun k _ => hl k) hj hjm (ht _ (cAt_lt (by omega))) (fun i hi => hf i _ hi (cAt_lt (by omega)))
theorem lad_none (hl : ∀ k, (hse lf pool).lv k = if k < m then [cAt cs lf k] else []) (hm : m ≤ cs.length) {tr : Crt → Bool} (hf : ∀ i c, i < 8 → i < m → cs[i]? = some c → tr c = false) : (hse lf pool).find tr = none :=
 Chn.find_ones_none (H := hse lf pool) (fun k _ => hl k) (fun i h1 h2 => hf i _ h1 h2 (cAt_lt (by omega)))
theorem lad_reach (hs : cs.map Crt.say = ladderB l ks ke) (hn : Letters l) (hl : ∀ k, (hse lf pool).lv k = if k < m then [cAt cs lf k] else []) (hm0 : 0 < m) (hm : m ≤ cs.length) : (hse lf pool).reach = cs.take (min 8 m) := by
 rw [take_map (lf := lf) (by omega)]
 exact Chn.reach_ones (H := hse lf pool) hm0 (fun k _ => hl k) (fun i j hi hj h => lad_inj hs hn (by omega) (by omega) h)
end
structure Works3 (c0 c1 c2 : Crt) : Prop where
 found : ∀ s : Sl, s.xs = c2.raw.xs → (hse c0 [c2, c1]).find (trB [s]) = some [c0, c1, c2]
 none : (hse c0 [c1, c2]).find (trB []) = none
 reach : (hse c0 [c0, c1, c2]).reach.length = 3
 s01 : sgB c0 c1 = true
 s10 : sgB c1 c0 = false
theorem letters3 : Letters rungs3 := fun i r h => by
 rcases i with _ | _ | _ | i
 ·obtain rfl : plainOf 97 = r := by simpa [rungs3] using h
  rfl
 ·obtain rfl : plainOf 98 = r := by simpa [rungs3] using h
  rfl
 ·obtain rfl : plainOf 99 = r := by simpa [rungs3] using h
  rfl
 ·simp [rungs3] at h
theorem lad_plain {l : List Rung} {cs : List Crt} {ks : List Nat} {ke j : Nat} {c : Crt} (hs : cs.map Crt.say = ladderB l ks ke) (hl : ∀ r, l[j]? = some r → r.ca = true ∧ r.path < 0 ∧ r.usage < 0) (hc : cs[j]? = some c) : mayC c = true ∧ fitC c j = true := by
 obtain ⟨r, K, E, hr, hcs, _, _⟩ := lad_len hs j c hc
 obtain ⟨h1, h2, h3⟩ := hl r hr
 have e1 : c.ca = r.ca := congrArg Say.ca hcs
 have e2 : c.path = r.path := congrArg Say.path hcs
 have e3 : c.usage = r.usage := congrArg Say.usage hcs
 unfold mayC fitC
 rw [e1, e2, e3, h1]
 simp [h2, h3]
theorem works3 {c0 c1 c2 : Crt} (hs : [c0, c1, c2].map Crt.say = ladderB rungs3 [1] 3) : Works3 c0 c1 c2 := by
 have hk : ([1] : List Nat) ≠ [] := by simp
 have hsh := lad_short hs rungs3_ok ⟨by decide, fun x hx => by simp at hx; omega⟩
 have hpl : ∀ (j : Nat) (c : Crt), [c0, c1, c2][j]? = some c → mayC c = true ∧ fitC c j = true := fun j c hc => lad_plain hs (fun r hr => by
  have := rungs3_ok r (List.mem_of_getElem? hr)
  refine ⟨?_, by rw [this.path]; decide, by rw [this.usage]; decide⟩
  have hm := List.mem_of_getElem? hr
  simp only [rungs3, List.mem_cons, List.not_mem_nil, or_false] at hm
  rcases hm with rfl | rfl | rfl <;> rfl) hc
 have raw : ∀ (i j : Nat) (c d : Crt), [c0, c1, c2][i]? = some c → [c0, c1, c2][j]? = some d → c.raw.xs = d.raw.xs → i = j := fun i j c d hc hd h => lad_raw hs letters3 (fun c hc => Nat.le_trans (hsh c hc).1 (by decide)) hc hd h
 have sg : ∀ (i j : Nat) (c d : Crt), [c0, c1, c2][i]? = some c → [c0, c1, c2][j]? = some d → sgB c d = (decide (j = i + 1) && mayC d) := fun i j c d hc hd => lad_sg hs hk letters3 hc hd
 have lv : ∀ pool : List Crt, pool.Perm [c1, c2] → ∀ k, (hse c0 pool).lv k = if k < 3 then [cAt [c0, c1, c2] c0 k] else [] := fun pool hp => lad_lv hs hk letters3 rfl hp (by decide) (by simp) (fun j c _ _ hc => hpl j c hc) (fun c hc => by simp at hc)
 refine ⟨fun s hsr => ?_, ?_, ?_, ?_, ?_⟩
 ·refine lad_find (cs := [c0, c1, c2]) (j := 2) (lv [c2, c1] (List.Perm.swap _ _ _)) (by simp) (by decide) (by decide) (fun c hc => ?_) (fun i c hi hc => ?_)
  ·obtain rfl : c2 = c := by simpa using hc
   simp [trB, hsr]
  ·have h : ¬ c2.raw.xs = c.raw.xs := fun h => by
    have := raw 2 i c2 c rfl hc h
    omega
   simp [trB, hsr, h]
 ·exact lad_none (cs := [c0, c1, c2]) (lv [c1, c2] (List.Perm.refl _)) (by simp) (fun i c _ _ _ => rfl)
 ·have hr : (hse c0 [c1, c2]).reach = [c0, c1, c2] := lad_reach (cs := [c0, c1, c2]) (m := 3) hs letters3 (lv [c1, c2] (List.Perm.refl _)) (by decide) (by simp)
  rw [Chn.reach_other (G := hse c0 [c0, c1, c2]) (H := hse c0 [c1, c2]) ⟨rfl, rfl, rfl⟩ (c := c0) (a := []) (b := [c1, c2]) rfl rfl (fun x hx => ?_), hr]
  ·rfl
  ·rw [hr] at hx
   obtain ⟨i, hi⟩ := List.mem_iff_getElem?.1 hx
   show sgB x c0 = false
   rw [sg i 0 x c0 hi rfl]
   simp
 ·rw [sg 0 1 c0 c1 rfl rfl, (hpl 1 c1 rfl).1]
  rfl
 ·rw [sg 1 0 c1 c0 rfl rfl]
  rfl
end Go.Proofs.YtchaahnhpeoomaaGreat
