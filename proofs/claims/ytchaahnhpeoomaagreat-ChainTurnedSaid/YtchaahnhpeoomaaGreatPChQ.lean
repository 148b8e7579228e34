/-
 What a ladder's certificates are to one another: each is signed by the next one and by nobody else, and no two are written alike.
-/
import Derived.Test.YtchaahnhpeoomaaGreatPChP
namespace Go.Proofs.YtchaahnhpeoomaaGreat
set_option linter.unusedVariables false
set_option linter.unusedSimpArgs false
set_option maxRecDepth 20000
open Go.RowKit
theorem wr_inj {t : Nat} {x y r s : List Nat} (ht : t % 32 ≠ 31) (hx : x.length < 4294967296) (hy : y.length < 4294967296) (h : wr t x ++ r = wr t y ++ s) : x = y ∧ r = s := by
 have h1 := elem_wr (ys := r) ht hx
 have h2 := elem_wr (ys := s) ht hy
 rw [h, h2] at h1
 simp only [Option.some.injEq, Prod.mk.injEq] at h1
 have hl := h1.2
 unfold wr at h
 simp only [List.cons_append, List.append_assoc, List.cons.injEq, true_and] at h
 rw [hl] at h
 have h3 := List.append_cancel_left h
 exact List.append_inj h3 hl.symm
theorem ladder_at : ∀ (l : List Rung) (ks : List Nat) (ke i : Nat) (r : Rung), l[i]? = some r → ∃ K E, (ladderB l ks ke)[i]? = some (rungDone (rungSay r ((l[i + 1]?).getD r) K E) (decide (i + 1 < l.length))) ∧ (i = 0 → K = ks ∧ E = ke) ∧
  ∀ j q, i = j + 1 → (ladderB l ks ke)[j]? = some q → K = forKey (digest q.tbs) ∧ E = 3
 | [], ks, ke, i, r, h => by simp at h
 | [r0], ks, ke, 0, r, h => by
  obtain rfl : r0 = r := by simpa using h
  exact ⟨ks, ke, by simp [ladderB], fun _ => ⟨rfl, rfl⟩, fun j q hj => by omega⟩
 | [r0], ks, ke, i + 1, r, h => by simp at h
 | r0 :: a :: l, ks, ke, 0, r, h => by
  obtain rfl : r0 = r := by simpa using h
  exact ⟨ks, ke, by simp [ladderB], fun _ => ⟨rfl, rfl⟩, fun j q hj => by omega⟩
 | r0 :: a :: l, ks, ke, i + 1, r, h => by
  obtain ⟨K, E, h1, h2, h3⟩ := ladder_at (a :: l) (forKey (digest (tbsB (rungSay r0 a ks ke)))) 3 i r h
  refine ⟨K, E, ?_, fun h => by omega, ?_⟩
  ·have hi : decide (i + 1 + 1 < (r0 :: a :: l).length) = decide (i + 1 < (a :: l).length) := by simp
   rw [ladderB, List.getElem?_cons_succ, h1, hi]
   rfl
  ·intro j q hj hq
   obtain rfl : i = j := by omega
   cases i with
   | zero =>
    rw [ladderB] at hq
    obtain rfl := Option.some.inj hq
    exact h2 rfl
   | succ i =>
    refine h3 i q rfl ?_
    rw [ladderB, List.getElem?_cons_succ] at hq
    exact hq
theorem nameB_one {x y : Nat} (h : nameB [x] = nameB [y]) : x = y := by
 simp [nameB, seqB, wr, derLen] at h
 exact h
def Letters (l : List Rung) : Prop := ∀ i r, l[i]? = some r → r.name = [97 + i]
section
variable {l : List Rung} {cs : List Crt} {ks : List Nat} {ke : Nat}
theorem lad_len (hs : cs.map Crt.say = ladderB l ks ke) : ∀ i c, cs[i]? = some c → ∃ r K E, l[i]? = some r ∧ c.say = rungDone (rungSay r ((l[i + 1]?).getD r) K E) (decide (i + 1 < l.length)) ∧ (i = 0 → K = ks ∧ E = ke) ∧
  ∀ j q, i = j + 1 → cs[j]? = some q → K = forKey (digest q.tbs.xs) ∧ E = 3 := by
 intro i c hc
 have hsc : (ladderB l ks ke)[i]? = some c.say := by rw [← hs]; simp [hc]
 have hlen : ∀ (l : List Rung) (ks : List Nat) (ke : Nat), (ladderB l ks ke).length = l.length := by
  intro l
  induction l with
  | nil => intro ks ke; rfl
  | cons r l ih =>
   intro ks ke
   cases l with
   | nil => rfl
   | cons a l =>
    rw [ladderB, List.length_cons, ih]
    rfl
 obtain ⟨r, hr⟩ : ∃ r, l[i]? = some r := ⟨_, List.getElem?_eq_getElem (by rw [← hlen l ks ke]; exact (List.getElem?_eq_some_iff.1 hsc).1)⟩
 obtain ⟨K, E, h1, h2, h3⟩ := ladder_at l ks ke i r hr
 rw [h1] at hsc
 refine ⟨r, K, E, hr, (Option.some.inj hsc).symm, h2, fun j q hj hq => ?_⟩
 have := h3 j q.say hj (by rw [← hs]; simp [hq])
 exact this
theorem lad_sg (hs : cs.map Crt.say = ladderB l ks ke) (hk : ks ≠ []) (hn : Letters l) {i j : Nat} {c d : Crt} (hc : cs[i]? = some c) (hd : cs[j]? = some d) : sgB c d = (decide (j = i + 1) && mayC d) := by
 obtain ⟨r, K, E, hr, hcs, h0, h1⟩ := lad_len hs i c hc
 obtain ⟨r', K', E', hr', hds, h0', h1'⟩ := lad_len hs j d hd
 have ci : c.issuer.xs = nameB ((l[i + 1]?).getD r).name := congrArg Say.issuer hcs
 have cg : c.sig.xs = if decide (i + 1 < l.length) = true then forSig (digest (tbsB (rungSay r ((l[i + 1]?).getD r) K E))) else [] := congrArg Say.sig hcs
 have ct : c.tbs.xs = tbsB (rungSay r ((l[i + 1]?).getD r) K E) := congrArg Say.tbs hcs
 have dk : d.key.xs = K' := congrArg Say.key hds
 have de : d.e = E' := congrArg Say.e hds
 have du : d.subject.xs = nameB r'.name := congrArg Say.subject hds
 unfold sgB
 by_cases hi : i + 1 < l.length
 ·obtain ⟨u, hu⟩ : ∃ u, l[i + 1]? = some u := ⟨_, List.getElem?_eq_getElem hi⟩
  rw [hu] at ci
  by_cases hj : j = i + 1
  ·obtain ⟨q1, q2⟩ := h1' i c hj hc
   have hur : u = r' := by rw [← hj] at hu; exact Option.some.inj (hu.symm.trans hr')
   rw [cg, if_pos (decide_eq_true hi), dk, de, q1, q2, ← ct, ver_for (digest_length _) (digest_lim _), ci, du, ← hur]
   simp [hj]
  ·have hne : c.issuer.xs ≠ d.subject.xs := by
    rw [ci, du, hn _ _ hr', show ((some u).getD r) = u from rfl, hn _ _ hu]
    intro h
    have := nameB_one h
    omega
   simp [hj, hne]
 ·have hj : ¬ j = i + 1 := by
   have := (List.getElem?_eq_some_iff.1 hr').1
   omega
  have hv : verB d.key.xs d.e (digest c.tbs.xs) c.sig.xs = false := by
   refine verB_len ?_
   rw [cg, if_neg (by simpa using hi), dk]
   cases j with
   | zero =>
    rw [(h0' rfl).1]
    intro h
    exact hk (List.eq_nil_of_length_eq_zero h.symm)
   | succ j =>
    obtain ⟨q, hq⟩ : ∃ q, cs[j]? = some q := ⟨_, List.getElem?_eq_getElem (by have := (List.getElem?_eq_some_iff.1 hd).1; omega)⟩
    rw [(h1' j q rfl hq).1, forKey_len]
    decide
  rw [hv]
  simp [hj]
theorem tbsB_open (s : Say) : ∃ R, tbsB s = wr 48 (verB12 ++ (wr 2 s.serial ++ (signAlgB ++ (s.issuer ++ (seqB [genB s.frm, genB s.til] ++ (s.subject ++ R)))))) := by
 unfold tbsB
 generalize (if extsB s = [] then [] else wr 163 (seqB (extsB s))) = X
 generalize seqB [keyAlgB, wr 3 (0 :: keyB s.key s.e)] = Y
 generalize seqB [genB s.frm, genB s.til] = T
 generalize wr 2 s.serial = Z
 refine ⟨Y ++ (X ++ []), ?_⟩
 unfold seqB
 simp only [List.flatten_cons, List.flatten_nil]
theorem wr_le (t : Nat) (b : List Nat) : b.length ≤ (wr t b).length := by
 unfold wr
 simp
 omega
theorem tbs_peel {S S' I I' T U U' R R' Y Y' : List Nat} (h1 : (wr 48 (verB12 ++ (wr 2 S ++ (signAlgB ++ (wr 48 I ++ (T ++ (wr 48 U ++ R))))))).length ≤ 100000) (h2 : (wr 48 (verB12 ++ (wr 2 S' ++ (signAlgB ++ (wr 48 I' ++ (T ++ (wr 48 U' ++ R'))))))).length ≤ 100000)
  (h : wr 48 (verB12 ++ (wr 2 S ++ (signAlgB ++ (wr 48 I ++ (T ++ (wr 48 U ++ R)))))) ++ Y = wr 48 (verB12 ++ (wr 2 S' ++ (signAlgB ++ (wr 48 I' ++ (T ++ (wr 48 U' ++ R')))))) ++ Y') : U = U' := by
 have l1 := Nat.le_trans (wr_le _ _) h1
 have l2 := Nat.le_trans (wr_le _ _) h2
 have p2 := (wr_inj (by decide) (by omega) (by omega) h).1
 clear h h1 h2
 simp only [List.length_append] at l1 l2
 have a1 := wr_le 2 S
 have a2 := wr_le 2 S'
 have a3 := wr_le 48 I
 have a4 := wr_le 48 I'
 have a5 := wr_le 48 U
 have a6 := wr_le 48 U'
 have p3 := List.append_cancel_left p2
 have p4 := (wr_inj (by decide) (by omega) (by omega) p3).2
 have p5 := List.append_cancel_left p4
 have p6 := (wr_inj (by decide) (by omega) (by omega) p5).2
 have p7 := List.append_cancel_left p6
 exact (wr_inj (by decide) (by omega) (by omega) p7).1
theorem name_of_raw {r u r' u' : Rung} {K K' : List Nat} {E E' x y : Nat} {b b' : Bool} (n : r.name = [x]) (n' : r'.name = [y]) (h1 : (tbsB (rungSay r u K E)).length ≤ 100000) (h2 : (tbsB (rungSay r' u' K' E')).length ≤ 100000)
  (h : (rungDone (rungSay r u K E) b).raw = (rungDone (rungSay r' u' K' E') b').raw) : x = y := by
 have hraw : ∀ (s : Say) (b : Bool), ∃ sg : List Nat, sg.length ≤ 256 ∧ (rungDone s b).raw = certB (tbsB s) sg := fun s b => by
  refine ⟨if b then forSig (digest (tbsB s)) else [], ?_, rfl⟩
  cases b
  ·simp
  ·rw [if_pos rfl, forSig_len]
   exact Nat.le_refl _
 obtain ⟨sg, g1, g2⟩ := hraw (rungSay r u K E) b
 obtain ⟨sg', g1', g2'⟩ := hraw (rungSay r' u' K' E') b'
 rw [g2, g2'] at h
 clear g2 g2' hraw
 obtain ⟨R, hR⟩ := tbsB_open (rungSay r u K E)
 obtain ⟨R', hR'⟩ := tbsB_open (rungSay r' u' K' E')
 have hw : ∀ sg : List Nat, sg.length ≤ 256 → (wr 3 (0 :: sg)).length ≤ 300 := fun sg h => Nat.le_trans (wr_len (by simp; omega)) (by simp; omega)
 have w1 := hw sg g1
 have w2 := hw sg' g1'
 have sl : signAlgB.length ≤ 100 := by decide
 obtain ⟨s1, e1⟩ : ∃ s, s = (rungSay r u K E).serial := ⟨_, rfl⟩
 obtain ⟨s2, e2⟩ : ∃ s, s = (rungSay r' u' K' E').serial := ⟨_, rfl⟩
 rw [← e1] at hR
 rw [← e2] at hR'
 have q2 : (rungSay r u K E).issuer = nameB u.name := rfl
 have q3 : (rungSay r' u' K' E').issuer = nameB u'.name := rfl
 have q4 : (rungSay r u K E).subject = nameB [x] := by rw [← n]; rfl
 have q5 : (rungSay r' u' K' E').subject = nameB [y] := by rw [← n']; rfl
 have q6 : (rungSay r u K E).frm = t2020 := rfl
 have q7 : (rungSay r u K E).til = t2060 := rfl
 have q8 : (rungSay r' u' K' E').frm = t2020 := rfl
 have q9 : (rungSay r' u' K' E').til = t2060 := rfl
 rw [q2, q4, q6, q7] at hR
 rw [q3, q5, q8, q9] at hR'
 generalize tbsB (rungSay r u K E) = t1 at *
 generalize tbsB (rungSay r' u' K' E') = t2 at *
 generalize seqB [genB t2020, genB t2060] = T at *
 have p1 : t1 ++ (signAlgB ++ (wr 3 (0 :: sg) ++ [])) = t2 ++ (signAlgB ++ (wr 3 (0 :: sg') ++ [])) := by
  have hh : wr 48 [t1, signAlgB, wr 3 (0 :: sg)].flatten ++ [] = wr 48 [t2, signAlgB, wr 3 (0 :: sg')].flatten ++ [] := by rw [List.append_nil, List.append_nil]; exact h
  exact (wr_inj (by decide) (by simp; omega) (by simp; omega) hh).1
 rw [hR] at h1 p1
 rw [hR'] at h2 p1
 unfold nameB seqB at h1 h2 p1
 have hU := tbs_peel h1 h2 p1
 refine nameB_one ?_
 unfold nameB seqB
 rw [hU]
theorem lad_raw (hs : cs.map Crt.say = ladderB l ks ke) (hn : Letters l) (hb : ∀ c ∈ cs, c.tbs.xs.length ≤ 100000) {i j : Nat} {c d : Crt} (hc : cs[i]? = some c) (hd : cs[j]? = some d) (h : c.raw.xs = d.raw.xs) : i = j := by
 obtain ⟨r, K, E, hr, hcs, h0, h1⟩ := lad_len hs i c hc
 obtain ⟨r', K', E', hr', hds, h0', h1'⟩ := lad_len hs j d hd
 have cr : c.raw.xs = _ := congrArg Say.raw hcs
 have dr : d.raw.xs = _ := congrArg Say.raw hds
 have ct : c.tbs.xs = tbsB (rungSay r ((l[i + 1]?).getD r) K E) := congrArg Say.tbs hcs
 have dt : d.tbs.xs = tbsB (rungSay r' ((l[j + 1]?).getD r') K' E') := congrArg Say.tbs hds
 have := name_of_raw (hn _ _ hr) (hn _ _ hr') (by rw [← ct]; exact hb c (List.mem_of_getElem? hc)) (by rw [← dt]; exact hb d (List.mem_of_getElem? hd)) (cr.symm.trans (h.trans dr))
 omega
theorem lad_short (hs : cs.map Crt.say = ladderB l ks ke) (hl : ∀ r ∈ l, RungOk r) (hk : ks.length ≤ 1000 ∧ Lim 256 ks) : ∀ c ∈ cs, c.tbs.xs.length ≤ 8000 ∧ c.key.xs.length ≤ 1000 := by
 intro c hc
 obtain ⟨i, hi⟩ := List.mem_iff_getElem?.1 hc
 obtain ⟨r, K, E, hr, hcs, h0, h1⟩ := lad_len hs i c hi
 have ct : c.tbs.xs = tbsB (rungSay r ((l[i + 1]?).getD r) K E) := congrArg Say.tbs hcs
 have ck : c.key.xs = K := congrArg Say.key hcs
 have hK : K.length ≤ 1000 ∧ Lim 256 K := by
  cases i with
  | zero => rw [(h0 rfl).1]; exact hk
  | succ j =>
   obtain ⟨q, hq⟩ : ∃ q, cs[j]? = some q := ⟨_, List.getElem?_eq_getElem (by have := (List.getElem?_eq_some_iff.1 hi).1; omega)⟩
   rw [(h1 j q rfl hq).1]
   exact ⟨by rw [forKey_len]; decide, forKey_lim _⟩
 have rO := hl r (List.mem_of_getElem? hr)
 have uO : RungOk ((l[i + 1]?).getD r) := by
  cases hu : l[i + 1]? with
  | none => exact rO
  | some u => exact hl u (List.mem_of_getElem? hu)
 generalize (l[i + 1]?).getD r = u at *
 have hserL : Lim 256 [1, r.serial] := fun x hx => by
  have := rO.serial
  simp at hx
  omega
 have hso : SayOk (rungSay r u K E) := ⟨rO.code, by show r.path < 0; rw [rO.path]; decide, by show r.usage < 0; rw [rO.usage]; decide, ⟨by show 2 ≤ 1000; omega, hserL⟩, ⟨Nat.le_trans (nameB_len (by have := uO.name.1; omega)) (by omega), nameB_lim uO.name.2 (by have := uO.name.1; omega)⟩, ⟨Nat.le_trans (nameB_len (by have := rO.name.1; omega)) (by omega), nameB_lim rO.name.2 (by have := rO.name.1; omega)⟩, hK, t2020_ok, t2060_ok⟩
 exact ⟨by rw [ct]; exact (tbsB_plain hso).1, by rw [ck]; exact hK.1⟩
end
end Go.Proofs.YtchaahnhpeoomaaGreat
