/-
  The walk of the statement ShaTwo: two states, written to in turns, know nothing of one another.
-/
import Derived.Test.YtmbkehmgpcmicaaShaFa
namespace Go.Proofs.Ytmbkehmgpcmicaa
set_option linter.unusedVariables false
set_option linter.unusedSimpArgs false
open Go.RowKit

theorem two_rd {w : World} {B p : Nat} {e : TypeId} {A : Option Addr} {c : Nat} {m : List Nat} (h : w.ownsRow B e 1 (.slice A p c) p (ints .u8 m)) : Rd .u8 w A m := by
  obtain ⟨A', c', he, -, -, -, hO⟩ := Own.of_row h
  injection he with he
  subst he
  exact hO.rd
set_option maxRecDepth 100000 in
set_option maxHeartbeats 3200000 in
theorem shaTwo_any (a a' : Option Addr) (n c n' c' : Nat) (rs : List (Option Addr × Nat × List Nat)) (bs : List Bool) (w : World) (hm : Mat .u8 256 w a n c rs) (hbs : Cells Value.bool w a' n' c' bs) :
    Calls Try.prog 9 #[.slice a n c, .slice a' n' c'] w (Yes w) := by
  obtain rfl := hm.1
  obtain rfl := hbs.1
  have hnb : rs.length ≤ 9223372036854775807 := Nat.le_trans hm.2.1 hm.2.2.1
  have hnb' : bs.length ≤ 9223372036854775807 := Nat.le_trans hbs.2.1 hbs.2.2.1
  by_cases h : 60 < rs.length
  · have hd : decide ((60 : Int) < (rs.length : Int)) = true := by simp; omega
    go_enter Try.func9, Try.ntmps9
    go_wp2_with fail
    refine (shaWorks_any _).mono ?_
    rintro e w1 ⟨rfl, hb⟩
    go_wp2_with fail
    go_ret
    exact ⟨rfl, hb⟩
  have hd : decide ((60 : Int) < (rs.length : Int)) = false := by simp; omega
  by_cases h' : 60 < bs.length
  · have hd' : decide ((60 : Int) < (bs.length : Int)) = true := by simp; omega
    go_enter Try.func9, Try.ntmps9
    go_wp2_with fail
    refine (shaWorks_any _).mono ?_
    rintro e w1 ⟨rfl, hb⟩
    go_wp2_with fail
    go_ret
    exact ⟨rfl, hb⟩
  have hd' : decide ((60 : Int) < (bs.length : Int)) = false := by simp; omega
  have HMat := Lib.hid hm
  have HBs := Lib.hid hbs
  clear hm hbs
  go_enter Try.func9, Try.ntmps9
  go_wp2_with fail
  refine (new_any _).mono ?_
  rintro e w1 ⟨g1, v, rfl, hg, rfl, hM, hb1⟩
  have hS1 := (Sts.nil w w.heap.size).add hb1 (St.of_mst hM) hg (fun j hj => by cases hj) (Nat.le_refl _)
  clear hM
  go_wp2_with fail
  refine (new_any _).mono ?_
  rintro e w2 ⟨g2, v, rfl, hg2, rfl, hM, hb2⟩
  have hS2 := hS1.add hb2 (St.of_mst hM) hg2 (fun j hj => by cases hj) hb1.size
  have hbel := hb1.trans (hb2.mono hb1.size)
  simp only [List.nil_append, List.cons_append] at hS2
  have hF0 := ((Fam.of_sts hS2).guard none (fun k hk => by cases hk) (Below.refl _ _) hbel.size).guard none (fun k hk => by cases hk) (Below.refl _ _) hbel.size
  simp only [List.nil_append, List.cons_append] at hF0
  clear hS1 hS2 hM hb1 hb2 hg hg2
  go_wp2_with fail
  go_loopw [7, 8, 9] (fun va vb s wr => ∃ (i p q : Nat) (m1 m2 : List Nat) (v1 v2 : Value) (A1 A2 : Option Addr) (c1 c2 : Nat), va = .slice A1 p c1 ∧ vb = .slice A2 q c2 ∧ s = .int .i64 (i : Int) ∧ i ≤ rs.length ∧ Hid (p = m1.length) ∧ Hid (q = m2.length) ∧ p ≤ 1024 * i ∧ q ≤ 1024 * i ∧ Lim 256 m1 ∧ Lim 256 m2 ∧ Fam wr w.heap.size [(g1, v1, m1), (g2, v2, m2)] [(Value.slice A1 p c1).ownBlock, (Value.slice A2 q c2).ownBlock] ∧ wr.ownsRow w.heap.size 5 1 (.slice A1 p c1) p (ints .u8 m1) ∧ wr.ownsRow w.heap.size 5 1 (.slice A2 q c2) q (ints .u8 m2) ∧ Below w.heap.size w wr) (fun _ _ s _ => rs.length - (intOf s).toNat)
  case atStart => exact ⟨0, 0, 0, [], [], _, _, none, none, 0, 0, rfl, rfl, rfl, Nat.zero_le _, rfl, rfl, Nat.zero_le _, Nat.zero_le _, Lim.nil _, Lim.nil _, hF0, World.ownsRow_nil _ _ _ _, World.ownsRow_nil _ _ _ _, hbel⟩
  case round =>
    clear hF0 hbel
    obtain ⟨i, p, q, m1, m2, v1, v2, A1, A2, c1, c2, rfl, rfl, rfl, hi, hp, hq, hpl, hql, lm1, lm2, hF, hO1, hO2, hbel⟩ := hrel
    by_cases hlt : i < rs.length
    · obtain ⟨r, hr⟩ : ∃ r, rs[i]? = some r := ⟨_, List.getElem?_eq_getElem hlt⟩
      obtain ⟨r1, r2, r3, r4⟩ := HMat.out.row hr
      obtain ⟨b2, o2, rfl, hb2l, hcl2⟩ := HMat.out.pos hr
      have q0 := (hbel.cell (p := ⟨b2, o2 + i, none⟩) hb2l).trans (hcl2 _ _ hr)
      clear hr hcl2
      obtain ⟨A, cr, xs⟩ := r
      dsimp only [rowVal] at q0 r1 r2 r3 r4
      by_cases hbig : 1024 < xs.length
      · have hd2 : decide ((1024 : Int) < (xs.length : Int)) = true := by simp; omega
        go_wp2_with fail
        refine (shaWorks_any _).mono ?_
        rintro e w6 ⟨rfl, hb6⟩
        go_wp2_with fail
        go_ret
        exact ⟨rfl, hbel.trans (hb6.mono hbel.size)⟩
      · have hd2 : decide ((1024 : Int) < (xs.length : Int)) = false := by simp; omega
        have hoff1 : Off A xs g1 := Off.new r3 (hF.1.base (i := 0) rfl)
        have hoff2 : Off A xs g2 := Off.new r3 (hF.1.base (i := 1) rfl)
        have hxl : xs.length ≤ 1024 := by omega
        have hp1 := Lib.hid (show p + xs.length = (m1 ++ xs).length by rw [List.length_append, hp.out])
        have hq1 := Lib.hid (show q + xs.length = (m2 ++ xs).length by rw [List.length_append, hq.out])
        rcases Nat.lt_or_ge i bs.length with hib | hib
        · obtain ⟨x, hx⟩ : ∃ x, bs[i]? = some x := ⟨_, List.getElem?_eq_getElem hib⟩
          obtain ⟨b3, o3, rfl, hb3l, hcl3⟩ := HBs.out.pos hx
          have q1 := (hbel.cell (p := ⟨b3, o3 + i, none⟩) hb3l).trans (hcl3 _ _ hx)
          clear hx hcl3
          cases x with
          | true =>
            go_wp2_with fail
            refine (fam_write (i := 0) hF rfl hbel.size A xs.length cr xs rfl (r3.below hbel) r4 hoff1 (by rw [← hp.out]; omega)).mono ?_
            rintro e w6 ⟨rfl, v3, hF6, hsm6, hb6⟩
            have hbel6 := hbel.trans hb6
            have q6 := (hb6.cell (p := ⟨b2, o2 + i, none⟩) hb2l).trans q0
            have hO1' := own_keep hO1 fun k hk => hsm6 0 k (by simp [hk])
            have hO2' := own_keep hO2 fun k hk => hsm6 1 k (by simp [hk])
            have hrx := r3.below hbel6
            clear hF hbel hb6 q0 hO1 hO2 hsm6
            simp only [List.set_cons_zero, List.set_cons_succ] at hF6
            go_wp2_with (at_builtin; refine wpList_append_ints3 _ rfl (.tmp 56) (.tmp 60) _ rfl w.heap.size 5 .u8 1 Try.underlying22 info_u8 (.slice A1 p c1) p m1 rfl hO1' A xs.length cr xs rfl rfl hrx (by simp only [maxLen]; omega) (by omega) hbel6.size ?_; intro A5 c5 w7 hown7 hgrow7 hblk7)
            obtain ⟨hF7, hsm7⟩ := hF6.append (i := 0) rfl hgrow7 hblk7 (fun k hk => (hown7.lt k hk).2) hbel6.size
            have hOO := own_keep hO2' fun k hk => hsm7 1 k (by omega) (by simp [hk])
            have hbel7 : Below w.heap.size w w7 := hbel6.grown hgrow7 hbel6.size (fun k hk => (hO1'.lt k hk).1)
            clear hF6 hbel6 hgrow7 hsm7 hblk7 hO1' hO2' hrx q6
            simp only [List.set_cons_zero, List.set_cons_succ] at hF7
            go_wp2_with fail
            go_roundw
            case rel => exact ⟨i + 1, p + xs.length, q, m1 ++ xs, m2, v3, v2, A5, A2, c5, c2, rfl, rfl, by go_num, hlt, hp1, hq, by omega, by omega, lm1.append r4, lm2, hF7, hown7, hOO, hbel7⟩
            case measure => simp [intOf]; omega
          | false =>
            go_wp2_with fail
            refine (fam_write (i := 1) hF rfl hbel.size A xs.length cr xs rfl (r3.below hbel) r4 hoff2 (by rw [← hq.out]; omega)).mono ?_
            rintro e w6 ⟨rfl, v3, hF6, hsm6, hb6⟩
            have hbel6 := hbel.trans hb6
            have q6 := (hb6.cell (p := ⟨b2, o2 + i, none⟩) hb2l).trans q0
            have hO1' := own_keep hO1 fun k hk => hsm6 0 k (by simp [hk])
            have hO2' := own_keep hO2 fun k hk => hsm6 1 k (by simp [hk])
            have hrx := r3.below hbel6
            clear hF hbel hb6 q0 hO1 hO2 hsm6
            simp only [List.set_cons_zero, List.set_cons_succ] at hF6
            go_wp2_with (at_builtin; refine wpList_append_ints3 _ rfl (.tmp 68) (.tmp 72) _ rfl w.heap.size 5 .u8 1 Try.underlying22 info_u8 (.slice A2 q c2) q m2 rfl hO2' A xs.length cr xs rfl rfl hrx (by simp only [maxLen]; omega) (by omega) hbel6.size ?_; intro A5 c5 w7 hown7 hgrow7 hblk7)
            obtain ⟨hF7, hsm7⟩ := hF6.append (i := 1) rfl hgrow7 hblk7 (fun k hk => (hown7.lt k hk).2) hbel6.size
            have hOO := own_keep hO1' fun k hk => hsm7 0 k (by omega) (by simp [hk])
            have hbel7 : Below w.heap.size w w7 := hbel6.grown hgrow7 hbel6.size (fun k hk => (hO2'.lt k hk).1)
            clear hF6 hbel6 hgrow7 hsm7 hblk7 hO1' hO2' hrx q6
            simp only [List.set_cons_zero, List.set_cons_succ] at hF7
            go_wp2_with fail
            go_roundw
            case rel => exact ⟨i + 1, p, q + xs.length, m1, m2 ++ xs, v1, v3, A1, A5, c1, c5, rfl, rfl, by go_num, hlt, hp, hq1, by omega, by omega, lm1, lm2.append r4, hF7, hOO, hown7, hbel7⟩
            case measure => simp [intOf]; omega
        ·   skip
            go_wp2_with fail
            refine (fam_write (i := 1) hF rfl hbel.size A xs.length cr xs rfl (r3.below hbel) r4 hoff2 (by rw [← hq.out]; omega)).mono ?_
            rintro e w6 ⟨rfl, v3, hF6, hsm6, hb6⟩
            have hbel6 := hbel.trans hb6
            have q6 := (hb6.cell (p := ⟨b2, o2 + i, none⟩) hb2l).trans q0
            have hO1' := own_keep hO1 fun k hk => hsm6 0 k (by simp [hk])
            have hO2' := own_keep hO2 fun k hk => hsm6 1 k (by simp [hk])
            have hrx := r3.below hbel6
            clear hF hbel hb6 q0 hO1 hO2 hsm6
            simp only [List.set_cons_zero, List.set_cons_succ] at hF6
            go_wp2_with (at_builtin; refine wpList_append_ints3 _ rfl (.tmp 68) (.tmp 72) _ rfl w.heap.size 5 .u8 1 Try.underlying22 info_u8 (.slice A2 q c2) q m2 rfl hO2' A xs.length cr xs rfl rfl hrx (by simp only [maxLen]; omega) (by omega) hbel6.size ?_; intro A5 c5 w7 hown7 hgrow7 hblk7)
            obtain ⟨hF7, hsm7⟩ := hF6.append (i := 1) rfl hgrow7 hblk7 (fun k hk => (hown7.lt k hk).2) hbel6.size
            have hOO := own_keep hO1' fun k hk => hsm7 0 k (by omega) (by simp [hk])
            have hbel7 : Below w.heap.size w w7 := hbel6.grown hgrow7 hbel6.size (fun k hk => (hO2'.lt k hk).1)
            clear hF6 hbel6 hgrow7 hsm7 hblk7 hO1' hO2' hrx q6
            simp only [List.set_cons_zero, List.set_cons_succ] at hF7
            go_wp2_with fail
            go_roundw
            case rel => exact ⟨i + 1, p, q + xs.length, m1, m2 ++ xs, v1, v3, A1, A5, c1, c5, rfl, rfl, by go_num, hlt, hp, hq1, by omega, by omega, lm1, lm2.append r4, hF7, hOO, hown7, hbel7⟩
            case measure => simp [intOf]; omega
    · have hr1 := two_rd hO1
      have hr2 := two_rd hO2
      have hO1' := hO1
      have hs1 : p ≤ 1099511627776 := by omega
      have hs2 : q ≤ 1099511627776 := by omega
      have hs3 : m1.length ≤ 1099511627776 := by rw [← hp.out]; exact hs1
      have hs4 : m2.length ≤ 1099511627776 := by rw [← hq.out]; exact hs2
      have heq1 := eql_same (digest m1) (digest_length _)
      have heq2 := eql_same (digest m2) (digest_length _)
      clear hpl hql
      go_wp2_with fail
      refine (fam_sum (i := 0) hF rfl hbel.size hs3).mono ?_
      rintro e w6 ⟨rfl, hF6, hsm6, hb6⟩
      have hbel6 := hbel.trans hb6
      replace hO1 := own_keep hO1 fun k hk => hsm6 0 k (by simp [hk])
      replace hO2 := own_keep hO2 fun k hk => hsm6 1 k (by simp [hk])
      clear hF hbel hb6 hsm6 hr1 hr2 hO1'
      go_wp2_with fail
      refine (shaSum_any A1 p c1 m1 _ hp.out hs1 (two_rd hO1) lm1).mono ?_
      rintro e w7 ⟨rfl, hb7⟩
      have hbel7 := hbel6.trans (hb7.mono hbel6.size)
      replace hO1 := own_below hO1 hb7
      replace hO2 := own_below hO2 hb7
      have hF7 := hF6.below hb7
      clear hF6 hbel6 hb7
      go_wp2_with fail
      refine (fam_sum (i := 1) hF7 rfl hbel7.size hs4).mono ?_
      rintro e w8 ⟨rfl, hF8, hsm8, hb8⟩
      have hbel8 := hbel7.trans hb8
      replace hO1 := own_keep hO1 fun k hk => hsm8 0 k (by simp [hk])
      replace hO2 := own_keep hO2 fun k hk => hsm8 1 k (by simp [hk])
      clear hF7 hbel7 hb8 hsm8
      go_wp2_with fail
      refine (shaSum_any A2 q c2 m2 _ hq.out hs2 (two_rd hO2) lm2).mono ?_
      rintro e w9 ⟨rfl, hb9⟩
      have hbel9 := hbel8.trans (hb9.mono hbel8.size)
      replace hO1 := own_below hO1 hb9
      have hF9 := hF8.below hb9
      clear hF8 hbel8 hb9 hO2
      go_wp2_with fail
      refine (fam_sum (i := 0) hF9 rfl hbel9.size hs3).mono ?_
      rintro e w10 ⟨rfl, hF10, hsm10, hb10⟩
      have hbel10 := hbel9.trans hb10
      replace hO1 := own_keep hO1 fun k hk => hsm10 0 k (by simp [hk])
      clear hF9 hbel9 hb10 hsm10
      go_wp2_with fail
      refine (shaSum_any A1 p c1 m1 _ hp.out hs1 (two_rd hO1) lm1).mono ?_
      rintro e w11 ⟨rfl, hb11⟩
      have hbel11 := hbel10.trans (hb11.mono hbel10.size)
      clear hF10 hbel10 hb11 hO1
      go_wp2_with fail
      refine (shaWorks_any _).mono ?_
      rintro e w12 ⟨rfl, hb12⟩
      go_wp2_with fail
      go_ret
      exact ⟨rfl, hbel11.trans (hb12.mono hbel11.size)⟩
end Go.Proofs.Ytmbkehmgpcmicaa
