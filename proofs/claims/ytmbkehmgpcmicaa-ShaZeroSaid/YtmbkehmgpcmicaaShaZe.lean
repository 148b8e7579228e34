/-
  The walk of the statement ShaZero: a state that New did not make is like one that it made.
-/
import Derived.Test.YtmbkehmgpcmicaaShaSt
namespace Go.Proofs.Ytmbkehmgpcmicaa
set_option linter.unusedVariables false
set_option linter.unusedSimpArgs false
open Go.RowKit

set_option maxRecDepth 100000 in
set_option maxHeartbeats 3200000 in
theorem shaZero_any (a : Option Addr) (n c : Nat) (rs : List (Option Addr × Nat × List Nat)) (w : World) (hm : Mat .u8 256 w a n c rs) :
    Calls Try.prog 8 #[.slice a n c] w (Yes w) := by
  obtain rfl := hm.1
  have hnb : rs.length ≤ 9223372036854775807 := Nat.le_trans hm.2.1 hm.2.2.1
  by_cases h : 60 < rs.length
  · have hd : decide ((60 : Int) < (rs.length : Int)) = true := by simp; omega
    go_enter Try.func8, Try.ntmps8
    go_wp2_with fail
    refine (shaWorks_any _).mono ?_
    rintro e w1 ⟨rfl, hb⟩
    go_wp2_with fail
    go_ret
    exact ⟨rfl, hb⟩
  have hd : decide ((60 : Int) < (rs.length : Int)) = false := by simp; omega
  have HMat := Lib.hid hm
  clear hm
  obtain ⟨C, hC, hZ⟩ : ∃ C, Try.prog.built 37 [] = some C ∧ Zst (w.alloc (.cells C 37)) w.heap.size := ⟨_, built_state, zst_new w _ _ rfl⟩
  go_enter Try.func8, Try.ntmps8
  go_wp2_with (refine wpList_build0 rfl 37 rfl C hC ?_)
  have hba : Below w.heap.size w (w.alloc (.cells C 37)) := (Below.refl _ _).alloc (Nat.le_refl _) _
  have hS0 := (Sts.nil w w.heap.size).add hba (St.zero hZ) (Nat.le_refl _) (fun j hj => by cases hj) (Nat.le_refl _)
  change Calls _ _ _ (w.alloc (.cells C 37)) _
  generalize w.alloc (.cells C 37) = wa at *
  clear hZ hC
  refine (new_any _).mono ?_
  rintro e w1 ⟨g, v, rfl, hg, rfl, hM, hb1⟩
  have hS1 := hS0.add hb1 (St.of_mst hM) hg (fun j hj => by cases hj) hba.size
  have hbel := hba.trans (hb1.mono hba.size)
  clear hS0 hM hb1 hba
  simp only [List.nil_append, List.cons_append] at hS1
  have hneq := neq_same (digest []) (digest_length _)
  go_wp2_with fail
  refine (sts_sum (i := 0) hS1 rfl hbel.size (by simp)).mono ?_
  rintro e w2 ⟨rfl, hS2, hb2⟩
  have hbel2 := hbel.trans hb2
  clear hS1 hbel hb2
  go_wp2_with fail
  refine (shaSum_any none 0 0 [] _ rfl (by omega) (Rd.nil _ _ _) (Lim.nil _)).mono ?_
  rintro e w3 ⟨rfl, hb3⟩
  have hS3 := hS2.below hb3
  have hbel3 := hbel2.trans (hb3.mono hbel2.size)
  clear hS2 hbel2 hb3
  go_wp2_with fail
  refine (sts_sum (i := 1) hS3 rfl hbel3.size (by simp)).mono ?_
  rintro e w4 ⟨rfl, hS4, hb4⟩
  have hbel4 := hbel3.trans hb4
  clear hS3 hbel3 hb4
  go_wp2_with fail
  refine (shaSum_any none 0 0 [] _ rfl (by omega) (Rd.nil _ _ _) (Lim.nil _)).mono ?_
  rintro e w5 ⟨rfl, hb5⟩
  have hS5 := hS4.below hb5
  have hbel5 := hbel4.trans (hb5.mono hbel4.size)
  clear hS4 hbel4 hb5
  go_wp2_with fail
  clear hneq
  go_loopw [5] (fun s wr => ∃ (i : Nat) (m : List Nat) (v1 v2 : Value), s = .int .i64 (i : Int) ∧ i ≤ rs.length ∧ m.length ≤ 1024 * i ∧ Sts wr w.heap.size [(w.heap.size, v1, m), (g, v2, m)] ∧ Below w.heap.size w wr) (fun s _ => rs.length - (intOf s).toNat)
  case atStart => exact ⟨0, [], _, _, rfl, Nat.zero_le _, by simp, hS5, hbel5⟩
  case round =>
    clear hS5 hbel5
    obtain ⟨i, m, v1, v2, rfl, hi, hml, hS, hbel⟩ := hrel
    by_cases hlt : i < rs.length
    · obtain ⟨r, hr⟩ : ∃ r, rs[i]? = some r := ⟨_, List.getElem?_eq_getElem hlt⟩
      obtain ⟨r1, r2, r3, r4⟩ := HMat.out.row hr
      obtain ⟨b2, o2, rfl, hb2l, hcl2⟩ := HMat.out.pos hr
      have q0 := (hbel.cell (p := ⟨b2, o2 + i, none⟩) hb2l).trans (hcl2 _ _ hr)
      clear hr hcl2
      obtain ⟨A, cr, xs⟩ := r
      dsimp only [rowVal] at q0 r1 r2 r3 r4
      by_cases hbig : 1024 < xs.length
      · have hd2 : decide ((1024 : Int) < (xs.length : Int)) = true := by simp; omega
        go_wp2_with fail
        refine (shaWorks_any _).mono ?_
        rintro e w6 ⟨rfl, hb6⟩
        go_wp2_with fail
        go_ret
        exact ⟨rfl, hbel.trans (hb6.mono hbel.size)⟩
      · have hd2 : decide ((1024 : Int) < (xs.length : Int)) = false := by simp; omega
        have hoff1 : Off A xs w.heap.size := Off.new r3 (Nat.le_refl _)
        have hoff2 : Off A xs g := Off.new r3 (hS.base (i := 1) rfl)
        have hneq := neq_same (digest (m ++ xs)) (digest_length _)
        have hml2 : (m ++ xs).length ≤ 1024 * (i + 1) := by rw [List.length_append]; omega
        go_wp2_with fail
        refine (sts_write (i := 0) hS rfl hbel.size A xs.length cr xs rfl (r3.below hbel) r4 hoff1 (by omega)).mono ?_
        rintro e w6 ⟨rfl, v3, hS6, hb6⟩
        have hbel6 := hbel.trans hb6
        have q6 := (hb6.cell (p := ⟨b2, o2 + i, none⟩) hb2l).trans q0
        clear hS hbel hb6 q0
        rw [List.set_cons_zero] at hS6
        go_wp2_with fail
        refine (sts_write (i := 1) hS6 rfl hbel6.size A xs.length cr xs rfl (r3.below hbel6) r4 hoff2 (by omega)).mono ?_
        rintro e w7 ⟨rfl, v4, hS7, hb7⟩
        have hbel7 := hbel6.trans hb7
        clear hS6 hbel6 hb7 q6
        rw [List.set_cons_succ, List.set_cons_zero] at hS7
        go_wp2_with fail
        refine (sts_sum (i := 0) hS7 rfl hbel7.size (by omega)).mono ?_
        rintro e w8 ⟨rfl, hS8, hb8⟩
        have hbel8 := hbel7.trans hb8
        clear hS7 hbel7 hb8
        go_wp2_with fail
        refine (sts_sum (i := 1) hS8 rfl hbel8.size (by omega)).mono ?_
        rintro e w9 ⟨rfl, hS9, hb9⟩
        have hbel9 := hbel8.trans hb9
        clear hS8 hbel8 hb9
        go_wp2_with fail
        go_roundw
        case rel => exact ⟨i + 1, m ++ xs, v3, v4, by go_num, hlt, hml2, hS9, hbel9⟩
        case measure => simp [intOf]; omega
    · go_wp2_with fail
      refine (shaWorks_any _).mono ?_
      rintro e w6 ⟨rfl, hb6⟩
      go_wp2_with fail
      go_ret
      exact ⟨rfl, hbel.trans (hb6.mono hbel.size)⟩
end Go.Proofs.Ytmbkehmgpcmicaa
