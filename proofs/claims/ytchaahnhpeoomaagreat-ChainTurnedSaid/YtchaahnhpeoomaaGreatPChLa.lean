/-
 lintellaw13.Large: what is not large is small.
-/
import Derived.Test.YtchaahnhpeoomaaGreatPChO
namespace Go.Proofs.YtchaahnhpeoomaaGreat
set_option linter.unusedVariables false
set_option linter.unusedSimpArgs false
set_option maxRecDepth 20000
open Go.RowKit
abbrev CIn := Crt × Sls3 Crt × Sls3 Sl
def small13 (t : CIn) : Prop := t.2.1.l.length ≤ 7 ∧ t.2.2.l.length ≤ 20 ∧ ∀ c ∈ t.1 :: t.2.1.l, c.tbs.xs.length ≤ 8192 ∧ c.key.xs.length ≤ 600
def Large13Post (t : CIn) (w : World) (e : Ending) (w' : World) : Prop := ∃ b : Bool, e = .returned (.bool b) ∧ (b = false → small13 t) ∧ Below w.heap.size w w'
set_option maxRecDepth 100000 in
set_option maxHeartbeats 6400000 in
theorem large13_any (t : CIn) (w : World) (q : QCasec w t) : Calls Tryz.prog 21 #[.agg (CCasec t).toArray] w (Large13Post t w) := by
 obtain ⟨lf, ⟨CA, cc, cs⟩, ⟨TA, tc, ts⟩⟩ := t
 obtain ⟨q1, q2, q3⟩ := q
 simp only at q1 q2 q3
 have hcn : cs.length ≤ 9223372036854775807 := Nat.le_trans q2.cap q2.max
 have htn : ts.length ≤ 9223372036854775807 := Nat.le_trans q3.cap q3.max
 obtain ⟨L0, hL0⟩ : ∃ L, L = CCasec (lf, ⟨CA, cc, cs⟩, ⟨TA, tc, ts⟩) := ⟨_, rfl⟩
 rw [← hL0]
 obtain ⟨g0, hg0⟩ : ∃ g, g = w.heap.size := ⟨_, rfl⟩
 obtain ⟨w0, hw0⟩ : ∃ u, u = w.alloc (.cells L0.toArray 36) := ⟨_, rfl⟩
 have hE : Below w.heap.size w w0 := by rw [hw0]; exact (Below.refl _ _).alloc (Nat.le_refl _) _
 have B0 : Row w0 g0 0 L0 := by rw [hw0, hg0]; exact row_new _
 rw [hL0] at B0
 have k1 : w0.cell? ⟨g0, 1, none⟩ = some (.slice lf.tbs.A lf.tbs.xs.length lf.tbs.c) := B0.at_ (i := 1) rfl rfl
 have k17 : w0.cell? ⟨g0, 17, none⟩ = some (.slice lf.key.A lf.key.xs.length lf.key.c) := B0.at_ (i := 17) rfl rfl
 have k24 : w0.cell? ⟨g0, 24, none⟩ = some (.slice CA cs.length cc) := B0.at_ (i := 24) rfl rfl
 have k25 : w0.cell? ⟨g0, 25, none⟩ = some (.slice TA ts.length tc) := B0.at_ (i := 25) rfl rfl
 replace q2 := q2.below hE (Q' := fun c => CrtIn w0 c) fun _ h => h.below hE
 have lt1 := q1.ok.tbs.len
 have lk1 := q1.ok.key.len
 replace hL0 := Lib.hid hL0
 go_enter Tryz.func21, Tryz.ntmps21
 go_upto_region 1 with fail
 refine wp_world hw0 ?_
 rw [← hg0]
 clear hw0 hg0
 have hc : (7 : Int) < (cs.length : Int) ∨ (¬ (7 : Int) < (cs.length : Int) ∧ (20 : Int) < (ts.length : Int)) ∨ (¬ (7 : Int) < (cs.length : Int) ∧ ¬ (20 : Int) < (ts.length : Int) ∧ (8192 : Int) < (lf.tbs.xs.length : Int)) ∨ (¬ (7 : Int) < (cs.length : Int) ∧ ¬ (20 : Int) < (ts.length : Int) ∧ ¬ (8192 : Int) < (lf.tbs.xs.length : Int) ∧ (600 : Int) < (lf.key.xs.length : Int)) ∨
   (¬ (7 : Int) < (cs.length : Int) ∧ ¬ (20 : Int) < (ts.length : Int) ∧ ¬ (8192 : Int) < (lf.tbs.xs.length : Int) ∧ ¬ (600 : Int) < (lf.key.xs.length : Int)) := by omega
 rcases hc with z | ⟨z, z2⟩ | ⟨z, z2, z3⟩ | ⟨z, z2, z3, z9⟩ | ⟨z, z2, z3, z9⟩
 iterate 4
  ·go_wp2_with fail
   go_ret
   exact ⟨true, rfl, (fun h => by cases h), hE⟩
 go_wp2_with fail
 go_loopw [3] (fun t wr => ∃ i : Nat, t = .int .i64 (i : Int) ∧ i ≤ cs.length ∧ (∀ (j : Nat) (c : Crt), j < i → cs[j]? = some c → c.tbs.xs.length ≤ 8192 ∧ c.key.xs.length ≤ 600) ∧ wr = w0) (fun t _ => cs.length - (intOf t).toNat)
 case atStart => exact ⟨0, rfl, Nat.zero_le _, fun j c h => by omega, rfl⟩
 case round =>
  obtain ⟨i, rfl, hi, hkeys, hw⟩ := hrel
  rw [hw]
  replace hkeys := Lib.hid hkeys
  by_cases hlt : i < cs.length
  ·have z4 : (i : Int) < (cs.length : Int) := by omega
   obtain ⟨c, hc⟩ : ∃ c, cs[i]? = some c := ⟨_, List.getElem?_eq_getElem hlt⟩
   obtain ⟨gc, oc, hCA, R⟩ := rows_at q2 Crt.cells_length hc
   have hCA : CA = some ⟨gc, oc, none⟩ := hCA
   rw [hCA] at k24
   have kt : w0.cell? ⟨gc, oc + i * 24 + 1, none⟩ = some (.slice c.tbs.A c.tbs.xs.length c.tbs.c) := R.at_ (i := 1) rfl rfl
   have kk : w0.cell? ⟨gc, oc + i * 24 + 17, none⟩ = some (.slice c.key.A c.key.xs.length c.key.c) := R.at_ (i := 17) rfl rfl
   have z6 : (i : Int) ≤ 20 := by omega
   have hc2 : (8192 : Int) < (c.tbs.xs.length : Int) ∨ (¬ (8192 : Int) < (c.tbs.xs.length : Int) ∧ (600 : Int) < (c.key.xs.length : Int)) ∨ (¬ (8192 : Int) < (c.tbs.xs.length : Int) ∧ ¬ (600 : Int) < (c.key.xs.length : Int)) := by omega
   rcases hc2 with y | ⟨y, y2⟩ | ⟨y, y2⟩
   iterate 2
    ·go_wp2_with fail
     go_ret
     exact ⟨true, rfl, (fun h => by cases h), hE⟩
   go_wp2_with fail
   go_roundw
   case rel =>
    refine ⟨i + 1, by go_num, by omega, fun j d hj hd => ?_, by first | rfl | trivial⟩
    by_cases hji : j = i
    ·subst hji
     rw [hc] at hd
     cases hd
     exact ⟨by omega, by omega⟩
    ·exact hkeys.out j d (by omega) hd
   case measure =>
    simp [intOf]
    omega
  ·have z4 : ¬ (i : Int) < (cs.length : Int) := by omega
   go_wp2_with fail
   go_ret
   refine ⟨false, rfl, fun _ => ⟨by show cs.length ≤ 7; omega, by show ts.length ≤ 20; omega, fun c hc => ?_⟩, hE⟩
   rcases List.mem_cons.1 hc with rfl | hc
   ·exact ⟨by omega, by omega⟩
   ·obtain ⟨j, hj⟩ := List.mem_iff_getElem?.1 hc
    have hj : cs[j]? = some c := hj
    exact hkeys.out j c (by have := (List.getElem?_eq_some_iff.1 hj).1; omega) hj
end Go.Proofs.YtchaahnhpeoomaaGreat
