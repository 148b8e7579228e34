/-
  The walk of the statement ShaPieces: however bytes are cut into pieces, the sum is that of all.
-/
import Derived.Test.YtmbkehmgpcmicaaShaM
namespace Go.Proofs.Ytmbkehmgpcmicaa
set_option linter.unusedVariables false
set_option linter.unusedSimpArgs false
open Go.RowKit

/-- Where a slice's part begins: at its end it stays where it was. -/
def cutAddr (A : Option Addr) (p c : Nat) : Option Addr := if c = p then A else A.map fun a => a.add p
theorem elem_u8 : Try.prog.underlying 22 = some (.slice (Try.prog.elem 22)) := by kernel_rfl
theorem size_u8 (w : World) : (sizeOf (Try.prog.elem 22)).run Try.prog w = .ok 1 w := by kernel_rfl
theorem slice_lh (A : Option Addr) (n c p t : Nat) (h1 : p ≤ t) (h2 : t ≤ c) (w : World) :
    (Instr.sliceAt 22 (.slice A n c) (some (.int .i64 (p : Int))) (some (.int .i64 (t : Int))) none).run Try.prog w = .ok (.slice (cutAddr A p c) (t - p) (c - p)) w := by
  rw [run_sliceAt_slice _ _ _ _ _ _ elem_u8, run_slice_lh _ _ _ _ _ elem_u8 _ _ _ _ (by omega) (by omega) (by omega), size_u8]
  simp [Result.andThen, sliced, cutAddr]
theorem slice_l (A : Option Addr) (n c p : Nat) (h1 : p ≤ n) (w : World) :
    (Instr.sliceAt 22 (.slice A n c) (some (.int .i64 (p : Int))) none none).run Try.prog w = .ok (.slice (cutAddr A p c) (n - p) (c - p)) w := by
  rw [run_sliceAt_slice _ _ _ _ _ _ elem_u8, run_slice_l _ _ _ _ _ elem_u8 _ _ (by omega) (by omega), size_u8]
  simp [Result.andThen, sliced, cutAddr]
theorem slice_h (A : Option Addr) (n c p : Nat) (h1 : p ≤ c) (w : World) :
    (Instr.sliceAt 22 (.slice A n c) none (some (.int .i64 (p : Int))) none).run Try.prog w = .ok (.slice A p c) w := by
  rw [run_sliceAt_slice _ _ _ _ _ _ elem_u8, run_slice_h _ _ _ _ _ elem_u8 _ _ (by omega) (by omega), size_u8]
  simp [Result.andThen, sliced, Addr.add]
theorem rd_cut {k : IntKind} {w : World} {A : Option Addr} {b : List Nat} (h : Rd k w A b) (p c : Nat) (hc : b.length ≤ c) : Rd k w (cutAddr A p c) (b.drop p) := by
  unfold cutAddr
  split
  · rename_i h1
    exact .inl (List.drop_eq_nil_of_le (by omega))
  · rcases h with rfl | ⟨bb, o, rfl, h1, h2⟩
    · exact .inl (by simp)
    · have := rd_drop (.inr ⟨bb, o, rfl, h1, h2⟩ : Rd k w (some ⟨bb, o, none⟩) b) p
      rw [Option.map_some, Addr.add_mid]
      exact this
theorem off_cut {A : Option Addr} {b : List Nat} {g : Nat} (h : Off A b g) (p c : Nat) (hA : A = none ∨ ∃ bb o, A = some ⟨bb, o, none⟩) : Off (cutAddr A p c) (b.drop p) g := by
  rcases h with rfl | h
  · exact .inl (by simp)
  · refine .inr fun ad had => ?_
    unfold cutAddr at had
    split at had
    · exact h ad had
    · rcases hA with rfl | ⟨bb, o, rfl⟩
      · cases had
      · rw [Option.map_some, Addr.add_mid] at had
        injection had with had
        subst had
        exact h ⟨bb, o, none⟩ rfl
theorem rd_form {k : IntKind} {w : World} {A : Option Addr} {b : List Nat} (h : Rd k w A b) : b = [] ∨ A = none ∨ ∃ bb o, A = some ⟨bb, o, none⟩ := by
  rcases h with h | ⟨bb, o, h, _⟩
  · exact .inl h
  · exact .inr (.inr ⟨bb, o, h⟩)
theorem off_cut' {k : IntKind} {w : World} {A : Option Addr} {b : List Nat} {g : Nat} (hr : Rd k w A b) (h : Off A b g) (p c : Nat) : Off (cutAddr A p c) (b.drop p) g := by
  rcases rd_form hr with rfl | hA
  · exact .inl (by simp)
  · exact off_cut h p c hA
theorem take_piece (b : List Nat) (p t : Nat) (h : p ≤ t) : b.take p ++ (b.drop p).take (t - p) = b.take t := by
  obtain ⟨d, rfl⟩ : ∃ d, t = p + d := ⟨t - p, by omega⟩
  rw [Nat.add_sub_cancel_left, List.take_add]

set_option maxRecDepth 100000 in
set_option maxHeartbeats 3200000 in
theorem shaPieces_any (A B : Option Addr) (n m c d : Nat) (b cs : List Nat) (w : World) (hn : n = b.length) (hm : m = cs.length) (hc : n ≤ c) (hcl : c ≤ 9223372036854775807) (hml : m ≤ 9223372036854775807) (hb : Rd .u8 w A b) (hcs : Rd .u8 w B cs) (lb : Lim 256 b) (lc : Lim 256 cs) :
    Calls Try.prog 5 #[.slice A n c, .slice B m d] w (Yes w) := by
  subst hn
  subst hm
  by_cases h : 4096 < b.length
  · have hd : decide ((4096 : Int) < (b.length : Int)) = true := by simp; omega
    go_enter Try.func5, Try.ntmps5
    go_wp2_with fail
    refine (shaWorks_any _).mono ?_
    rintro e w1 ⟨rfl, hb⟩
    go_wp2_with fail
    go_ret
    exact ⟨rfl, hb⟩
  by_cases h60 : 60 < cs.length
  · have hd : decide ((4096 : Int) < (b.length : Int)) = false := by simp; omega
    have hd2 : decide ((60 : Int) < (cs.length : Int)) = true := by simp; omega
    go_enter Try.func5, Try.ntmps5
    go_wp2_with fail
    refine (shaWorks_any _).mono ?_
    rintro e w1 ⟨rfl, hb⟩
    go_wp2_with fail
    go_ret
    exact ⟨rfl, hb⟩
  have hd : decide ((4096 : Int) < (b.length : Int)) = false := by simp; omega
  have hd2 : decide ((60 : Int) < (cs.length : Int)) = false := by simp; omega
  go_enter Try.func5, Try.ntmps5
  go_wp2_with fail
  refine (new_any _).mono ?_
  rintro e w1 ⟨g, v, rfl, hg, rfl, hM, hb1⟩
  go_wp2_with fail
  go_loopw [6, 7] (fun u s wr => ∃ (p k : Nat) (v : Value), u = .int .i64 (p : Int) ∧ s = .int .i64 (k : Int) ∧ p ≤ b.length ∧ k ≤ cs.length ∧ St wr g v (b.take p) ∧ Below w.heap.size w wr ∧ ∀ j, v.ownBlock = some j → w.heap.size ≤ j) (fun u s _ => cs.length - (intOf s).toNat)
  case atStart => exact ⟨0, 0, _, rfl, rfl, Nat.zero_le _, Nat.zero_le _, .inl hM, hb1, fun j hj => by cases hj⟩
  case round =>
    clear hM hb1
    obtain ⟨p, k, v, rfl, rfl, hp, hk, hS, hbel, hv⟩ := hrel
    by_cases hlt : k < cs.length
    · obtain ⟨x, hgx⟩ := get_of_lt hlt
      obtain ⟨b2, o2, hB, hb2l, hcl2⟩ := hcs.pos hgx
      have q0 := (hbel.cell (p := ⟨b2, o2 + k, none⟩) hb2l).trans (hcl2 _ _ hgx)
      have hxl := lc.get hgx
      subst hB
      clear hgx hcl2
      obtain ⟨t, ht⟩ : ∃ t, t = min (p + x) b.length := ⟨_, rfl⟩
      have hpt : p ≤ t := by omega
      have htn : t ≤ b.length := by omega
      have hT := Lib.hid (take_piece b p t hpt)
      have hr1 : Rd .u8 wr (cutAddr A p c) ((b.drop p).take (t - p)) := (rd_cut (hb.below hbel) p c hc).take _
      have hoff1 : Off (cutAddr A p c) ((b.drop p).take (t - p)) g := (off_cut' hb (Off.new hb hg) p c).take _
      have hsl := slice_lh A b.length c p t hpt (by omega)
      have hsh := slice_h A b.length c t (by omega)
      have hlen := Lib.hid (show t - p = ((b.drop p).take (t - p)).length by rw [List.length_take, List.length_drop]; omega)
      have hml : (b.take t).length ≤ 1099511627776 := by rw [List.length_take]; omega
      have hkl := Lib.hid (show t = (b.take t).length by rw [List.length_take]; omega)
      have hneq := neq_same (digest (b.take t)) (digest_length _)
      have hz := Lib.hid (show (b.take p).length + (t - p) = (b.take t).length by rw [List.length_take, List.length_take]; omega)
      rcases Nat.lt_or_ge b.length (p + x) with hcase | hcase
      · have ht2 : t = b.length := by omega
        clear ht
        subst ht2
        have hneq2 := neq_same (digest b) (digest_length _)
        go_wp2_with fail
        refine (write_any g v _ _ _ (b.take p) _ _ _ hS hlen.out hr1 ((lb.drop _).take _) hoff1 (by rw [List.length_take]; omega)).mono ?_
        rintro e w2 ⟨rfl, v2, hM2, hbut, hv2⟩
        rw [hz.out, hT.out] at hM2
        have hbel2 : Below w.heap.size w w2 := But.below hbel hbut hbel.size (by
          intro j hj
          rcases hj with rfl | hj
          · exact hg
          · exact hv j hj)
        have hv2' : ∀ j, v2.ownBlock = some j → w.heap.size ≤ j := fun j hj => Nat.le_trans hbel.size (hv2 j hj)
        clear hS hbel hv hbut hv2 hr1 hoff1 q0
        have hS2 : St w2.drew g v2 (b.take b.length) := StN.drew (.inl hM2)
        have hbel3 : Below w.heap.size w w2.drew := below_drewN hbel2 1
        go_wp2_with fail
        go_region_with (first
          | (go_at_call 18; refine (stateSum_any g v2 (b.take b.length) _ hS2 hml).mono ?_; rintro e w3 ⟨rfl, hM3, hg3⟩; have hbel4 := below_only hbel3 hg3 hbel3.size hg; have hr3 := (hb.below hbel4).take b.length)
          | (go_at_call 14; refine (shaSum_any _ _ c (b.take b.length) _ hkl.out (by omega) hr3 (lb.take _)).mono ?_; rintro e w4 ⟨rfl, hb4⟩))
        go_wp2_with fail
        go_roundw
        case rel => exact ⟨b.length, k + 1, v2, rfl, by go_num, htn, hlt, StN.below (.inl hM3) hb4, hbel4.trans (hb4.mono hbel4.size), hv2'⟩
        case measure => simp [intOf]; omega
      · have hte : (p : Int) + (x : Int) = (t : Int) := by omega
        clear ht
        go_wp2_with fail
        refine (write_any g v _ _ _ (b.take p) _ _ _ hS hlen.out hr1 ((lb.drop _).take _) hoff1 (by rw [List.length_take]; omega)).mono ?_
        rintro e w2 ⟨rfl, v2, hM2, hbut, hv2⟩
        rw [hz.out, hT.out] at hM2
        have hbel2 : Below w.heap.size w w2 := But.below hbel hbut hbel.size (by
          intro j hj
          rcases hj with rfl | hj
          · exact hg
          · exact hv j hj)
        have hv2' : ∀ j, v2.ownBlock = some j → w.heap.size ≤ j := fun j hj => Nat.le_trans hbel.size (hv2 j hj)
        clear hS hbel hv hbut hv2 hr1 hoff1 q0
        have hS2 : St w2.drew g v2 (b.take t) := StN.drew (.inl hM2)
        have hbel3 : Below w.heap.size w w2.drew := below_drewN hbel2 1
        go_wp2_with fail
        go_region_with (first
          | (go_at_call 18; refine (stateSum_any g v2 (b.take t) _ hS2 hml).mono ?_; rintro e w3 ⟨rfl, hM3, hg3⟩; have hbel4 := below_only hbel3 hg3 hbel3.size hg; have hr3 := (hb.below hbel4).take t)
          | (go_at_call 14; refine (shaSum_any _ _ c (b.take t) _ hkl.out (by omega) hr3 (lb.take _)).mono ?_; rintro e w4 ⟨rfl, hb4⟩))
        go_wp2_with fail
        go_roundw
        case rel => exact ⟨t, k + 1, v2, rfl, by go_num, htn, hlt, StN.below (.inl hM3) hb4, hbel4.trans (hb4.mono hbel4.size), hv2'⟩
        case measure => simp [intOf]; omega
    · have hr1 : Rd .u8 wr (cutAddr A p c) (b.drop p) := rd_cut (hb.below hbel) p c hc
      have hoff1 : Off (cutAddr A p c) (b.drop p) g := off_cut' hb (Off.new hb hg) p c
      have hsl := slice_l A b.length c p hp
      have hlen := Lib.hid (show b.length - p = (b.drop p).length by rw [List.length_drop])
      have hz := Lib.hid (show (b.take p).length + (b.length - p) = b.length by rw [List.length_take]; omega)
      have heql := eql_same (digest b) (digest_length _)
      have hml : b.length ≤ 1099511627776 := by omega
      go_wp2_with fail
      refine (write_any g v _ _ _ (b.take p) _ _ _ hS hlen.out hr1 (lb.drop _) hoff1 (by rw [List.length_take]; omega)).mono ?_
      rintro e w2 ⟨rfl, v2, hM2, hbut, hv2⟩
      rw [hz.out, List.take_append_drop] at hM2
      have hbel2 : Below w.heap.size w w2 := But.below hbel hbut hbel.size (by
        intro j hj
        rcases hj with rfl | hj
        · exact hg
        · exact hv j hj)
      clear hS hbel hv hbut hv2 hr1 hoff1
      go_wp2_with fail
      refine (stateSum_any g v2 b _ (.inl hM2) hml).mono ?_
      rintro e w3 ⟨rfl, hM3, hg3⟩
      have hbel3 := below_only hbel2 hg3 hbel2.size hg
      clear hM2 hg3 hbel2
      go_wp2_with fail
      refine (shaSum_any A _ c b _ rfl hml (hb.below hbel3) lb).mono ?_
      rintro e w4 ⟨rfl, hb4⟩
      have hM4 := StN.below (.inl hM3) hb4
      have hbel4 := hbel3.trans (hb4.mono hbel3.size)
      clear hM3 hb4 hbel3
      go_wp2_with fail
      refine (stateSum_any g v2 b _ hM4 hml).mono ?_
      rintro e w5 ⟨rfl, hM5, hg5⟩
      have hbel5 := below_only hbel4 hg5 hbel4.size hg
      clear hM4 hg5 hbel4
      go_wp2_with fail
      refine (shaSum_any A _ c b _ rfl hml (hb.below hbel5) lb).mono ?_
      rintro e w6 ⟨rfl, hb6⟩
      have hbel6 := hbel5.trans (hb6.mono hbel5.size)
      clear hM5 hb6 hbel5
      go_wp2_with fail
      refine (shaWorks_any _).mono ?_
      rintro e w7 ⟨rfl, hb7⟩
      go_wp2_with fail
      go_ret
      exact ⟨rfl, hbel6.trans (hb7.mono hbel6.size)⟩
end Go.Proofs.Ytmbkehmgpcmicaa
