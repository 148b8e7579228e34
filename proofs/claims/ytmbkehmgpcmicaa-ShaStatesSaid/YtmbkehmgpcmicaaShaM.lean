/-
  The walks of the statements ShaNil, ShaBytes, ShaPieces.
-/
import Derived.Test.YtmbkehmgpcmicaaShaL
namespace Go.Proofs.Ytmbkehmgpcmicaa
set_option linter.unusedVariables false
set_option linter.unusedSimpArgs false
open Go.RowKit

theorem built_32 : Try.prog.built 25 [] = some (ints .u8 (List.replicate 32 0)).toArray := by kernel_rfl
set_option maxRecDepth 100000 in
set_option maxHeartbeats 800000 in
theorem shaNil_any (A : Option Addr) (n c : Nat) (w : World) (hl : n ≤ 9223372036854775807) :
    Calls Try.prog 7 #[.slice A n c] w (Yes w) := by
  by_cases h : 65536 < n
  · go_enter Try.func7, Try.ntmps7
    go_wp2_with fail
    refine (shaWorks_any _).mono ?_
    rintro e w1 ⟨rfl, hb⟩
    go_wp2_with fail
    go_ret
    exact ⟨rfl, hb⟩
  · obtain ⟨Z, hZ⟩ : ∃ Z, Z = (ints .u8 (List.replicate 32 0)).toArray := ⟨_, rfl⟩
    have hq : ∀ w, (binOp .eql 25 (.agg Z) (.agg Z)).run Try.prog w = .ok (.bool true) w := by rw [hZ]; exact eql_same (List.replicate 32 0) rfl
    have hbl : Hid (Try.prog.built 25 [] = some Z) := by rw [hZ]; exact built_32
    have hsn : Hid (∀ w, Calls Try.prog 18 #[.pointer none] w fun e w' => e = .returned (.agg Z) ∧ Below w.heap.size w w') := by rw [hZ]; exact sumNil_any
    clear hZ
    go_enter Try.func7, Try.ntmps7
    go_wp2_with fail
    refine (writeNil_any _ _).mono ?_
    rintro e w1 ⟨rfl, rfl⟩
    go_wp2_with fail
    refine (hsn.out _).mono ?_
    rintro e w1 ⟨rfl, hb1⟩
    go_wp2_with (refine wpList_build0 rfl 25 rfl Z hbl.out ?_)
    refine (shaWorks_any _).mono ?_
    rintro e w2 ⟨rfl, hb2⟩
    go_wp2_with fail
    go_ret
    exact ⟨rfl, hb1.trans (hb2.mono hb1.size)⟩
theorem StN.drew {w : World} {g : Nat} {v : Value} {m : List Nat} {z : Nat} (h : StN w g v m z) : StN w.drew g v m z := h.keep (Nat.le_refl _) rfl fun _ _ => rfl
set_option maxRecDepth 100000 in
set_option maxHeartbeats 1600000 in
theorem shaBytes_any (A : Option Addr) (n c : Nat) (b : List Nat) (w : World) (hn : n = b.length) (hc : n ≤ c) (hcl : c ≤ 9223372036854775807) (hb : Rd .u8 w A b) (lb : Lim 256 b) :
    Calls Try.prog 10 #[.slice A n c] w (Yes w) := by
  subst hn
  by_cases h : 300 < b.length
  · go_enter Try.func10, Try.ntmps10
    go_wp2_with fail
    refine (shaWorks_any _).mono ?_
    rintro e w1 ⟨rfl, hb⟩
    go_wp2_with fail
    go_ret
    exact ⟨rfl, hb⟩
  · go_enter Try.func10, Try.ntmps10
    go_wp2_with fail
    refine (new_any _).mono ?_
    rintro e w1 ⟨g, v, rfl, hg, rfl, hM, hb1⟩
    go_wp2_with fail
    go_loopw [4] (fun s wr => ∃ (k : Nat) (v : Value), s = .int .i64 (k : Int) ∧ k ≤ b.length ∧ St wr g v (b.take k) ∧ Below w.heap.size w wr ∧ ∀ j, v.ownBlock = some j → w.heap.size ≤ j) (fun s _ => b.length - (intOf s).toNat)
    case atStart => exact ⟨0, _, rfl, Nat.zero_le _, .inl hM, hb1, fun j hj => by cases hj⟩
    case round =>
      clear hM hb1
      obtain ⟨k, v, rfl, hk, hS, hbel, hv⟩ := hrel
      by_cases hlt : k < b.length
      · obtain ⟨x, hgx⟩ := get_of_lt hlt
        obtain ⟨bb, o, rfl, _, _⟩ := hb.pos hgx
        have hT := Lib.hid (show b.take k ++ [x] = b.take (k + 1) by rw [List.take_add_one, hgx]; rfl)
        have hD := Lib.hid (show (b.drop k).take 1 = [x] by
          have := List.getElem?_eq_some_iff.1 hgx
          obtain ⟨h1, h2⟩ := this
          rw [List.drop_eq_getElem_cons h1, h2]; rfl)
        have hlx := lb.get hgx
        have hr1 : Rd .u8 wr (some ⟨bb, o + k, none⟩) [x] := by
          have := (rd_drop (hb.below hbel) k).take 1
          rwa [hD.out] at this
        have hoff1 : Off (some ⟨bb, o + k, none⟩) [x] g := by
          have := (off_drop (Off.new hb hg) k).take 1
          rwa [hD.out] at this
        have hn1 : IntKind.i64.wrap ((k : Int) + 1) = (k : Int) + 1 := IntWalk.i64_in _ (by omega)
        have hn2 : ((k : Int) + 1).toNat = k + 1 := by omega
        have hn3 : (0 : Int) ≤ (k : Int) + 1 := by omega
        have hn4 : (k : Int) + 1 ≤ (c : Int) := by omega
        clear hgx
        go_wp2_with fail
        refine (write_any g v _ _ _ (b.take k) [x] _ _ hS (by simp) hr1 (fun y hy => by rw [List.mem_singleton] at hy; omega) hoff1 (by rw [List.length_take]; simp; omega)).mono ?_
        rintro e w2 ⟨rfl, v2, hM2, hbut, hv2⟩
        rw [show (b.take k).length + 1 = (b.take (k + 1)).length by simp; omega, hT.out] at hM2
        have hbel2 : Below w.heap.size w w2 := But.below hbel hbut hbel.size (by
          intro j hj
          rcases hj with rfl | hj
          · exact hg
          · exact hv j hj)
        have hv2' : ∀ j, v2.ownBlock = some j → w.heap.size ≤ j := fun j hj => Nat.le_trans hbel.size (hv2 j hj)
        clear hS hbel hv hbut hv2 hr1 hoff1
        have hS2 : St w2.drew g v2 (b.take (k + 1)) := StN.drew (.inl hM2)
        have hbel3 : Below w.heap.size w w2.drew := below_drewN hbel2 1
        have hneq := neq_same (digest (b.take (k + 1))) (digest_length _)
        have hml : (b.take (k + 1)).length ≤ 1099511627776 := by rw [List.length_take]; omega
        have hkl := Lib.hid (show k + 1 = (b.take (k + 1)).length by rw [List.length_take]; omega)
        go_wp2_with fail
        go_region_with (first
          | (go_at_call 18; refine (stateSum_any g v2 (b.take (k + 1)) _ hS2 hml).mono ?_; rintro e w3 ⟨rfl, hM3, hg3⟩; have hbel4 := below_only hbel3 hg3 hbel3.size hg; have hr3 := (hb.below hbel4).take (k + 1))
          | (go_at_call 14; refine (shaSum_any _ _ c (b.take (k + 1)) _ hkl.out (by omega) hr3 (lb.take _)).mono ?_; rintro e w4 ⟨rfl, hb4⟩))
        go_wp2_with fail
        go_roundw
        case rel => exact ⟨k + 1, v2, by go_num, hlt, StN.below (.inl hM3) hb4, hbel4.trans (hb4.mono hbel4.size), hv2'⟩
        case measure => simp [intOf]; omega
      · go_wp2_with fail
        refine (shaWorks_any _).mono ?_
        rintro e w5 ⟨rfl, hb5⟩
        go_wp2_with fail
        go_ret
        exact ⟨rfl, hbel.trans (hb5.mono hbel.size)⟩
end Go.Proofs.Ytmbkehmgpcmicaa
