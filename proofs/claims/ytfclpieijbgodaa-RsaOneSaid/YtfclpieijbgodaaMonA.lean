/-
  mont's own steps on rows of limbs: fold, add, under, take, narrow.
-/
import Derived.Test.YtfclpieijbgodaaNatX
import Derived.Test.YtfclpieijbgodaaMonP
namespace Go.Proofs.Ytfclpieijbgodaa
set_option linter.unusedVariables false
set_option linter.unusedSimpArgs false
open Go.RowKit

set_option maxHeartbeats 400000 in
theorem mfold_any (cs ys : List Nat) (g off n cap m c : Nat) (A : Option Addr) (a : Nat) (w : World) (hb : Whl .u32 33 w g cs) (hy : Rd .u32 w A ys) (ho : Off A ys g)
    (hm : m = ys.length) (hl : m ≤ 70000) (hn : m ≤ n) (hoff : off + m ≤ cs.length) (ha : a < 4294967296) (lc : Lim 4294967296 cs) (ly : Lim 4294967296 ys) :
    Calls Try.prog 94 #[.slice (some ⟨g, off, none⟩) n cap, .slice A m c, .int .u32 (a : Int)] w fun e w' =>
      e = .returned (.int .u32 ((foldTo cs off ys a m).2 : Int)) ∧ Whl .u32 33 w' g (foldTo cs off ys a m).1 ∧ w.grownBy w' (some g) := by
  subst hm
  go_enter Try.func94, Try.ntmps94
  go_wp2
  go_loopw [7, 13] (fun c i wr => ∃ k cy : Nat, ∃ ds, k ≤ ys.length ∧ i = .int .i64 k ∧ c = .int .u64 cy ∧ Hid (foldTo cs off ys a k = (ds, cy)) ∧ Whl .u32 33 wr g ds ∧ w.grownBy wr (some g)) (fun _ i _ => ys.length - (intOf i).toNat)
  case atStart => exact ⟨0, 0, cs, Nat.zero_le _, rfl, rfl, rfl, hb, only_refl _ _⟩
  case round =>
    obtain ⟨k, cy, ds, hk, rfl, rfl, hf, hbr, hgr⟩ := hrel
    have hcy : cy < 4294967296 := by have := foldTo_carry cs off ys a k ha lc ly; rwa [hf.out] at this
    by_cases hlt : k < ys.length
    · obtain ⟨y, hgy⟩ := get_of_lt hlt
      have hdl : off + k < ds.length := by have := foldTo_length cs off ys a k; rw [hf.out] at this; simp at this; omega
      obtain ⟨x, hgx⟩ := get_of_lt hdl
      have hyb := ly.get hgy
      have hxb : x < 4294967296 := by have := foldTo_lim cs off ys a k lc; rw [hf.out] at this; exact this.get hgx
      obtain ⟨b, o, rfl, hbw, hcy0⟩ := (hy.grown hgr (fun _ e => by injection e with e; subst e; exact ho)).pos hgy
      have hcell := hcy0 k y hgy
      have hcx := hbr.blk.cell hgx
      have hfx := hbr.blk.frozen hgx
      have hml := mul_lim ha hyb
      have hstep := Lib.hid (foldTo_succ hgy hf.out hgx)
      have hset := Lib.hid (hbr.set (off + k) ((a * y + x + cy) % 4294967296))
      clear hcy0 hgy hgx
      go_wp2
      go_roundw
      case rel => exact ⟨k + 1, _, _, by omega, by go_num, by go_num, hstep.out, hset.out, only_set hgr (.inl rfl) _⟩
      case measure => simp [intOf]; omega
    · obtain rfl : k = ys.length := by omega
      have hend := Lib.hid hf.out
      go_wp2
      go_ret
      rw [hend.out]
      exact ⟨rfl, hbr, hgr⟩
set_option maxHeartbeats 400000 in
theorem mnarrow_any (A : Option Addr) (n c : Nat) (xs : List Nat) (w : World) (hn : n = xs.length) (hc : n ≤ c) (hl : c ≤ 9223372036854775807) (hx : Rd .u32 w A xs) (lx : Lim 4294967296 xs) :
    Calls Try.prog 78 #[.slice A n c] w (TrimPost A n xs w) := by
  subst hn
  go_enter Try.func78, Try.ntmps78
  go_wp2
  go_loop [3] (fun t => ∃ k : Nat, t = .int .i64 k ∧ k ≤ xs.length ∧ Hid (∀ i x, k ≤ i → xs[i]? = some x → x = 0)) (fun t => (intOf t).toNat)
  case atStart => exact ⟨xs.length, rfl, Nat.le_refl _, fun i x hi hg => by have := (List.getElem?_eq_some_iff.1 hg).1; omega⟩
  case round =>
    obtain ⟨k, rfl, hk, h0⟩ := hrel
    rcases Nat.eq_zero_or_pos k with rfl | hp
    · go_wp2
      go_ret
      exact ⟨0, rfl, Nat.zero_le _, take_limbs lx (Nat.zero_le _) h0.out (.inl rfl), rfl⟩
    · obtain ⟨x, hgx⟩ := get_of_lt (xs := xs) (i := k - 1) (by omega)
      obtain ⟨b, o, rfl, hbw, hcl⟩ := hx.pos hgx
      have hcell := hcl _ x hgx
      have HG := Lib.hid hgx
      clear hcl hgx
      by_cases hx0 : x = 0
      · subst hx0
        go_wp2
        go_round
        case rel => exact ⟨k - 1, by go_num, by omega, fun i x hi hg => by
          rcases Nat.lt_or_ge i k with h | h
          · obtain rfl : i = k - 1 := by omega
            have := HG.out
            rw [this] at hg
            injection hg with hg
            exact hg.symm
          · exact h0.out i x h hg⟩
        case measure => simp [intOf]; omega
      · have hx1 : ((x : Int) == 0) = false := by simpa using hx0
        go_wp2
        go_ret
        exact ⟨k, rfl, hk, take_limbs lx hk h0.out (.inr (by rw [HG.out]; simpa using hx0)), rfl⟩
/-- It returns nothing; block g holds these. -/
def DoneWhl (g : Nat) (cs : List Nat) (w : World) (e : Ending) (w' : World) : Prop := e = .returned (.tuple #[]) ∧ Whl .u32 33 w' g cs ∧ w.grownBy w' (some g)
theorem madd_any (cs : List Nat) (g off n cap x0 x1 a : Nat) (w : World) (hb : Whl .u32 33 w g cs) (h0 : cs[off]? = some x0) (h1 : cs[off + 1]? = some x1) (hn : 2 ≤ n) (hn2 : n ≤ 70000) (hx0 : x0 < 4294967296) (hx1 : x1 < 4294967296) (ha : a < 4294967296) :
    Calls Try.prog 95 #[.slice (some ⟨g, off, none⟩) n cap, .int .u32 (a : Int)] w (DoneWhl g ((cs.set off ((x0 + a) % 4294967296)).set (off + 1) ((x1 + (x0 + a) / 4294967296) % 4294967296)) w) := by
  have hc0 := hb.blk.cell h0
  have hf0 := hb.blk.frozen h0
  have hc1 := hb.blk.cell h1
  have hf1 := hb.blk.frozen h1
  have hs := hb.set off ((x0 + a) % 4294967296)
  have hs2 := hs.set (off + 1) ((x1 + (x0 + a) / 4294967296) % 4294967296)
  have hg := only_set (only_set (only_refl w (some g)) (p := ⟨g, off, none⟩) (.inl rfl) (.int .u32 (((x0 + a) % 4294967296 : Nat) : Int))) (p := ⟨g, off + 1, none⟩) (.inl rfl) (.int .u32 (((x1 + (x0 + a) / 4294967296) % 4294967296 : Nat) : Int))
  have e1 : (((x0 + a) % 4294967296 : Nat) : Int) = ((x0 : Int) + (a : Int)) % 4294967296 := by simp
  have e2 : (((x1 + (x0 + a) / 4294967296) % 4294967296 : Nat) : Int) = ((x1 : Int) + ((x0 : Int) + (a : Int)) / 4294967296) % 4294967296 := by simp
  rw [e1, e2] at hs2 hg
  have HS := Lib.hid hs2
  have HG := Lib.hid hg
  have i0 : (0 : Int) < (n : Int) := by omega
  have i1 : (1 : Int) < (n : Int) := by omega
  clear hs hs2 hg h0 h1 e1 e2
  go_enter Try.func95, Try.ntmps95
  go_wp2
  go_end0
  exact ⟨rfl, HS.out, HG.out⟩
set_option maxHeartbeats 800000 in
theorem munder_any (A B : Option Addr) (n m c d : Nat) (xs ys : List Nat) (w : World) (hn : n = xs.length) (hm : m = xs.length) (hlen : xs.length = ys.length) (hl : n ≤ 70000) (hx : Rd .u32 w A xs) (hy : Rd .u32 w B ys)
    (lx : Lim 4294967296 xs) (ly : Lim 4294967296 ys) :
    Calls Try.prog 96 #[.slice A n c, .slice B m d] w (Quiet (.bool (decide (val xs < val ys))) w) := by
  subst hn
  subst hm
  have hle1 : xs.length ≤ ys.length := by omega
  have hle2 : ys.length ≤ xs.length := by omega
  clear hlen
  go_enter Try.func96, Try.ntmps96
  go_wp2
  go_loopw [5] (fun t wr => ∃ k q : Nat, t = .int .i64 ((k : Int) - 1) ∧ k ≤ xs.length ∧ Hid (xs.drop k = ys.drop k) ∧ wr = w.drewN q) (fun t _ => (intOf t + 1).toNat)
  case atStart => exact ⟨xs.length, 0, rfl, Nat.le_refl _, by show _ = _; rw [List.drop_of_length_le (Nat.le_refl _), List.drop_of_length_le (by omega)], rfl⟩
  case round =>
    obtain ⟨k, q, rfl, hk, ht, rfl⟩ := hrel
    rcases Nat.eq_zero_or_pos k with rfl | hp
    · have he : xs = ys := by simpa using ht.out
      subst he
      have HR := Lib.hid (show decide (val xs < val xs) = false by simp)
      go_wp2
      go_ret
      first | exact Quiet.mk rfl _ | exact Quiet.mk (congrArg Value.bool HR.out.symm) _ | exact Quiet.mk2 (congrArg Value.bool HR.out.symm) _ _ | exact Quiet.mk3 (congrArg Value.bool HR.out.symm) _ _ _
    · obtain ⟨k, rfl⟩ : ∃ j, k = j + 1 := ⟨k - 1, by omega⟩
      have hlt : k < xs.length := by omega
      have hlt' : k < ys.length := by omega
      obtain ⟨x, hgx⟩ := get_of_lt hlt
      obtain ⟨y, hgy⟩ := get_of_lt hlt'
      obtain ⟨b, o, rfl, hbw, hcx⟩ := hx.pos hgx
      obtain ⟨b', o', rfl, hbw', hcy⟩ := hy.pos hgy
      have hcellx := hcx k x hgx
      have hcelly := hcy k y hgy
      have hk1 : (((k + 1 : Nat) : Int) - 1) = (k : Int) := by omega
      rw [hk1]
      have HX := Lib.hid hgx
      have HY := Lib.hid hgy
      clear hcx hcy hgx hgy hk1
      rcases Nat.lt_trichotomy x y with hxy | hxy | hxy
      · have hne : ((x : Int) != (y : Int)) = true := by simp; omega
        have h1 := val_lt_of lx HX.out HY.out ht.out hxy
        have HR := Lib.hid (show decide (val xs < val ys) = true by simp; omega)
        clear h1
        go_wp2
        go_quiet (fail)
        go_wp2
        go_quiet (fail)
        go_wp2
        go_ret
        exact Quiet.mk3 (congrArg Value.bool (by rw [HR.out])) _ _ _
      · subst hxy
        have hne : ((x : Int) != (x : Int)) = false := by simp
        go_wp2
        go_quiet (fail)
        go_wp2
        go_roundw
        case rel => exact ⟨k, _, by go_num, by omega, by
          have h1 := HX.out
          have h2 := HY.out
          rw [List.getElem?_eq_getElem hlt] at h1
          rw [List.getElem?_eq_getElem hlt'] at h2
          injection h1 with h1
          injection h2 with h2
          show _ = _
          rw [List.drop_eq_getElem_cons hlt, List.drop_eq_getElem_cons hlt', h1, h2, ht.out], rfl⟩
        case measure => simp [intOf] <;> omega
      · have hne : ((x : Int) != (y : Int)) = true := by simp; omega
        have h1 := val_lt_of ly HY.out HX.out ht.out.symm hxy
        have HR := Lib.hid (show decide (val xs < val ys) = false by simp; omega)
        clear h1
        go_wp2
        go_quiet (fail)
        go_wp2
        go_quiet (fail)
        go_wp2
        go_ret
        exact Quiet.mk3 (congrArg Value.bool (by rw [HR.out]; exact decide_eq_false (by omega))) _ _ _
set_option maxHeartbeats 800000 in
theorem mtake_any (cs ys : List Nat) (g off n cap m c : Nat) (A : Option Addr) (w : World) (hb : Whl .u32 33 w g cs) (hy : Rd .u32 w A ys) (ho : Off A ys g)
    (hm : m = n) (hmy : ys.length = n) (hl : n ≤ 70000) (hoff : off + n ≤ cs.length) (lc : Lim 4294967296 cs) (ly : Lim 4294967296 ys) :
    Calls Try.prog 97 #[.slice (some ⟨g, off, none⟩) n cap, .slice A m c] w (DoneWhl g (takeTo cs off ys n).1 w) := by
  subst hm
  have hmy1 := Lib.hid hmy
  clear hmy
  go_enter Try.func97, Try.ntmps97
  go_wp2
  go_loopw [4, 9] (fun b i wr => ∃ k cy : Nat, ∃ ds, k ≤ m ∧ i = .int .i64 k ∧ b = .int .i64 (-(cy : Int)) ∧ cy ≤ 1 ∧ Hid (takeTo cs off ys k = (ds, cy)) ∧ Whl .u32 33 wr g ds ∧ w.grownBy wr (some g)) (fun _ i _ => m - (intOf i).toNat)
  case atStart => exact ⟨0, 0, cs, Nat.zero_le _, rfl, rfl, by omega, rfl, hb, only_refl _ _⟩
  case round =>
    obtain ⟨k, cy, ds, hk, rfl, rfl, hcy, hf, hbr, hgr⟩ := hrel
    by_cases hlt : k < m
    · have hdl : off + k < ds.length := by have := takeTo_length cs off ys k; rw [hf.out] at this; simp at this; omega
      obtain ⟨x, hgx⟩ := get_of_lt hdl
      have hxb : x < 4294967296 := by have := takeTo_lim cs off ys k lc; rw [hf.out] at this; exact this.get hgx
      have hcx := hbr.blk.cell hgx
      have hfx := hbr.blk.frozen hgx
      obtain ⟨y, hgy⟩ := get_of_lt (xs := ys) (i := k) (by rw [hmy1.out]; exact hlt)
      have hyb := ly.get hgy
      obtain ⟨b, o, rfl, hbw, hcy0⟩ := (hy.grown hgr (fun _ e => by injection e with e; subst e; exact ho)).pos hgy
      have hcell := hcy0 k y hgy
      have hstep := Lib.hid (takeTo_succ (y := y) (by simp [List.getD_eq_getElem?_getD, hgy]) hf.out hgx)
      have HX := Lib.hid hgx
      obtain ⟨D, hD⟩ : ∃ D : Int, D = (x : Int) - (y : Int) + -(cy : Int) := ⟨_, rfl⟩
      have f1 : (x : Int) - (y : Int) + -(cy : Int) = D := hD.symm
      have hdb := diff_borrow x y cy hxb hyb hcy
      have hdl2 : diff32 x y cy < 4294967296 := by unfold diff32; exact Nat.mod_lt _ (by omega)
      have hbl2 := borrow32_le x y cy
      have f2 : D % 4294967296 = (diff32 x y cy : Int) := by omega
      have f3 : D / 4294967296 = -(borrow32 x y cy : Int) := by omega
      have g1 : -4294967296 ≤ D := by omega
      have g2 : D < 4294967296 := by omega
      clear hcy0 hgy hgx hD hdb
      go_wp2_with fail
      go_quiet (fail)
      have hset := (hbr.drewN nq).set (off + k) (diff32 x y cy)
      have HS := Lib.hid hset
      have hgr2 := only_drewN hgr nq
      replace hcx : (wr.drewN nq).cell? ⟨g, off + k, none⟩ = some (.int .u32 (x : Int)) := hcx
      replace hfx : (wr.drewN nq).frozen? ⟨g, off + k, none⟩ = false := hfx
      clear hset hbr hgr hcell
      generalize wr.drewN nq = w6 at *
      go_wp2_with fail
      go_roundw
      case rel => exact ⟨k + 1, borrow32 x y cy, _, by omega, by go_num, rfl, hbl2, hstep.out, HS.out, only_set hgr2 (.inl rfl) _⟩
      case measure => simp [intOf] <;> omega
    · obtain rfl : k = m := by omega
      have hend := Lib.hid hf.out
      go_wp2_with fail
      go_end0
      refine ⟨rfl, ?_, hgr⟩
      rw [hend.out]
      exact hbr
end Go.Proofs.Ytfclpieijbgodaa
