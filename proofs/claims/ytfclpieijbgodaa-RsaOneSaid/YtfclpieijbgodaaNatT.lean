/-
  The reference's sums, differences and products: at, add, sub, mul, and what is answered.
-/
import Derived.Test.YtfclpieijbgodaaNatK
import Derived.Test.YtfclpieijbgodaaNum7
import Derived.Laws.BitsAllLaws
namespace Go.Proofs.Ytfclpieijbgodaa
set_option linter.unusedVariables false
set_option linter.unusedSimpArgs false
open Go.RowKit

theorem mask32 (t : Nat) (h : t < 18446744073709551616) : bits .and .u64 (t : Int) 4294967295 = ((t % 4294967296 : Nat) : Int) := by
  rw [show (4294967295 : Int) = ((4294967295 : Nat) : Int) from rfl, u64_and_nat t 4294967295 h (by omega), show (4294967295 : Nat) = 2 ^ 32 - 1 from rfl, Nat.and_two_pow_sub_one_eq_mod]
/-- It returns this number; the world is as it was. -/
def RetN (k : IntKind) (n : Nat) (w : World) (e : Ending) (w' : World) : Prop := e = .returned (.int k (n : Int)) ∧ w = w'
theorem at_any (A : Option Addr) (n c i : Nat) (xs : List Nat) (w : World) (hn : n = xs.length) (hx : Rd .u32 w A xs) (lx : Lim 4294967296 xs) :
    Calls Try.prog 72 #[.slice A n c, .int .i64 (i : Int)] w (RetN .u64 (xs.getD i 0) w) := by
  subst hn
  by_cases hlt : i < xs.length
  · obtain ⟨x, hgx⟩ := get_of_lt hlt
    obtain ⟨b, o, rfl, hbw, hcl⟩ := hx.pos hgx
    have hcell := hcl i x hgx
    have hxb := lx.get hgx
    have HG := Lib.hid (show xs.getD i 0 = x by rw [List.getD_eq_getElem?_getD, hgx]; rfl)
    clear hcl hgx
    go_enter Try.func72, Try.ntmps72
    go_wp2
    go_ret
    rw [HG.out]
    exact ⟨rfl, rfl⟩
  · have HG := Lib.hid (show xs.getD i 0 = 0 by rw [List.getD_eq_getElem?_getD, List.getElem?_eq_none (by omega)]; rfl)
    go_enter Try.func72, Try.ntmps72
    go_wp2
    go_ret
    rw [HG.out]
    exact ⟨rfl, rfl⟩
theorem below_row4 {w wr w5 : World} {o : Obj} {e : TypeId} {v : Value} {n : Nat} {xs : List Value} (hbel : Below w.heap.size w wr) (hown : wr.ownsRow w.heap.size e 1 v n xs) (hg : (wr.alloc o).grownBy w5 v.ownBlock) : Below w.heap.size w w5 :=
  (hbel.alloc hbel.size o).grown hg (by have := hbel.size; simp; omega) (fun k hk => (hown.lt k hk).1)
set_option maxRecDepth 100000 in
set_option maxHeartbeats 1600000 in
theorem refadd_any (A B : Option Addr) (n m c d : Nat) (xs ys : List Nat) (w : World) (hn : n = xs.length) (hm : m = ys.length) (hl : n ≤ 30000) (hl' : m ≤ 30000) (hx : Rd .u32 w A xs) (hy : Rd .u32 w B ys) (lx : Lim 4294967296 xs) (ly : Lim 4294967296 ys) :
    Calls Try.prog 60 #[.slice A n c, .slice B m d] w (Gives .u32 (limbs (val xs + val ys)) w) := by
  subst hn
  subst hm
  go_enter Try.func60, Try.ntmps60
  go_wp2_with fail
  go_loopw [5, 6, 7] (fun so sc si wr => ∃ (i cy : Nat) (A2 : Option Addr) (c2 : Nat) (o : List Nat), so = .slice A2 i c2 ∧ sc = .int .u64 (cy : Int) ∧ si = .int .i64 (i : Int) ∧ (i ≤ xs.length ∨ i ≤ ys.length + 1 ∨ i ≤ xs.length + 1) ∧ Hid (sumTo xs ys i = (o, cy)) ∧ wr.ownsRow w.heap.size 33 1 (.slice A2 i c2) i (ints .u32 o) ∧ Below w.heap.size w wr) (fun _ _ si _ => xs.length + ys.length + 2 - (intOf si).toNat)
  case atStart => exact ⟨0, 0, none, 0, [], rfl, rfl, rfl, .inl (Nat.zero_le _), rfl, World.ownsRow_nil _ _ _ _, Below.refl _ _⟩
  case round =>
    obtain ⟨i, cy, A2, c2, o, rfl, rfl, rfl, hi, hst, hown, hbel⟩ := hrel
    obtain ⟨k1, k2, k3, k4⟩ := sumTo_ok lx ly i
    rw [hst.out] at k1 k2 k3
    clear k4
    by_cases hgo : i < xs.length ∨ i < ys.length ∨ 0 < cy
    · have hnext : i + 1 ≤ xs.length ∨ i + 1 ≤ ys.length + 1 ∨ i + 1 ≤ xs.length + 1 := by
        rcases hgo with h | h | h
        · omega
        · omega
        · by_cases h1 : i ≤ xs.length
          · omega
          · by_cases h2 : i ≤ ys.length
            · omega
            · exfalso
              rcases Nat.le_total xs.length ys.length with h3 | h3
              · have h4 := sumTo_done lx ly (m := ys.length) h3 (Nat.le_refl _)
                obtain rfl : i = ys.length + 1 := by omega
                rw [hst.out] at h4
                simp at h4
                omega
              · have h4 := sumTo_done lx ly (m := xs.length) (Nat.le_refl _) h3
                obtain rfl : i = xs.length + 1 := by omega
                rw [hst.out] at h4
                simp at h4
                omega
      have hx2 := hx.below hbel
      have hy2 := hy.below hbel
      have hxb := getD_lim lx (by omega) i
      have hyb := getD_lim ly (by omega) i
      have hstep := Lib.hid (sumTo_succ hst.out)
      have hax := Lib.hid (at_any A _ c i xs wr rfl hx2 lx)
      have hay := Lib.hid (at_any B _ d i ys wr rfl hy2 ly)
      have hil : i ≤ 30001 := by omega
      clear hx2 hy2 k1 k2
      generalize xs.getD i 0 = x at *
      generalize ys.getD i 0 = y at *
      rcases (show i < xs.length ∨ ¬ i < xs.length by omega) with h1 | h1
      rotate_left
      rcases (show i < ys.length ∨ ¬ i < ys.length by omega) with h2 | h2
      rotate_left
      have h3 : 0 < cy := by omega
      all_goals
        clear hgo
        go_wp2_with fail
        refine hax.out.mono ?_
        rintro e w' ⟨rfl, rfl⟩
        go_wp2_with fail
        refine hay.out.mono ?_
        rintro e w' ⟨rfl, rfl⟩
        clear hax hay
        have hm := mask32 (x + y + cy) (by omega)
        rw [show ((x + y + cy : Nat) : Int) = (x : Int) + (y : Int) + (cy : Int) by simp] at hm
        have hv := Lib.hid (show (#[Value.int .u32 (((x + y + cy) % 4294967296 : Nat) : Int)] : Array Value) = (ints .u32 [(x + y + cy) % 4294967296]).toArray from rfl)
        go_wp2_with (at_builtin; refine wpList_append_ints _ rfl (.tmp 34) (.tmp 38) _ rfl w.heap.size 33 .u32 4 Try.underlying22 info_u32 (.slice A2 i c2) i o rfl (hown.alloc _) _ 1 1 [(x + y + cy) % 4294967296] rfl rfl (Rd.of_all (blk_lit wr [(x + y + cy) % 4294967296] _ (by simp [ints]))) (by simp only [maxLen]; omega) (by omega) (by have := hbel.size; simp; omega) ?_; intro v5 w5 hown5 hgrow5 _)
        obtain ⟨A5, c5, rfl, _⟩ := Own.of_row hown5
        have hbr5 := below_row4 hbel hown hgrow5
        clear hown hbel hm hv
        go_roundw
        case rel => exact ⟨i + 1, (x + y + cy) / 4294967296, A5, c5, _, rfl, by simp, by go_num, hnext, hstep, hown5, hbr5⟩
        case measure => simp [intOf]; omega
    · obtain rfl : cy = 0 := by omega
      have hv := Lib.hid (sumTo_val lx ly (by omega) (by omega) hst.out)
      obtain ⟨A5, c5, he, -, hc1, hc2, hO⟩ := Own.of_row hown
      injection he with he _ he2
      subst he
      subst he2
      go_wp2_with fail
      refine (refTrim_any A2 i c2 o _ k1.symm hc1 (by omega) hO.rd k2).mono ?_
      rintro e w1 ⟨A', c', rfl, g1, g2, g3, g4⟩
      rw [hv.out] at g1 g3 ⊢
      go_wp2_with fail
      go_ret
      exact ⟨A', c', rfl, g1, g2, g3.mono hbel.size, hbel.trans (g4.mono hbel.size)⟩
set_option maxRecDepth 100000 in
set_option maxHeartbeats 1600000 in
theorem refsub_any (A B : Option Addr) (n m c d : Nat) (xs ys : List Nat) (w : World) (hn : n = xs.length) (hm : m = ys.length) (hl : n ≤ 30000) (hx : Rd .u32 w A xs) (hy : Rd .u32 w B ys) (lx : Lim 4294967296 xs) (ly : Lim 4294967296 ys)
    (hle : ys.length ≤ xs.length) (hge : val ys ≤ val xs) :
    Calls Try.prog 65 #[.slice A n c, .slice B m d] w (Gives .u32 (limbs (val xs - val ys)) w) := by
  subst hn
  subst hm
  go_enter Try.func65, Try.ntmps65
  go_wp2_with fail
  go_loopw [5, 6, 7] (fun so sc si wr => ∃ (i cy : Nat) (A2 : Option Addr) (c2 : Nat) (ds : List Nat), so = .slice A2 i c2 ∧ sc = .int .u64 (cy : Int) ∧ si = .int .i64 (i : Int) ∧ i ≤ xs.length ∧ Hid (takeTo xs 0 ys i = (ds, cy)) ∧ wr.ownsRow w.heap.size 33 1 (.slice A2 i c2) i (ints .u32 (ds.take i)) ∧ Below w.heap.size w wr) (fun _ _ si _ => xs.length - (intOf si).toNat)
  case atStart => exact ⟨0, 0, none, 0, xs, rfl, rfl, rfl, Nat.zero_le _, rfl, World.ownsRow_nil _ _ _ _, Below.refl _ _⟩
  case round =>
    obtain ⟨i, cy, A2, c2, ds, rfl, rfl, rfl, hi, hst, hown, hbel⟩ := hrel
    have k1 := takeTo_borrow xs 0 ys i
    rw [hst.out] at k1
    by_cases hlt : i < xs.length
    · obtain ⟨x, hgx⟩ := get_of_lt hlt
      have hxb := lx.get hgx
      have hyb := getD_lim ly (by omega) i
      have hax := Lib.hid (at_any A _ c i xs wr rfl (hx.below hbel) lx)
      rw [show xs.getD i 0 = x by rw [List.getD_eq_getElem?_getD, hgx]; rfl] at hax
      have hay := Lib.hid (at_any B _ d i ys wr rfl (hy.below hbel) ly)
      obtain ⟨hs1, hs2⟩ := takeTo_take_succ hst.out hgx
      generalize ys.getD i 0 = y at *
      obtain ⟨e1, e2⟩ := diff_mod hxb hyb k1
      obtain ⟨T, hT⟩ : ∃ T, T = x + 4294967296 - y - cy := ⟨_, rfl⟩
      rw [← hT] at e1 e2
      have f1 : (x : Int) + 4294967296 - (y : Int) - (cy : Int) = (T : Int) := by omega
      have f2 : (1 : Int) - (T : Int) / 4294967296 = (borrow32 x y cy : Int) := by rw [← e2]; omega
      have hm := mask32 T (by omega)
      have hTl : T < 8589934592 := by omega
      have HS1 := Lib.hid hs1
      have HS2 := Lib.hid hs2
      have hb32 : borrow32 x y cy ≤ 1 := by unfold borrow32; split <;> omega
      have hdl : diff32 x y cy = T % 4294967296 := e1.symm
      have HD := Lib.hid hdl
      have hst2 := Lib.hid (show takeTo xs 0 ys (i + 1) = ((takeTo xs 0 ys (i + 1)).1, borrow32 x y cy) by rw [← hs2])
      clear hgx hs1 hs2 e1 e2 hT hdl
      go_wp2_with fail
      refine hax.out.mono ?_
      rintro e w' ⟨rfl, rfl⟩
      go_wp2_with fail
      refine hay.out.mono ?_
      rintro e w' ⟨rfl, rfl⟩
      clear hax hay
      have hv := Lib.hid (show (#[Value.int .u32 ((T : Int) % 4294967296)] : Array Value) = (ints .u32 [T % 4294967296]).toArray by simp [ints])
      go_wp2_with (at_builtin; refine wpList_append_ints _ rfl (.tmp 25) (.tmp 29) _ rfl w.heap.size 33 .u32 4 Try.underlying22 info_u32 (.slice A2 i c2) i (ds.take i) rfl (hown.alloc _) _ 1 1 [T % 4294967296] rfl rfl (Rd.of_all (blk_lit wr [T % 4294967296] _ (by first | exact hv.out | simp [ints]))) (by simp only [maxLen]; omega) (by omega) (by have := hbel.size; simp; omega) ?_; intro v5 w5 hown5 hgrow5 _)
      obtain ⟨A5, c5, rfl, _⟩ := Own.of_row hown5
      have hbr5 := below_row4 hbel hown hgrow5
      have hown6 : w5.ownsRow w.heap.size 33 1 (.slice A5 (i + 1) c5) (i + 1) (ints .u32 ((takeTo xs 0 ys (i + 1)).1.take (i + 1))) := by rw [HS1.out, HD.out]; exact hown5
      clear hown hown5 hbel hm hv
      go_roundw
      case rel => exact ⟨i + 1, borrow32 x y cy, A5, c5, _, rfl, rfl, by go_num, hlt, hst2, hown6, hbr5⟩
      case measure => simp [intOf]; omega
    · obtain rfl : i = xs.length := by omega
      obtain ⟨v1, v2⟩ := takeTo_sub (cs := xs) (ys := ys) (off := 0) (n := xs.length) (by omega) lx ly hle (by rw [Nat.pow_zero, Nat.one_mul]; exact hge)
      have k2 := takeTo_lim xs 0 ys xs.length lx
      have k3 := takeTo_length xs 0 ys xs.length
      rw [hst.out] at v2 k2 k3
      rw [Nat.pow_zero, Nat.one_mul] at v2
      simp only at k2 k3 v2
      rw [List.take_of_length_le (by omega)] at hown
      have hv := Lib.hid v2
      have hlen := Lib.hid k3.symm
      obtain ⟨A5, c5, he, -, hc1, hc2, hO⟩ := Own.of_row hown
      injection he with he _ he2
      subst he
      subst he2
      clear v1 v2 k3
      go_wp2_with fail
      refine (refTrim_any A2 _ c2 ds _ hlen.out hc1 (by omega) hO.rd k2).mono ?_
      rintro e w1 ⟨A', c', rfl, g1, g2, g3, g4⟩
      rw [hv.out] at g1 g3 ⊢
      go_wp2_with fail
      go_ret
      exact ⟨A', c', rfl, g1, g2, g3.mono hbel.size, hbel.trans (g4.mono hbel.size)⟩
set_option maxHeartbeats 800000 in
theorem refmul_any (A B : Option Addr) (n m c d : Nat) (xs ys : List Nat) (w : World) (hn : n = xs.length) (hm : m = ys.length) (hl : n ≤ 30000) (hl' : m ≤ 30000) (hx : Rd .u32 w A xs) (hy : Rd .u32 w B ys) (lx : Lim 4294967296 xs) (ly : Lim 4294967296 ys) :
    Calls Try.prog 67 #[.slice A n c, .slice B m d] w (Gives .u32 (limbs (val xs * val ys)) w) := by
  subst hn
  subst hm
  go_enter Try.func67, Try.ntmps67
  go_wp2_with (at_make; refine wpList_make_ints _ rfl _ _ _ rfl .u32 33 4 Try.underlying22 info_u32 _ _ (xs.length + ys.length) _ _ rfl rfl (by omega) (by omega) (by omega) (by omega) ?_; intro g w1 hg hw1 hs1 hb1)
  have hgl : w.heap.size ≤ g := by rw [hg.out]; exact Nat.le_refl _
  go_loopw [6] (fun t wr => ∃ i : Nat, t = .int .i64 i ∧ i ≤ xs.length ∧ Blk .u32 wr g (mulTo xs ys i) ∧ Below w.heap.size w wr) (fun t _ => xs.length - (intOf t).toNat)
  case atStart => exact ⟨0, rfl, Nat.zero_le _, hw1.blk, hb1⟩
  case round =>
    obtain ⟨i, rfl, hi, hbr, hbel⟩ := hrel
    by_cases hlt : i < xs.length
    · obtain ⟨a, hga⟩ := get_of_lt hlt
      obtain ⟨b, o, rfl, hbw, hcl⟩ := ((hx.below hbel).pos hga)
      have hab := lx.get hga
      have hlen := mulTo_length xs ys i
      have hlim := (mulTo_ok lx ly (Nat.le_of_lt hlt)).2.1
      have hfl := foldTo_length (mulTo xs ys i) i ys a ys.length
      obtain ⟨z, hz⟩ := get_of_lt (xs := (foldTo (mulTo xs ys i) i ys a ys.length).1) (i := i + ys.length) (by omega)
      have HS := Lib.hid (mulTo_succ (ys := ys) hga)
      have HZ := Lib.hid hz
      have HL := Lib.hid hlen
      have HFL := Lib.hid hfl
      have HA := Lib.hid hga
      clear hga hz hlen hfl hcl
      generalize mulTo xs ys i = cs at *
      go_wp2_with fail
      go_loopw [7, 8] (fun cy t wr' => ∃ k y : Nat, ∃ ds, k ≤ ys.length ∧ t = .int .i64 k ∧ cy = .int .u64 y ∧ Hid (foldTo cs i ys a k = (ds, y)) ∧ Blk .u32 wr' g ds ∧ Below w.heap.size w wr') (fun _ t _ => ys.length - (intOf t).toNat)
      case atStart => exact ⟨0, 0, cs, Nat.zero_le _, rfl, rfl, rfl, hbr, hbel⟩
      case round =>
        obtain ⟨k, cy, ds, hk, rfl, rfl, hf, hbr2, hbel2⟩ := hrel
        have hcy : cy < 4294967296 := by have := foldTo_carry cs i ys a k hab hlim ly; rwa [hf.out] at this
        by_cases hkl : k < ys.length
        · obtain ⟨y, hgy⟩ := get_of_lt hkl
          have hdl : i + k < ds.length := by have := foldTo_length cs i ys a k; rw [hf.out] at this; have := HL.out; simp at *; omega
          obtain ⟨x, hgx⟩ := get_of_lt hdl
          have hyb := ly.get hgy
          have hxb : x < 4294967296 := by have := foldTo_lim cs i ys a k hlim; rw [hf.out] at this; exact this.get hgx
          obtain ⟨b', o', rfl, hbw', hcy0⟩ := (hy.below hbel2).pos hgy
          have hcell := hcy0 k y hgy
          obtain ⟨b2, o2, e2, hbw2, hcx0⟩ := ((hx.below hbel2).pos HA.out)
          obtain ⟨rfl, rfl⟩ : b = b2 ∧ o = o2 := by injection e2 with e2; injection e2 with e2 e3 e4; exact ⟨e2, e3⟩
          have hca := hcx0 i a HA.out
          have hcx := hbr2.cell hgx
          have hfx := hbr2.frozen hgx
          have hml := mul_lim hab hyb
          have hstep := Lib.hid (foldTo_succ hgy hf.out hgx)
          have HG := Lib.hid hgx
          clear hcy0 hgy hgx hcx0 e2
          have hm := mask32 (a * y + x + cy) (by omega)
          rw [show ((a * y + x + cy : Nat) : Int) = (a : Int) * (y : Int) + (x : Int) + (cy : Int) by simp] at hm
          go_wp2_with fail
          go_quiet (fail)
          have hset := Lib.hid ((hbr2.drewN nq).set HG.out ((a * y + x + cy) % 4294967296))
          have hbel3 := below_drewN hbel2 nq
          go_wp2_with fail
          go_roundw
          case rel => exact ⟨k + 1, _, _, by omega, by go_num, by go_num, hstep.out, hset.out, hbel3.setCell hgl _⟩
          case measure => simp [intOf] <;> omega
        · obtain rfl : k = ys.length := by omega
          have hz := HZ.out
          rw [hf.out] at hz
          have hcz := hbr2.cell hz
          have hfz := hbr2.frozen hz
          have HT := Lib.hid (hbr2.set hz cy)
          have HSS := HS.out
          rw [hf.out] at HSS
          have HE := Lib.hid HSS
          clear hz HSS
          go_wp2_with fail
          go_roundw
          case rel => exact ⟨i + 1, by go_num, by omega, by rw [HE.out]; exact HT.out, hbel2.setCell hgl _⟩
          case measure => simp [intOf] <;> omega
    · obtain rfl : i = xs.length := by omega
      have hlen := Lib.hid (mulTo_length xs ys xs.length)
      have hok := mulTo_ok lx ly (Nat.le_refl xs.length)
      have hv := Lib.hid hok
      clear hok
      go_wp2_with fail
      refine (refTrim_any _ _ _ (mulTo xs ys xs.length) _ hlen.out.symm (Nat.le_refl _) (by omega) (Rd.of_all hbr) hv.out.2.1).mono ?_
      rintro e w1 ⟨A', c', rfl, g1, g2, g3, g4⟩
      rw [hv.out.1, List.take_of_length_le (Nat.le_refl _)] at g1 g3 ⊢
      go_wp2_with fail
      go_ret
      exact ⟨A', c', rfl, g1, g2, g3.mono hbel.size, hbel.trans (g4.mono hbel.size)⟩
end Go.Proofs.Ytfclpieijbgodaa
