/-
  The walk of the statement ShaAlike: what is the same is so both ways; a byte turned, cut off or put behind, it is not.
-/
import Derived.Test.YtmbkehmgpcmicaaShaSt
namespace Go.Proofs.Ytmbkehmgpcmicaa
set_option linter.unusedVariables false
set_option linter.unusedSimpArgs false
open Go.RowKit

theorem row_blk {k : IntKind} {w : World} {B n : Nat} {e : TypeId} {v : Value} {xs : List Nat} (h : w.ownsRow B e 1 v n (ints k xs)) (hn : 0 < n) :
    ∃ g cap, v = .slice (some ⟨g, 0, none⟩) n cap ∧ B ≤ g ∧ n ≤ cap ∧ cap ≤ maxLen ∧ Blk k w g xs := by
  rcases h.2 with ⟨_, h0⟩ | ⟨g, cap, cur, rfl, hB, hg, hc, hmx, _, htk⟩
  · omega
  · refine ⟨g, cap, rfl, hB, hc, hmx, Blk.of_heap hg fun i x hx => ?_⟩
    have h5 := ints_get (k := k) hx
    rw [← htk, List.getElem?_take] at h5
    split at h5
    · simpa using h5
    · cases h5
theorem own_set {k : IntKind} {w : World} {B n g cap : Nat} {e : TypeId} {xs : List Nat} (h : w.ownsRow B e 1 (.slice (some ⟨g, 0, none⟩) n cap) n (ints k xs)) (i y : Nat) :
    (w.setCell ⟨g, i, none⟩ (.int k (y : Int))).ownsRow B e 1 (.slice (some ⟨g, 0, none⟩) n cap) n (ints k (xs.set i y)) := by
  refine ⟨by rw [ints_length, List.length_set, ← ints_length k]; exact h.1, ?_⟩
  rcases h.2 with ⟨he, _⟩ | ⟨g', cap', cur, he, hB, hg, hc, hmx, hsz, htk⟩
  · cases he
  · injection he with he _ he2
    injection he with he
    injection he with he
    subst he
    subst he2
    refine .inr ⟨g, cap, cur.setIfInBounds i (.int k (y : Int)), rfl, hB, ?_, hc, hmx, by simpa using hsz, ?_⟩
    · simp [World.setCell, Array.getElem?_modify, hg]
    · rw [← ints_set, ← htk, Array.toList_setIfInBounds, List.take_set]
theorem xor_64 (x : Nat) (h : x < 256) : x ^^^ 64 < 256 ∧ x ^^^ 64 ≠ x ∧ (x ^^^ 64) ^^^ 64 = x := by
  refine ⟨Nat.xor_lt_two_pow (n := 8) h (by decide), ?_, ?_⟩
  · intro e
    have : x ^^^ (x ^^^ 64) = x ^^^ x := by rw [e]
    rw [← Nat.xor_assoc, Nat.xor_self, Nat.zero_xor] at this
    cases this
  · rw [Nat.xor_assoc, Nat.xor_self, Nat.xor_zero]
theorem blk_lit2 {k : IntKind} {t : TypeId} (w : World) (G : Nat) (xs : List Nat) (cur : Array Value) (h : cur = (ints k xs).toArray) (hG : G = w.heap.size) : Blk k (w.alloc (.cells cur t)) G xs := by
  subst hG
  exact blk_lit w xs cur h
theorem set_self {l : List Nat} {k x : Nat} (h : l[k]? = some x) : l.set k x = l := by
  obtain ⟨h1, h2⟩ := List.getElem?_eq_some_iff.1 h
  rw [← h2]
  exact List.set_getElem_self h1
theorem two_rd' {w : World} {B p : Nat} {e : TypeId} {A : Option Addr} {c : Nat} {m : List Nat} (h : w.ownsRow B e 1 (.slice A p c) p (ints .u8 m)) : Rd .u8 w A m := by
  obtain ⟨A', c', he, -, -, -, hO⟩ := Own.of_row h
  injection he with he
  subst he
  exact hO.rd
set_option maxRecDepth 100000 in
set_option maxHeartbeats 3200000 in
theorem shaAlike_any (r1 r2 r3 : Option Addr × Nat × List Nat) (n : Int) (w : World) (h1 : RowOk .u8 256 w r1) (h2 : RowOk .u8 256 w r2) (h3 : RowOk .u8 256 w r3) (hn : -9223372036854775808 ≤ n ∧ n ≤ 9223372036854775807) :
    Calls Try.prog 11 #[.agg #[rowVal r1, rowVal r2, rowVal r3, .int .i64 n]] w (Yes w) := by
  obtain ⟨Aa, ca, xa⟩ := r1
  obtain ⟨Ab, cb, xb⟩ := r2
  obtain ⟨Ac, cc, xc⟩ := r3
  obtain ⟨a1, a2, ra, la⟩ := h1
  obtain ⟨b1, b2, rb, lb⟩ := h2
  obtain ⟨c1, c2, rc, lc⟩ := h3
  dsimp only [rowVal] at *
  by_cases hb0 : 4096 < xa.length
  · have hd0 : decide ((4096 : Int) < (xa.length : Int)) = true := by simp; omega
    go_enter Try.func11, Try.ntmps11
    go_wp2_with fail
    refine (shaWorks_any _).mono ?_
    rintro e w1 ⟨rfl, hb⟩
    go_wp2_with fail
    go_ret
    exact ⟨rfl, (((Below.refl _ _).alloc (Nat.le_refl _) _).trans (hb.mono (by simp)))⟩
  have hd0 : decide ((4096 : Int) < (xa.length : Int)) = false := by simp; omega
  have hsa : xa.length ≤ 1099511627776 := by omega
  by_cases hb1 : 4096 < xb.length
  · have hd1 : decide ((4096 : Int) < (xb.length : Int)) = true := by simp; omega
    go_enter Try.func11, Try.ntmps11
    go_wp2_with fail
    refine (shaWorks_any _).mono ?_
    rintro e w1 ⟨rfl, hb⟩
    go_wp2_with fail
    go_ret
    exact ⟨rfl, (((Below.refl _ _).alloc (Nat.le_refl _) _).trans (hb.mono (by simp)))⟩
  have hd1 : decide ((4096 : Int) < (xb.length : Int)) = false := by simp; omega
  have hsb : xb.length ≤ 1099511627776 := by omega
  by_cases hb2 : 4096 < xc.length
  · have hd2 : decide ((4096 : Int) < (xc.length : Int)) = true := by simp; omega
    go_enter Try.func11, Try.ntmps11
    go_wp2_with fail
    refine (shaWorks_any _).mono ?_
    rintro e w1 ⟨rfl, hb⟩
    go_wp2_with fail
    go_ret
    exact ⟨rfl, (((Below.refl _ _).alloc (Nat.le_refl _) _).trans (hb.mono (by simp)))⟩
  have hd2 : decide ((4096 : Int) < (xc.length : Int)) = false := by simp; omega
  have hsc : xc.length ≤ 1099511627776 := by omega
  have hat : (∃ k : Nat, n = (k : Int) ∧ k < xa.length) ∨ n < 0 ∨ (0 ≤ n ∧ (xa.length : Int) ≤ n) := by
    by_cases h : 0 ≤ n ∧ n < (xa.length : Int)
    · exact .inl ⟨n.toNat, by omega, by omega⟩
    · exact .inr (by omega)
  go_enter Try.func11, Try.ntmps11
  go_wp2_with fail
  have hbel : Below w.heap.size w (w.alloc (.cells #[.slice Aa xa.length ca, .slice Ab xb.length cb, .slice Ac xc.length cc, .int .i64 n] 49)) := (Below.refl _ _).alloc (Nat.le_refl _) _
  generalize w.alloc (.cells #[.slice Aa xa.length ca, .slice Ab xb.length cb, .slice Ac xc.length cc, .int .i64 n] 49) = wr at *
  clear hd0 hd1 hd2
  have hv0 := Lib.hid (show #[Value.int .u8 0] = (ints .u8 [0]).toArray by simp [ints])
  by_cases hE : xa = xb
  · obtain rfl := hE
    by_cases hE2 : xa = xc
    · have H2 := Lib.hid (show decide (xa = xc) = true from decide_eq_true hE2)
      clear hE2
      refine (shaSame_any Aa Ab _ _ ca cb xa xa _ rfl rfl hsa hsa (ra.below hbel) (rb.below hbel) la lb).mono ?_
      rw [show decide (xa = xa) = true by simp]
      rintro e w' ⟨rfl, q, rfl⟩
      replace hbel : Below w.heap.size w (wr.drewN q) := below_drewN hbel q
      generalize wr.drewN q = wr at *
      go_wp2_with fail
      refine (shaSame_any Ab Aa _ _ cb ca xa xa _ rfl rfl hsa hsa (rb.below hbel) (ra.below hbel) lb la).mono ?_
      rw [show decide (xa = xa) = true by simp]
      rintro e w' ⟨rfl, q, rfl⟩
      replace hbel : Below w.heap.size w (wr.drewN q) := below_drewN hbel q
      generalize wr.drewN q = wr at *
      go_wp2_with fail
      refine (shaSame_any Aa Aa _ _ ca ca xa xa _ rfl rfl hsa hsa (ra.below hbel) (ra.below hbel) la la).mono ?_
      rw [show decide (xa = xa) = true by simp]
      rintro e w' ⟨rfl, q, rfl⟩
      replace hbel : Below w.heap.size w (wr.drewN q) := below_drewN hbel q
      generalize wr.drewN q = wr at *
      go_wp2_with fail
      refine (shaSame_any Ab Ac _ _ cb cc xa xc _ rfl rfl hsa hsc (rb.below hbel) (rc.below hbel) lb lc).mono ?_
      rw [H2.out]
      rintro e w' ⟨rfl, q, rfl⟩
      replace hbel : Below w.heap.size w (wr.drewN q) := below_drewN hbel q
      generalize wr.drewN q = wr at *
      go_wp2_with fail
      refine (shaSame_any Aa Ac _ _ ca cc xa xc _ rfl rfl hsa hsc (ra.below hbel) (rc.below hbel) la lc).mono ?_
      rw [H2.out]
      rintro e w' ⟨rfl, q, rfl⟩
      replace hbel : Below w.heap.size w (wr.drewN q) := below_drewN hbel q
      generalize wr.drewN q = wr at *
      clear H2
      rcases hat with ⟨k, rfl, hk⟩ | hout | ⟨hout1, hout2⟩
      · obtain ⟨x, hx⟩ := get_of_lt hk
        have hxl := la.get hx
        obtain ⟨hy1, hy2, hy3⟩ := xor_64 x hxl
        obtain ⟨y, hy⟩ : ∃ y, y = x ^^^ 64 := ⟨_, rfl⟩
        rw [← hy] at hy1 hy2 hy3
        have f1 : bits .xor .u8 (x : Int) 64 = (y : Int) := by rw [hy]; exact u8_xor_nat x 64 hxl (by decide)
        have f2 : bits .xor .u8 (y : Int) 64 = (x : Int) := by rw [← hy3]; exact u8_xor_nat y 64 hy1 (by decide)
        clear hy hy3
        have hpos : 0 < xa.length := by omega
        have hkn : (0 : Int) ≤ (k : Int) := by omega
        have hkl : (k : Int) < (xa.length : Int) := by omega
        have hset : (xa.set k y)[k]? = some y := List.getElem?_set_self hk
        have hxs : (xa.set k y).set k x = xa := by rw [List.set_set]; exact set_self hx
        have hne : decide (xa = xa.set k y) = false := decide_eq_false fun e => by rw [← e, hx] at hset; injection hset with h; exact hy2 h.symm
        have hne2 : decide (xa = xa.take k) = false := decide_eq_false fun e => by have := congrArg List.length e; rw [List.length_take] at this; omega
        have ly : Lim 256 (xa.set k y) := la.set hy1
        have hsl := slice_h Aa xa.length ca k (by omega)
        have HX := Lib.hid hx
        have HS := Lib.hid hset
        have HE := Lib.hid hxs
        have HN1 := Lib.hid hne
        have HN2 := Lib.hid hne2
        clear hx hset hxs hne hne2
        go_wp2_with (at_builtin; refine wpList_append_ints _ rfl (.tmp 69) (.tmp 70) _ rfl w.heap.size 5 .u8 1 Try.underlying22 info_u8 (.slice none 0 0) 0 [] rfl (World.ownsRow_nil _ _ _ _) Aa xa.length ca xa rfl rfl (ra.below hbel) (by simp only [maxLen]; omega) (by omega) hbel.size ?_; intro v5 w5 hO hgrow5 _; simp only [List.nil_append, Nat.zero_add] at hO; have hbel5 : Below w.heap.size w w5 := hbel.grown hgrow5 hbel.size (fun k hk => by cases hk); obtain ⟨g, c5, rfl, hg, hcc, hcm, hB⟩ := row_blk hO hpos; have q0 := hB.cell HX.out; have q1 := hB.frozen HX.out)
        have hO2 := own_set hO k y
        have hbel2 := hbel5.setCell (p := ⟨g, k, none⟩) hg (.int .u8 (y : Int))
        clear q0 q1 hO hB hbel hbel5 hgrow5
        generalize w5.setCell ⟨g, k, none⟩ (.int .u8 (y : Int)) = wr at *
        have hly := Lib.hid (show xa.length = (xa.set k y).length from List.length_set.symm)
        refine (shaSame_any Aa (some ⟨g, 0, none⟩) _ _ ca c5 xa (xa.set k y) _ rfl hly.out hsa hsa (ra.below hbel2) (two_rd' hO2) la ly).mono ?_
        rw [HN1.out]
        rintro e w' ⟨rfl, q, rfl⟩
        replace hbel2 : Below w.heap.size w (wr.drewN q) := below_drewN hbel2 q
        replace hO2 := own_below hO2 (below_drewN (Below.refl wr.heap.size wr) q)
        generalize wr.drewN q = wr at *
        go_wp2_with fail
        have hlk : k = (xa.take k).length := by rw [List.length_take]; omega
        refine (shaSame_any Aa Aa _ _ ca ca xa (xa.take k) _ rfl hlk hsa (by omega) (ra.below hbel2) ((ra.below hbel2).take k) la (la.take k)).mono ?_
        rw [HN2.out]
        clear hlk
        rintro e w' ⟨rfl, q, rfl⟩
        replace hbel2 : Below w.heap.size w (wr.drewN q) := below_drewN hbel2 q
        replace hO2 := own_below hO2 (below_drewN (Below.refl wr.heap.size wr) q)
        generalize wr.drewN q = wr at *
        obtain ⟨g', cap', he, hg', hcc', hcm', hB⟩ := row_blk hO2 hpos
        injection he with he _ he2
        injection he with he
        injection he with he
        subst he
        subst he2
        have q0 := hB.cell HS.out
        have q1 := hB.frozen HS.out
        have hO := own_set hO2 k x
        rw [HE.out] at hO
        have hbel := hbel2.setCell (p := ⟨g, k, none⟩) hg (.int .u8 (x : Int))
        clear hB hO2 hly hsl ly HS HE HN1 HN2 HX
        go_wp2_with (at_builtin; refine wpList_append_ints _ rfl (.tmp 106) (.tmp 107) _ rfl w.heap.size 5 .u8 1 Try.underlying22 info_u8 (.slice (some ⟨g, 0, none⟩) xa.length c5) xa.length xa rfl (hO.alloc _) _ 1 1 [0] rfl rfl (Rd.of_all (blk_lit2 (wr.setCell ⟨g, k, none⟩ (.int .u8 (x : Int))) _ [0] _ hv0.out (by simp))) (by simp only [maxLen]; omega) (by omega) (by have := hbel.size; first | (simp; omega) | (simp; simp at this; omega)) ?_; intro v6 w6 hO6 hgrow6 _; have hbel6 : Below w.heap.size w w6 := (hbel.alloc hbel.size _).grown hgrow6 (by have := hbel.size; first | (simp; omega) | (simp; simp at this; omega)) (fun k hk => (hO.lt k hk).1); obtain ⟨A6, c6, rfl, -⟩ := row_form hO6)
        have hl0 : xa.length + 1 = (xa ++ [0]).length := by simp
        have hne3 : decide (xa = xa ++ [0]) = false := decide_eq_false fun e => by have := congrArg List.length e; simp at this
        refine (shaSame_any Aa A6 _ _ ca c6 xa (xa ++ [0]) _ rfl hl0 hsa (by omega) (ra.below hbel6) (two_rd' hO6) la (la.append (lim_small rfl))).mono ?_
        rw [hne3]
        clear hl0 hne3
        rintro e w' ⟨rfl, q, rfl⟩
        replace hbel6 : Below w.heap.size w (w6.drewN q) := below_drewN hbel6 q
        clear hO6 hO hgrow6
        generalize w6.drewN q = w6 at *
        go_wp2_with fail
        refine (shaWorks_any _).mono ?_
        rintro e w12 ⟨rfl, hb12⟩
        go_wp2_with fail
        go_ret
        exact ⟨rfl, hbel6.trans (hb12.mono hbel6.size)⟩
      · have hg0 : (0 ≤ n) = False := by simp; omega
        clear hout
        go_wp2_with (at_builtin; first | (refine wpList_append_ints _ rfl (.tmp 69) (.tmp 70) _ rfl w.heap.size 5 .u8 1 Try.underlying22 info_u8 (.slice none 0 0) 0 [] rfl (World.ownsRow_nil _ _ _ _) Aa xa.length ca xa rfl rfl (ra.below hbel) (by simp only [maxLen]; omega) (by omega) hbel.size ?_; intro v5 w5 hO hgrow5 _; simp only [List.nil_append, Nat.zero_add] at hO; have hbel5 : Below w.heap.size w w5 := hbel.grown hgrow5 hbel.size (fun k hk => by cases hk); obtain ⟨A5, c5, rfl, -⟩ := row_form hO) | (refine wpList_append_ints _ rfl (.tmp 106) (.tmp 107) _ rfl w.heap.size 5 .u8 1 Try.underlying22 info_u8 (.slice A5 xa.length c5) xa.length xa rfl (hO.alloc _) _ 1 1 [0] rfl rfl (Rd.of_all (blk_lit2 (w5) _ [0] _ hv0.out (by simp))) (by simp only [maxLen]; omega) (by omega) (by have := hbel5.size; first | (simp; omega) | (simp; simp at this; omega)) ?_; intro v6 w6 hO6 hgrow6 _; have hbel6 : Below w.heap.size w w6 := (hbel5.alloc hbel5.size _).grown hgrow6 (by have := hbel5.size; first | (simp; omega) | (simp; simp at this; omega)) (fun k hk => (hO.lt k hk).1); obtain ⟨A6, c6, rfl, -⟩ := row_form hO6))
        have hl0 : xa.length + 1 = (xa ++ [0]).length := by simp
        have hne3 : decide (xa = xa ++ [0]) = false := decide_eq_false fun e => by have := congrArg List.length e; simp at this
        refine (shaSame_any Aa A6 _ _ ca c6 xa (xa ++ [0]) _ rfl hl0 hsa (by omega) (ra.below hbel6) (two_rd' hO6) la (la.append (lim_small rfl))).mono ?_
        rw [hne3]
        clear hl0 hne3
        rintro e w' ⟨rfl, q, rfl⟩
        replace hbel6 : Below w.heap.size w (w6.drewN q) := below_drewN hbel6 q
        clear hO6 hO hgrow6
        generalize w6.drewN q = w6 at *
        go_wp2_with fail
        refine (shaWorks_any _).mono ?_
        rintro e w12 ⟨rfl, hb12⟩
        go_wp2_with fail
        go_ret
        exact ⟨rfl, hbel6.trans (hb12.mono hbel6.size)⟩
      · have hg0 : (0 ≤ n) = True := by simp; omega
        have hg1 : (n < (xa.length : Int)) = False := by simp; omega
        clear hout1 hout2
        go_wp2_with (at_builtin; first | (refine wpList_append_ints _ rfl (.tmp 69) (.tmp 70) _ rfl w.heap.size 5 .u8 1 Try.underlying22 info_u8 (.slice none 0 0) 0 [] rfl (World.ownsRow_nil _ _ _ _) Aa xa.length ca xa rfl rfl (ra.below hbel) (by simp only [maxLen]; omega) (by omega) hbel.size ?_; intro v5 w5 hO hgrow5 _; simp only [List.nil_append, Nat.zero_add] at hO; have hbel5 : Below w.heap.size w w5 := hbel.grown hgrow5 hbel.size (fun k hk => by cases hk); obtain ⟨A5, c5, rfl, -⟩ := row_form hO) | (refine wpList_append_ints _ rfl (.tmp 106) (.tmp 107) _ rfl w.heap.size 5 .u8 1 Try.underlying22 info_u8 (.slice A5 xa.length c5) xa.length xa rfl (hO.alloc _) _ 1 1 [0] rfl rfl (Rd.of_all (blk_lit2 (w5) _ [0] _ hv0.out (by simp))) (by simp only [maxLen]; omega) (by omega) (by have := hbel5.size; first | (simp; omega) | (simp; simp at this; omega)) ?_; intro v6 w6 hO6 hgrow6 _; have hbel6 : Below w.heap.size w w6 := (hbel5.alloc hbel5.size _).grown hgrow6 (by have := hbel5.size; first | (simp; omega) | (simp; simp at this; omega)) (fun k hk => (hO.lt k hk).1); obtain ⟨A6, c6, rfl, -⟩ := row_form hO6))
        have hl0 : xa.length + 1 = (xa ++ [0]).length := by simp
        have hne3 : decide (xa = xa ++ [0]) = false := decide_eq_false fun e => by have := congrArg List.length e; simp at this
        refine (shaSame_any Aa A6 _ _ ca c6 xa (xa ++ [0]) _ rfl hl0 hsa (by omega) (ra.below hbel6) (two_rd' hO6) la (la.append (lim_small rfl))).mono ?_
        rw [hne3]
        clear hl0 hne3
        rintro e w' ⟨rfl, q, rfl⟩
        replace hbel6 : Below w.heap.size w (w6.drewN q) := below_drewN hbel6 q
        clear hO6 hO hgrow6
        generalize w6.drewN q = w6 at *
        go_wp2_with fail
        refine (shaWorks_any _).mono ?_
        rintro e w12 ⟨rfl, hb12⟩
        go_wp2_with fail
        go_ret
        exact ⟨rfl, hbel6.trans (hb12.mono hbel6.size)⟩
    · have H2 := Lib.hid (show decide (xa = xc) = false from decide_eq_false hE2)
      clear hE2
      refine (shaSame_any Aa Ab _ _ ca cb xa xa _ rfl rfl hsa hsa (ra.below hbel) (rb.below hbel) la lb).mono ?_
      rw [show decide (xa = xa) = true by simp]
      rintro e w' ⟨rfl, q, rfl⟩
      replace hbel : Below w.heap.size w (wr.drewN q) := below_drewN hbel q
      generalize wr.drewN q = wr at *
      go_wp2_with fail
      refine (shaSame_any Ab Aa _ _ cb ca xa xa _ rfl rfl hsa hsa (rb.below hbel) (ra.below hbel) lb la).mono ?_
      rw [show decide (xa = xa) = true by simp]
      rintro e w' ⟨rfl, q, rfl⟩
      replace hbel : Below w.heap.size w (wr.drewN q) := below_drewN hbel q
      generalize wr.drewN q = wr at *
      go_wp2_with fail
      refine (shaSame_any Aa Aa _ _ ca ca xa xa _ rfl rfl hsa hsa (ra.below hbel) (ra.below hbel) la la).mono ?_
      rw [show decide (xa = xa) = true by simp]
      rintro e w' ⟨rfl, q, rfl⟩
      replace hbel : Below w.heap.size w (wr.drewN q) := below_drewN hbel q
      generalize wr.drewN q = wr at *
      go_wp2_with fail
      refine (shaSame_any Ab Ac _ _ cb cc xa xc _ rfl rfl hsa hsc (rb.below hbel) (rc.below hbel) lb lc).mono ?_
      rw [H2.out]
      rintro e w' ⟨rfl, q, rfl⟩
      replace hbel : Below w.heap.size w (wr.drewN q) := below_drewN hbel q
      generalize wr.drewN q = wr at *
      clear H2
      rcases hat with ⟨k, rfl, hk⟩ | hout | ⟨hout1, hout2⟩
      · obtain ⟨x, hx⟩ := get_of_lt hk
        have hxl := la.get hx
        obtain ⟨hy1, hy2, hy3⟩ := xor_64 x hxl
        obtain ⟨y, hy⟩ : ∃ y, y = x ^^^ 64 := ⟨_, rfl⟩
        rw [← hy] at hy1 hy2 hy3
        have f1 : bits .xor .u8 (x : Int) 64 = (y : Int) := by rw [hy]; exact u8_xor_nat x 64 hxl (by decide)
        have f2 : bits .xor .u8 (y : Int) 64 = (x : Int) := by rw [← hy3]; exact u8_xor_nat y 64 hy1 (by decide)
        clear hy hy3
        have hpos : 0 < xa.length := by omega
        have hkn : (0 : Int) ≤ (k : Int) := by omega
        have hkl : (k : Int) < (xa.length : Int) := by omega
        have hset : (xa.set k y)[k]? = some y := List.getElem?_set_self hk
        have hxs : (xa.set k y).set k x = xa := by rw [List.set_set]; exact set_self hx
        have hne : decide (xa = xa.set k y) = false := decide_eq_false fun e => by rw [← e, hx] at hset; injection hset with h; exact hy2 h.symm
        have hne2 : decide (xa = xa.take k) = false := decide_eq_false fun e => by have := congrArg List.length e; rw [List.length_take] at this; omega
        have ly : Lim 256 (xa.set k y) := la.set hy1
        have hsl := slice_h Aa xa.length ca k (by omega)
        have HX := Lib.hid hx
        have HS := Lib.hid hset
        have HE := Lib.hid hxs
        have HN1 := Lib.hid hne
        have HN2 := Lib.hid hne2
        clear hx hset hxs hne hne2
        go_wp2_with (at_builtin; refine wpList_append_ints _ rfl (.tmp 69) (.tmp 70) _ rfl w.heap.size 5 .u8 1 Try.underlying22 info_u8 (.slice none 0 0) 0 [] rfl (World.ownsRow_nil _ _ _ _) Aa xa.length ca xa rfl rfl (ra.below hbel) (by simp only [maxLen]; omega) (by omega) hbel.size ?_; intro v5 w5 hO hgrow5 _; simp only [List.nil_append, Nat.zero_add] at hO; have hbel5 : Below w.heap.size w w5 := hbel.grown hgrow5 hbel.size (fun k hk => by cases hk); obtain ⟨g, c5, rfl, hg, hcc, hcm, hB⟩ := row_blk hO hpos; have q0 := hB.cell HX.out; have q1 := hB.frozen HX.out)
        have hO2 := own_set hO k y
        have hbel2 := hbel5.setCell (p := ⟨g, k, none⟩) hg (.int .u8 (y : Int))
        clear q0 q1 hO hB hbel hbel5 hgrow5
        generalize w5.setCell ⟨g, k, none⟩ (.int .u8 (y : Int)) = wr at *
        have hly := Lib.hid (show xa.length = (xa.set k y).length from List.length_set.symm)
        refine (shaSame_any Aa (some ⟨g, 0, none⟩) _ _ ca c5 xa (xa.set k y) _ rfl hly.out hsa hsa (ra.below hbel2) (two_rd' hO2) la ly).mono ?_
        rw [HN1.out]
        rintro e w' ⟨rfl, q, rfl⟩
        replace hbel2 : Below w.heap.size w (wr.drewN q) := below_drewN hbel2 q
        replace hO2 := own_below hO2 (below_drewN (Below.refl wr.heap.size wr) q)
        generalize wr.drewN q = wr at *
        go_wp2_with fail
        have hlk : k = (xa.take k).length := by rw [List.length_take]; omega
        refine (shaSame_any Aa Aa _ _ ca ca xa (xa.take k) _ rfl hlk hsa (by omega) (ra.below hbel2) ((ra.below hbel2).take k) la (la.take k)).mono ?_
        rw [HN2.out]
        clear hlk
        rintro e w' ⟨rfl, q, rfl⟩
        replace hbel2 : Below w.heap.size w (wr.drewN q) := below_drewN hbel2 q
        replace hO2 := own_below hO2 (below_drewN (Below.refl wr.heap.size wr) q)
        generalize wr.drewN q = wr at *
        obtain ⟨g', cap', he, hg', hcc', hcm', hB⟩ := row_blk hO2 hpos
        injection he with he _ he2
        injection he with he
        injection he with he
        subst he
        subst he2
        have q0 := hB.cell HS.out
        have q1 := hB.frozen HS.out
        have hO := own_set hO2 k x
        rw [HE.out] at hO
        have hbel := hbel2.setCell (p := ⟨g, k, none⟩) hg (.int .u8 (x : Int))
        clear hB hO2 hly hsl ly HS HE HN1 HN2 HX
        go_wp2_with (at_builtin; refine wpList_append_ints _ rfl (.tmp 106) (.tmp 107) _ rfl w.heap.size 5 .u8 1 Try.underlying22 info_u8 (.slice (some ⟨g, 0, none⟩) xa.length c5) xa.length xa rfl (hO.alloc _) _ 1 1 [0] rfl rfl (Rd.of_all (blk_lit2 (wr.setCell ⟨g, k, none⟩ (.int .u8 (x : Int))) _ [0] _ hv0.out (by simp))) (by simp only [maxLen]; omega) (by omega) (by have := hbel.size; first | (simp; omega) | (simp; simp at this; omega)) ?_; intro v6 w6 hO6 hgrow6 _; have hbel6 : Below w.heap.size w w6 := (hbel.alloc hbel.size _).grown hgrow6 (by have := hbel.size; first | (simp; omega) | (simp; simp at this; omega)) (fun k hk => (hO.lt k hk).1); obtain ⟨A6, c6, rfl, -⟩ := row_form hO6)
        have hl0 : xa.length + 1 = (xa ++ [0]).length := by simp
        have hne3 : decide (xa = xa ++ [0]) = false := decide_eq_false fun e => by have := congrArg List.length e; simp at this
        refine (shaSame_any Aa A6 _ _ ca c6 xa (xa ++ [0]) _ rfl hl0 hsa (by omega) (ra.below hbel6) (two_rd' hO6) la (la.append (lim_small rfl))).mono ?_
        rw [hne3]
        clear hl0 hne3
        rintro e w' ⟨rfl, q, rfl⟩
        replace hbel6 : Below w.heap.size w (w6.drewN q) := below_drewN hbel6 q
        clear hO6 hO hgrow6
        generalize w6.drewN q = w6 at *
        go_wp2_with fail
        refine (shaWorks_any _).mono ?_
        rintro e w12 ⟨rfl, hb12⟩
        go_wp2_with fail
        go_ret
        exact ⟨rfl, hbel6.trans (hb12.mono hbel6.size)⟩
      · have hg0 : (0 ≤ n) = False := by simp; omega
        clear hout
        go_wp2_with (at_builtin; first | (refine wpList_append_ints _ rfl (.tmp 69) (.tmp 70) _ rfl w.heap.size 5 .u8 1 Try.underlying22 info_u8 (.slice none 0 0) 0 [] rfl (World.ownsRow_nil _ _ _ _) Aa xa.length ca xa rfl rfl (ra.below hbel) (by simp only [maxLen]; omega) (by omega) hbel.size ?_; intro v5 w5 hO hgrow5 _; simp only [List.nil_append, Nat.zero_add] at hO; have hbel5 : Below w.heap.size w w5 := hbel.grown hgrow5 hbel.size (fun k hk => by cases hk); obtain ⟨A5, c5, rfl, -⟩ := row_form hO) | (refine wpList_append_ints _ rfl (.tmp 106) (.tmp 107) _ rfl w.heap.size 5 .u8 1 Try.underlying22 info_u8 (.slice A5 xa.length c5) xa.length xa rfl (hO.alloc _) _ 1 1 [0] rfl rfl (Rd.of_all (blk_lit2 (w5) _ [0] _ hv0.out (by simp))) (by simp only [maxLen]; omega) (by omega) (by have := hbel5.size; first | (simp; omega) | (simp; simp at this; omega)) ?_; intro v6 w6 hO6 hgrow6 _; have hbel6 : Below w.heap.size w w6 := (hbel5.alloc hbel5.size _).grown hgrow6 (by have := hbel5.size; first | (simp; omega) | (simp; simp at this; omega)) (fun k hk => (hO.lt k hk).1); obtain ⟨A6, c6, rfl, -⟩ := row_form hO6))
        have hl0 : xa.length + 1 = (xa ++ [0]).length := by simp
        have hne3 : decide (xa = xa ++ [0]) = false := decide_eq_false fun e => by have := congrArg List.length e; simp at this
        refine (shaSame_any Aa A6 _ _ ca c6 xa (xa ++ [0]) _ rfl hl0 hsa (by omega) (ra.below hbel6) (two_rd' hO6) la (la.append (lim_small rfl))).mono ?_
        rw [hne3]
        clear hl0 hne3
        rintro e w' ⟨rfl, q, rfl⟩
        replace hbel6 : Below w.heap.size w (w6.drewN q) := below_drewN hbel6 q
        clear hO6 hO hgrow6
        generalize w6.drewN q = w6 at *
        go_wp2_with fail
        refine (shaWorks_any _).mono ?_
        rintro e w12 ⟨rfl, hb12⟩
        go_wp2_with fail
        go_ret
        exact ⟨rfl, hbel6.trans (hb12.mono hbel6.size)⟩
      · have hg0 : (0 ≤ n) = True := by simp; omega
        have hg1 : (n < (xa.length : Int)) = False := by simp; omega
        clear hout1 hout2
        go_wp2_with (at_builtin; first | (refine wpList_append_ints _ rfl (.tmp 69) (.tmp 70) _ rfl w.heap.size 5 .u8 1 Try.underlying22 info_u8 (.slice none 0 0) 0 [] rfl (World.ownsRow_nil _ _ _ _) Aa xa.length ca xa rfl rfl (ra.below hbel) (by simp only [maxLen]; omega) (by omega) hbel.size ?_; intro v5 w5 hO hgrow5 _; simp only [List.nil_append, Nat.zero_add] at hO; have hbel5 : Below w.heap.size w w5 := hbel.grown hgrow5 hbel.size (fun k hk => by cases hk); obtain ⟨A5, c5, rfl, -⟩ := row_form hO) | (refine wpList_append_ints _ rfl (.tmp 106) (.tmp 107) _ rfl w.heap.size 5 .u8 1 Try.underlying22 info_u8 (.slice A5 xa.length c5) xa.length xa rfl (hO.alloc _) _ 1 1 [0] rfl rfl (Rd.of_all (blk_lit2 (w5) _ [0] _ hv0.out (by simp))) (by simp only [maxLen]; omega) (by omega) (by have := hbel5.size; first | (simp; omega) | (simp; simp at this; omega)) ?_; intro v6 w6 hO6 hgrow6 _; have hbel6 : Below w.heap.size w w6 := (hbel5.alloc hbel5.size _).grown hgrow6 (by have := hbel5.size; first | (simp; omega) | (simp; simp at this; omega)) (fun k hk => (hO.lt k hk).1); obtain ⟨A6, c6, rfl, -⟩ := row_form hO6))
        have hl0 : xa.length + 1 = (xa ++ [0]).length := by simp
        have hne3 : decide (xa = xa ++ [0]) = false := decide_eq_false fun e => by have := congrArg List.length e; simp at this
        refine (shaSame_any Aa A6 _ _ ca c6 xa (xa ++ [0]) _ rfl hl0 hsa (by omega) (ra.below hbel6) (two_rd' hO6) la (la.append (lim_small rfl))).mono ?_
        rw [hne3]
        clear hl0 hne3
        rintro e w' ⟨rfl, q, rfl⟩
        replace hbel6 : Below w.heap.size w (w6.drewN q) := below_drewN hbel6 q
        clear hO6 hO hgrow6
        generalize w6.drewN q = w6 at *
        go_wp2_with fail
        refine (shaWorks_any _).mono ?_
        rintro e w12 ⟨rfl, hb12⟩
        go_wp2_with fail
        go_ret
        exact ⟨rfl, hbel6.trans (hb12.mono hbel6.size)⟩
  · have H1 := Lib.hid (show decide (xa = xb) = false from decide_eq_false hE)
    have H2 := Lib.hid (show decide (xb = xa) = false from decide_eq_false (fun e => hE e.symm))
    clear hE
    refine (shaSame_any Aa Ab _ _ ca cb xa xb _ rfl rfl hsa hsb (ra.below hbel) (rb.below hbel) la lb).mono ?_
    rw [H1.out]
    rintro e w' ⟨rfl, q, rfl⟩
    replace hbel : Below w.heap.size w (wr.drewN q) := below_drewN hbel q
    generalize wr.drewN q = wr at *
    go_wp2_with fail
    refine (shaSame_any Ab Aa _ _ cb ca xb xa _ rfl rfl hsb hsa (rb.below hbel) (ra.below hbel) lb la).mono ?_
    rw [H2.out]
    rintro e w' ⟨rfl, q, rfl⟩
    replace hbel : Below w.heap.size w (wr.drewN q) := below_drewN hbel q
    generalize wr.drewN q = wr at *
    go_wp2_with fail
    refine (shaSame_any Aa Aa _ _ ca ca xa xa _ rfl rfl hsa hsa (ra.below hbel) (ra.below hbel) la la).mono ?_
    rw [show decide (xa = xa) = true by simp]
    rintro e w' ⟨rfl, q, rfl⟩
    replace hbel : Below w.heap.size w (wr.drewN q) := below_drewN hbel q
    generalize wr.drewN q = wr at *
    clear H1 H2
    rcases hat with ⟨k, rfl, hk⟩ | hout | ⟨hout1, hout2⟩
    · obtain ⟨x, hx⟩ := get_of_lt hk
      have hxl := la.get hx
      obtain ⟨hy1, hy2, hy3⟩ := xor_64 x hxl
      obtain ⟨y, hy⟩ : ∃ y, y = x ^^^ 64 := ⟨_, rfl⟩
      rw [← hy] at hy1 hy2 hy3
      have f1 : bits .xor .u8 (x : Int) 64 = (y : Int) := by rw [hy]; exact u8_xor_nat x 64 hxl (by decide)
      have f2 : bits .xor .u8 (y : Int) 64 = (x : Int) := by rw [← hy3]; exact u8_xor_nat y 64 hy1 (by decide)
      clear hy hy3
      have hpos : 0 < xa.length := by omega
      have hkn : (0 : Int) ≤ (k : Int) := by omega
      have hkl : (k : Int) < (xa.length : Int) := by omega
      have hset : (xa.set k y)[k]? = some y := List.getElem?_set_self hk
      have hxs : (xa.set k y).set k x = xa := by rw [List.set_set]; exact set_self hx
      have hne : decide (xa = xa.set k y) = false := decide_eq_false fun e => by rw [← e, hx] at hset; injection hset with h; exact hy2 h.symm
      have hne2 : decide (xa = xa.take k) = false := decide_eq_false fun e => by have := congrArg List.length e; rw [List.length_take] at this; omega
      have ly : Lim 256 (xa.set k y) := la.set hy1
      have hsl := slice_h Aa xa.length ca k (by omega)
      have HX := Lib.hid hx
      have HS := Lib.hid hset
      have HE := Lib.hid hxs
      have HN1 := Lib.hid hne
      have HN2 := Lib.hid hne2
      clear hx hset hxs hne hne2
      go_wp2_with (at_builtin; refine wpList_append_ints _ rfl (.tmp 69) (.tmp 70) _ rfl w.heap.size 5 .u8 1 Try.underlying22 info_u8 (.slice none 0 0) 0 [] rfl (World.ownsRow_nil _ _ _ _) Aa xa.length ca xa rfl rfl (ra.below hbel) (by simp only [maxLen]; omega) (by omega) hbel.size ?_; intro v5 w5 hO hgrow5 _; simp only [List.nil_append, Nat.zero_add] at hO; have hbel5 : Below w.heap.size w w5 := hbel.grown hgrow5 hbel.size (fun k hk => by cases hk); obtain ⟨g, c5, rfl, hg, hcc, hcm, hB⟩ := row_blk hO hpos; have q0 := hB.cell HX.out; have q1 := hB.frozen HX.out)
      have hO2 := own_set hO k y
      have hbel2 := hbel5.setCell (p := ⟨g, k, none⟩) hg (.int .u8 (y : Int))
      clear q0 q1 hO hB hbel hbel5 hgrow5
      generalize w5.setCell ⟨g, k, none⟩ (.int .u8 (y : Int)) = wr at *
      have hly := Lib.hid (show xa.length = (xa.set k y).length from List.length_set.symm)
      refine (shaSame_any Aa (some ⟨g, 0, none⟩) _ _ ca c5 xa (xa.set k y) _ rfl hly.out hsa hsa (ra.below hbel2) (two_rd' hO2) la ly).mono ?_
      rw [HN1.out]
      rintro e w' ⟨rfl, q, rfl⟩
      replace hbel2 : Below w.heap.size w (wr.drewN q) := below_drewN hbel2 q
      replace hO2 := own_below hO2 (below_drewN (Below.refl wr.heap.size wr) q)
      generalize wr.drewN q = wr at *
      go_wp2_with fail
      have hlk : k = (xa.take k).length := by rw [List.length_take]; omega
      refine (shaSame_any Aa Aa _ _ ca ca xa (xa.take k) _ rfl hlk hsa (by omega) (ra.below hbel2) ((ra.below hbel2).take k) la (la.take k)).mono ?_
      rw [HN2.out]
      clear hlk
      rintro e w' ⟨rfl, q, rfl⟩
      replace hbel2 : Below w.heap.size w (wr.drewN q) := below_drewN hbel2 q
      replace hO2 := own_below hO2 (below_drewN (Below.refl wr.heap.size wr) q)
      generalize wr.drewN q = wr at *
      obtain ⟨g', cap', he, hg', hcc', hcm', hB⟩ := row_blk hO2 hpos
      injection he with he _ he2
      injection he with he
      injection he with he
      subst he
      subst he2
      have q0 := hB.cell HS.out
      have q1 := hB.frozen HS.out
      have hO := own_set hO2 k x
      rw [HE.out] at hO
      have hbel := hbel2.setCell (p := ⟨g, k, none⟩) hg (.int .u8 (x : Int))
      clear hB hO2 hly hsl ly HS HE HN1 HN2 HX
      go_wp2_with (at_builtin; refine wpList_append_ints _ rfl (.tmp 106) (.tmp 107) _ rfl w.heap.size 5 .u8 1 Try.underlying22 info_u8 (.slice (some ⟨g, 0, none⟩) xa.length c5) xa.length xa rfl (hO.alloc _) _ 1 1 [0] rfl rfl (Rd.of_all (blk_lit2 (wr.setCell ⟨g, k, none⟩ (.int .u8 (x : Int))) _ [0] _ hv0.out (by simp))) (by simp only [maxLen]; omega) (by omega) (by have := hbel.size; first | (simp; omega) | (simp; simp at this; omega)) ?_; intro v6 w6 hO6 hgrow6 _; have hbel6 : Below w.heap.size w w6 := (hbel.alloc hbel.size _).grown hgrow6 (by have := hbel.size; first | (simp; omega) | (simp; simp at this; omega)) (fun k hk => (hO.lt k hk).1); obtain ⟨A6, c6, rfl, -⟩ := row_form hO6)
      have hl0 : xa.length + 1 = (xa ++ [0]).length := by simp
      have hne3 : decide (xa = xa ++ [0]) = false := decide_eq_false fun e => by have := congrArg List.length e; simp at this
      refine (shaSame_any Aa A6 _ _ ca c6 xa (xa ++ [0]) _ rfl hl0 hsa (by omega) (ra.below hbel6) (two_rd' hO6) la (la.append (lim_small rfl))).mono ?_
      rw [hne3]
      clear hl0 hne3
      rintro e w' ⟨rfl, q, rfl⟩
      replace hbel6 : Below w.heap.size w (w6.drewN q) := below_drewN hbel6 q
      clear hO6 hO hgrow6
      generalize w6.drewN q = w6 at *
      go_wp2_with fail
      refine (shaWorks_any _).mono ?_
      rintro e w12 ⟨rfl, hb12⟩
      go_wp2_with fail
      go_ret
      exact ⟨rfl, hbel6.trans (hb12.mono hbel6.size)⟩
    · have hg0 : (0 ≤ n) = False := by simp; omega
      clear hout
      go_wp2_with (at_builtin; first | (refine wpList_append_ints _ rfl (.tmp 69) (.tmp 70) _ rfl w.heap.size 5 .u8 1 Try.underlying22 info_u8 (.slice none 0 0) 0 [] rfl (World.ownsRow_nil _ _ _ _) Aa xa.length ca xa rfl rfl (ra.below hbel) (by simp only [maxLen]; omega) (by omega) hbel.size ?_; intro v5 w5 hO hgrow5 _; simp only [List.nil_append, Nat.zero_add] at hO; have hbel5 : Below w.heap.size w w5 := hbel.grown hgrow5 hbel.size (fun k hk => by cases hk); obtain ⟨A5, c5, rfl, -⟩ := row_form hO) | (refine wpList_append_ints _ rfl (.tmp 106) (.tmp 107) _ rfl w.heap.size 5 .u8 1 Try.underlying22 info_u8 (.slice A5 xa.length c5) xa.length xa rfl (hO.alloc _) _ 1 1 [0] rfl rfl (Rd.of_all (blk_lit2 (w5) _ [0] _ hv0.out (by simp))) (by simp only [maxLen]; omega) (by omega) (by have := hbel5.size; first | (simp; omega) | (simp; simp at this; omega)) ?_; intro v6 w6 hO6 hgrow6 _; have hbel6 : Below w.heap.size w w6 := (hbel5.alloc hbel5.size _).grown hgrow6 (by have := hbel5.size; first | (simp; omega) | (simp; simp at this; omega)) (fun k hk => (hO.lt k hk).1); obtain ⟨A6, c6, rfl, -⟩ := row_form hO6))
      have hl0 : xa.length + 1 = (xa ++ [0]).length := by simp
      have hne3 : decide (xa = xa ++ [0]) = false := decide_eq_false fun e => by have := congrArg List.length e; simp at this
      refine (shaSame_any Aa A6 _ _ ca c6 xa (xa ++ [0]) _ rfl hl0 hsa (by omega) (ra.below hbel6) (two_rd' hO6) la (la.append (lim_small rfl))).mono ?_
      rw [hne3]
      clear hl0 hne3
      rintro e w' ⟨rfl, q, rfl⟩
      replace hbel6 : Below w.heap.size w (w6.drewN q) := below_drewN hbel6 q
      clear hO6 hO hgrow6
      generalize w6.drewN q = w6 at *
      go_wp2_with fail
      refine (shaWorks_any _).mono ?_
      rintro e w12 ⟨rfl, hb12⟩
      go_wp2_with fail
      go_ret
      exact ⟨rfl, hbel6.trans (hb12.mono hbel6.size)⟩
    · have hg0 : (0 ≤ n) = True := by simp; omega
      have hg1 : (n < (xa.length : Int)) = False := by simp; omega
      clear hout1 hout2
      go_wp2_with (at_builtin; first | (refine wpList_append_ints _ rfl (.tmp 69) (.tmp 70) _ rfl w.heap.size 5 .u8 1 Try.underlying22 info_u8 (.slice none 0 0) 0 [] rfl (World.ownsRow_nil _ _ _ _) Aa xa.length ca xa rfl rfl (ra.below hbel) (by simp only [maxLen]; omega) (by omega) hbel.size ?_; intro v5 w5 hO hgrow5 _; simp only [List.nil_append, Nat.zero_add] at hO; have hbel5 : Below w.heap.size w w5 := hbel.grown hgrow5 hbel.size (fun k hk => by cases hk); obtain ⟨A5, c5, rfl, -⟩ := row_form hO) | (refine wpList_append_ints _ rfl (.tmp 106) (.tmp 107) _ rfl w.heap.size 5 .u8 1 Try.underlying22 info_u8 (.slice A5 xa.length c5) xa.length xa rfl (hO.alloc _) _ 1 1 [0] rfl rfl (Rd.of_all (blk_lit2 (w5) _ [0] _ hv0.out (by simp))) (by simp only [maxLen]; omega) (by omega) (by have := hbel5.size; first | (simp; omega) | (simp; simp at this; omega)) ?_; intro v6 w6 hO6 hgrow6 _; have hbel6 : Below w.heap.size w w6 := (hbel5.alloc hbel5.size _).grown hgrow6 (by have := hbel5.size; first | (simp; omega) | (simp; simp at this; omega)) (fun k hk => (hO.lt k hk).1); obtain ⟨A6, c6, rfl, -⟩ := row_form hO6))
      have hl0 : xa.length + 1 = (xa ++ [0]).length := by simp
      have hne3 : decide (xa = xa ++ [0]) = false := decide_eq_false fun e => by have := congrArg List.length e; simp at this
      refine (shaSame_any Aa A6 _ _ ca c6 xa (xa ++ [0]) _ rfl hl0 hsa (by omega) (ra.below hbel6) (two_rd' hO6) la (la.append (lim_small rfl))).mono ?_
      rw [hne3]
      clear hl0 hne3
      rintro e w' ⟨rfl, q, rfl⟩
      replace hbel6 : Below w.heap.size w (w6.drewN q) := below_drewN hbel6 q
      clear hO6 hO hgrow6
      generalize w6.drewN q = w6 at *
      go_wp2_with fail
      refine (shaWorks_any _).mono ?_
      rintro e w12 ⟨rfl, hb12⟩
      go_wp2_with fail
      go_ret
      exact ⟨rfl, hbel6.trans (hb12.mono hbel6.size)⟩
end Go.Proofs.Ytmbkehmgpcmicaa
