/-
  SignerOf: the digest of a content is that of its body, whatever its tag; a content that is cut, or has more behind it, has none.
-/
import Derived.Test.YtchaahnhpeoomaaGreatGRgt
import Derived.Test.YtchaahnhpeoomaaGreatGDer
namespace Go.Proofs.YtchaahnhpeoomaaGreat
set_option linter.unusedVariables false
set_option linter.unusedSimpArgs false
set_option maxRecDepth 20000
open Go.RowKit

theorem body_allT {t : Nat} {b : List Nat} (ht : t % 32 ≠ 31) (hl : b.length < 4294967296) : bodyB (wr t b) = some b := by
  have h1 := elem_wr (tag := t) (b := b) (ys := []) ht hl
  have h2 := body_wr (tag := t) (b := b) (ys := [])
  rw [List.append_nil] at h1 h2
  unfold bodyB
  rw [h1]
  dsimp only
  rw [if_pos (by rw [wr_full]), h2]
theorem body_more {t x : Nat} {b : List Nat} (ht : t % 32 ≠ 31) (hl : b.length < 4294967296) : bodyB (wr t b ++ [x]) = none := by
  have h1 := elem_wr (tag := t) (b := b) (ys := [x]) ht hl
  unfold bodyB
  rw [h1]
  dsimp only
  rw [if_neg (by rw [List.length_append, wr_full]; simp)]
theorem body_cut {t k : Nat} {b : List Nat} (ht : t % 32 ≠ 31) (hl : b.length < 4294967296) (hk : k < (wr t b).length) : bodyB ((wr t b).take k) = none := by
  unfold bodyB
  rw [elem_cut ht hl hk]
def sgoT (A : Option Addr) (n c : Nat) (dg : List Nat) : Nat → Tg
  | 0 => tv (.bool true)
  | 3 => tv (.agg (ints .u8 dg).toArray)
  | 4 => tv (.slice A n c)
  | 5 => tv (.agg (ints .u8 dg).toArray)
  | _ => tv (.bool false)
theorem arr_guard_neq (x y : Operand) (xs ys : Array Value) (w : World) : (eqGuard .neq 49 x y (.agg xs) (.agg ys)).run Tryz.prog w = .ok () w := run_eqGuard_agg w .neq _ x y xs ys (by kernel_rfl)
theorem wpList_neq_same {ops : Array Oper} {rest : List Oper} {op : Oper} {a : Act} {w : World} {Q : Exit → Act → World → Prop} (x y : Operand) (ho : op.op = .binOp .neq 49 x y 49) (xs : List Nat) (hl : xs.length = 32)
    (hx : a.eval x = .agg (ints .u8 xs).toArray) (hy : a.eval y = .agg (ints .u8 xs).toArray) (hgd : Region.wanted op (yielded ops a.tmps) = true)
    (h : wpList Tryz.prog ops Q rest (a.put op.dst (.bool false)) w) : wpList Tryz.prog ops Q (op :: rest) a w :=
  wpList_step fun K hK => by
    rw [if_pos hgd]
    unfold Oper.wp execOp
    simp only [ho, hx, hy, Sem.run_bind, arr_guard_neq, Result.andThen_ok, neq_same xs hl, Sem.run_pure]
    exact hK _ _ h
def onlyC (A : Option Addr) (c : Nat) (b : List Nat) : Sgd := ⟨Sl.nil, ⟨A, c, b⟩, none, 0, 0, none, 0, 0⟩
set_option maxRecDepth 100000 in
set_option maxHeartbeats 3200000 in
theorem sgOf_any (t : Nat) (A : Option Addr) (n c : Nat) (xs : List Nat) (cut : Int) (w : World) (ht : t < 256) (hn : n = xs.length) (hcn : n ≤ c) (hcm : c ≤ maxLen) (hx : Rd .u8 w A xs) (lx : Lim 256 xs) (hcut : -9223372036854775808 ≤ cut ∧ cut ≤ 9223372036854775807) :
    Calls Tryz.prog 13 #[.int .u8 (t : Int), .slice A n c, .int .i64 cut] w (Yes w) := by
  subst hn
  by_cases hbig : t % 32 = 31 ∨ 4096 < xs.length
  · have hw := works15_any w
    rcases hbig with h | h
    · have z4 : (((t : Int) % 32) == 31) = true := by simp; omega
      clear h
      go_enter Tryz.func13, Tryz.ntmps13
      go_wp2_with fail
      refine hw.mono ?_
      rintro e w' ⟨rfl, e1⟩
      go_wp2_with fail
      go_ret
      exact ⟨rfl, e1⟩
    · by_cases h2 : t % 32 = 31
      · have z4 : (((t : Int) % 32) == 31) = true := by simp; omega
        clear h
        go_enter Tryz.func13, Tryz.ntmps13
        go_wp2_with fail
        refine hw.mono ?_
        rintro e w' ⟨rfl, e1⟩
        go_wp2_with fail
        go_ret
        exact ⟨rfl, e1⟩
      · have z4 : (((t : Int) % 32) == 31) = false := by simp; omega
        have z3 : (4096 : Int) < (xs.length : Int) := by omega
        clear h h2
        go_enter Tryz.func13, Tryz.ntmps13
        go_wp2_with fail
        refine hw.mono ?_
        rintro e w' ⟨rfl, e1⟩
        go_wp2_with fail
        go_ret
        exact ⟨rfl, e1⟩
  · have z1 : t % 32 ≠ 31 := fun h => hbig (.inl h)
    have z2 : xs.length ≤ 4096 := by omega
    have z3 : ¬ (4096 : Int) < (xs.length : Int) := by omega
    have z4 : (((t : Int) % 32) == 31) = false := by simp; omega
    have Q1 := refWrite_row t A xs.length c xs w ht rfl (by omega) hx
    have hb1 := Lib.hid (body_allT z1 (b := xs) (by omega))
    have hb2 := Lib.hid (body_more (x := 0) z1 (b := xs) (by omega))
    have hb3 : Hid (∀ k, k < (wr t xs).length → bodyB ((wr t xs).take k) = none) := fun k hk => body_cut z1 (by omega) hk
    have hbl := wr_len (tag := t) (b := xs) (by omega)
    have hbm := wr_lim ht lx (by omega)
    obtain ⟨b, hb⟩ : ∃ b, b = wr t xs := ⟨_, rfl⟩
    rw [← hb] at Q1 hb1 hb2 hb3 hbl hbm
    have hbl2 : b.length ≤ 4102 := by omega
    have hbp : 0 < b.length := by rw [hb]; exact wr_pos _ _
    clear hb hbl hbig
    go_enter Tryz.func13, Tryz.ntmps13
    go_wp2_with fail
    refine Q1.mono ?_
    rintro r w1 ⟨A2, c2, rfl, hl2, hm2, ho2, e1⟩
    clear Q1 z1 z3 z4
    obtain ⟨gb, cb, hA2, -, -, hgr, hgb⟩ := row_own2 ho2 (by omega)
    cases hA2
    have hgbl := hgr.1
    clear hgr
    have r2 : Rd .u8 w1 (some ⟨gb, 0, none⟩) b := by
      obtain ⟨A', c', he, _, _, _, hO⟩ := Own.of_row ho2
      cases he
      exact hO.rd
    go_wp2_with fail
    have hG : (onlyC (some ⟨gb, 0, none⟩) c2 b).content.ok w1 := ⟨r2, hbm, hl2, by have := hm2; unfold maxLen at this; exact this⟩
    refine (sOf_any (onlyC (some ⟨gb, 0, none⟩) c2 b) w1 hG (by show b.length ≤ 1000000; omega)).mono ?_
    rintro r w2 ⟨e2, h2⟩
    have hq : bodyB (onlyC (some ⟨gb, 0, none⟩) c2 b).content.xs = some xs := hb1.out
    rw [hq] at h2
    obtain rfl := h2
    clear hq hb1
    obtain ⟨dg, hdg⟩ : ∃ dg, dg = digest xs := ⟨_, rfl⟩
    have hgl : Hid (dg.length = 32) := by rw [hdg]; exact digest_length _
    have HDG := Lib.hid hdg
    rw [← hdg]
    clear hdg
    have e2' := e1.trans (e2.mono e1.size)
    go_upto_region 5 with (first
      | (refine wpList_alloc_arr rfl 49 rfl .u8 32 zero_32u8 ?_; intro g w3 hg (W3 : Whl .u8 49 w3 g z32) z3 e3)
      | (refine wpList_store_whl rfl 49 (.tmp 8) (.tmp 26) rfl g .u8 _ z32 dg rfl rfl W3 (by rw [hgl.out]; rfl) (by exact size_32u8) ?_; intro w4 W4 hg4 hs4))
    have e4 : Below w2.heap.size w2 w4 := below_only e3 hg4 e3.size (by have := hg.out; omega)
    have e4' := e2'.trans (e4.mono e2'.size)
    have hd0 : Below w4.heap.size w4 w4.drew := below_drewN (Below.refl _ _) 1
    refine wp_region_steps (by kernel_rfl) (fun i => 28 + i) (fun i v W => Sp (sgoT A xs.length c dg i) v W) (fun W => Below w4.heap.size w4 W) (by kernel_rfl) (by kernel_rfl) (fun i j _ _ h => by have h : 28 + i = 28 + j := h; omega) (fun i hi => by have : i < 8 := hi; show 28 + i < 72; omega) (fun i v W W' h hs => h.mono hs) hd0 ⟨?s0, ?s1, ?s2, ?s3, ?s4, ?s5, ?s6, ?s7, trivial⟩ ?fin
    case s0 => exact st_move rfl (.inl rfl) (src_base (fun i hi => by have : i < 8 := hi; omega) rfl)
    case s1 => exact (st_pure (V := .bool true) (U := .bool false) rfl (src_dep (j := 0) (e := ⟨0, .data⟩) (by simp) rfl rfl rfl) (fun a h W => by
        have h : a.eval (.tmp 28) = .bool true := h
        unfold execOp
        simp only [h]
        rfl) (fun W hg => Sp.tv rfl))
    case s2 => exact st_move rfl (.inl rfl) (src_dep (j := 1) (e := ⟨1, .data⟩) (by simp) rfl rfl rfl)
    case s3 => exact st_guard (j := 2) (b := false) (e := ⟨2, .guard⟩) rfl (by simp) rfl rfl rfl rfl (st_loadR (b := g) (off := 0) rfl rfl rfl (src_base (fun i hi => by have : i < 8 := hi; omega) rfl) Tryz.underlying49 rfl (by rw [ints_length, hgl.out]; exact size_32u8) (fun W h => (Cut.of_blk (W4.below h).blk).range))
    case s4 => exact st_guard (j := 2) (b := false) (e := ⟨2, .guard⟩) rfl (by simp) rfl rfl rfl rfl (st_move rfl (.inl rfl) (src_base (fun i hi => by have : i < 8 := hi; omega) rfl))
    case s5 => exact st_guard (j := 2) (b := false) (e := ⟨2, .guard⟩) rfl (by simp) rfl rfl rfl rfl (st_call rfl (fun a W => run_call rfl cf_rsum a W) (fun a W hb hd hg => by
        have q1 : a.eval (.tmp 32) = .slice A xs.length c := (hd ⟨4, .data⟩ (by simp) rfl).now
        simp only [List.map_toArray, List.map_cons, List.map_nil, q1]
        refine (refSum_any A xs.length c xs W rfl (by omega) (hx.below (e4'.trans (hg.mono e4'.size))) lx).mono ?_
        rintro e W' ⟨rfl, hb'⟩
        exact ⟨_, rfl, hb', by rw [← HDG.out]; exact Sp.tv rfl⟩))
    case s6 => exact st_guard (j := 2) (b := false) (e := ⟨2, .guard⟩) rfl (by simp) rfl rfl rfl rfl (st_run rfl (fun a W hb hd hg => ⟨.bool false, W, by
        have h1 : a.eval (.tmp 31) = .agg (ints .u8 dg).toArray := (hd ⟨3, .data⟩ (by simp) rfl).now
        have h2 : a.eval (.tmp 33) = .agg (ints .u8 dg).toArray := (hd ⟨5, .data⟩ (by simp) rfl).now
        unfold execOp
        simp only [h1, h2, Sem.run_bind, arr_guard_neq, Result.andThen_ok, neq_same dg hgl.out, Sem.run_pure], Sub.refl W, hg, Sp.tv rfl⟩))
    case s7 => exact st_pick_no rfl rfl (src_dep (j := 2) (e := ⟨2, .data⟩) (by simp) rfl rfl rfl) (src_dep (j := 6) (e := ⟨6, .data⟩) (by simp) rfl rfl rfl)
    case fin =>
      intro a W h1 h2 h3 h4 h5
      have b0 : a.tmps.getD 0 undef = .int .u8 (t : Int) := h3 0 (fun i hi => by show 28 + i ≠ 0; omega)
      have b1 : a.tmps.getD 1 undef = .slice A xs.length c := h3 1 (fun i hi => by show 28 + i ≠ 1; omega)
      have b2 : a.tmps.getD 2 undef = .int .i64 cut := h3 2 (fun i hi => by show 28 + i ≠ 2; omega)
      have b6 : a.tmps.getD 6 undef = .bool false := h3 6 (fun i hi => by show 28 + i ≠ 6; omega)
      have b7 : a.tmps.getD 7 undef = .slice (some ⟨gb, 0, none⟩) b.length c2 := h3 7 (fun i hi => by show 28 + i ≠ 7; omega)
      have b8 : a.tmps.getD 8 undef = .pointer (some ⟨g, 0, none⟩) := h3 8 (fun i hi => by show 28 + i ≠ 8; omega)
      have b9 : a.tmps.getD 9 undef = .bool true := h3 9 (fun i hi => by show 28 + i ≠ 9; omega)
      have b35 : a.tmps.getD 35 undef = .bool false := (h4 7 (by show 7 < 8; omega)).now
      have hz : a.tmps.size = 72 := h2
      have hdf : a.defers = [] := h1
      rw [act_eq hz hdf]
      simp only [show List.range 72 = [0, 1, 2, 3, 4, 5, 6, 7, 8, 9, 10, 11, 12, 13, 14, 15, 16, 17, 18, 19, 20, 21, 22, 23, 24, 25, 26, 27, 28, 29, 30, 31, 32, 33, 34, 35, 36, 37, 38, 39, 40, 41, 42, 43, 44, 45, 46, 47, 48, 49, 50, 51, 52, 53, 54, 55, 56, 57, 58, 59, 60, 61, 62, 63, 64, 65, 66, 67, 68, 69, 70, 71] from rfl, List.map_cons, List.map_nil, b0, b1, b2, b6, b7, b8, b9, b35]
      have e5' := e4'.trans (h5.mono e4'.size)
      have W5 := W4.below h5
      have o5 := (row_below ho2 e2 |> fun o => row_below o e4) |> fun o => row_below o h5
      have r5 := ((r2.below e2).below e4).below h5
      clear h1 h2 h3 h4 b0 b1 b2 b6 b7 b8 b9 b35 hz hdf
      have w00 := works15_any
      by_cases hc : 0 ≤ cut ∧ cut < (b.length : Int)
      · obtain ⟨k, rfl⟩ : ∃ k : Nat, cut = (k : Int) := ⟨cut.toNat, by omega⟩
        have zk : k < b.length := by omega
        have zk1 : (k : Int) < (b.length : Int) := by omega
        have zk2 : (k : Int) ≤ (c2 : Int) := by omega
        have zk3 : (0 : Int) ≤ (k : Int) := by omega
        have hkl : (b.take k).length = k := by rw [List.length_take]; omega
        have hno := Lib.hid (hb3 k zk)
        have QC : Calls Tryz.prog 32 #[.agg #[.slice none 0 0, .slice (some ⟨gb, 0, none⟩) k c2, .slice none 0 0, .slice none 0 0]] W (OfPost (b.take k) W) := by
          have q := sOf_any (onlyC (some ⟨gb, 0, none⟩) c2 (b.take k)) W ⟨r5.take k, fun x hx => hbm x (List.mem_of_mem_take hx), by show (b.take k).length ≤ c2; omega, by have := hm2; unfold maxLen at this; exact this⟩ (by show (b.take k).length ≤ 1000000; omega)
          have e : (onlyC (some ⟨gb, 0, none⟩) c2 (b.take k)).val = .agg #[.slice none 0 0, .slice (some ⟨gb, 0, none⟩) k c2, .slice none 0 0, .slice none 0 0] := by
            show Value.agg #[.slice none 0 0, .slice (some ⟨gb, 0, none⟩) (b.take k).length c2, .slice none 0 0, .slice none 0 0] = _
            rw [hkl]
          rw [e] at q
          exact q
        have HQ := Lib.hid QC
        clear QC hkl hb3 hc
        go_wp2_with fail
        refine HQ.out.mono ?_
        rintro r w6 ⟨e6, h6⟩
        rw [hno.out] at h6
        obtain rfl := h6
        clear HQ
        have W6 := W5.below e6
        have o6 := row_below o5 e6
        have e6' := e5'.trans (e6.mono e5'.size)
        have hneq := neq_same z32 rfl
        go_upto_region 11 with (first
          | (refine wpList_store_whl rfl 49 (.tmp 8) (.tmp 50) rfl g .u8 _ dg z32 rfl rfl W6 (by rw [hgl.out]; rfl) (by first | exact size_32u8 | (rw [hgl.out]; exact size_32u8)) ?_; intro w7 W7 hg7 hs7)
          | (refine wpList_load_whl_if rfl 49 (.tmp 8) rfl g rfl .u8 _ z32 W7 _ Tryz.underlying49 rfl (by exact size_32u8) ?_)
          | ((with_reducible refine wpList_neq_same (.tmp 54) (.tmp 55) ?_ z32 ?_ ?_ ?_ ?_ ?_); (· rfl); (· rfl); (· rfl); (· rfl); (· rfl)))
        have hlt : gb < g := by have := hg.out; have := e2.size; omega
        have o7 := o6.kept hg7 (.inr (fun e => by have h : gb = g := Option.some.inj e; omega))
        have e7' := below_only e6' hg7 e6'.size (by omega)
        have HN := hb2
        have hn1 : (b ++ [0]).length = b.length + 1 := by simp
        clear hs7 hg7 hlt
        have q1 := row_below o7 ((Below.refl w7.heap.size w7).alloc (Nat.le_refl _) (.cells #[.int .u8 0] 5))
        have q2 : Rd .u8 (w7.alloc (.cells #[.int .u8 0] 5)) (some ⟨w7.heap.size, 0, none⟩) [0] := Rd.of_all (blk_lit w7 [0] _ (by simp [ints]))
        have q3 : w.heap.size ≤ (w7.alloc (.cells #[.int .u8 0] 5)).heap.size := (e7'.alloc e7'.size _).size
        have q4 := e7'.alloc e7'.size (.cells #[.int .u8 0] 5)
        have q5 : b.length + 1 ≤ maxLen := by simp only [maxLen]; omega
        have q6 : (b.length + 1) * 1 ≤ 140737488355328 := by omega
        go_wp2_with (at_builtin; refine wpList_append_W _ rfl (.tmp 58) (.tmp 59) _ rfl w.heap.size 5 .u8 1 Tryz.underlying22 info_u8 (.slice (some ⟨gb, 0, none⟩) b.length c2) b.length b rfl q1 _ 1 1 [0] rfl rfl q2 q5 q6 q3 ?_; intro A3 c3 w8 o8 g8 _; have b8 := grow_step q4 q3 q1 g8)
        obtain ⟨A', c', he, -, hc8, hm8, hO⟩ := Own.of_row o8
        cases he
        have r8 := hO.rd
        have QE : Calls Tryz.prog 32 #[.agg #[.slice none 0 0, .slice A3 (b.length + 1) c3, .slice none 0 0, .slice none 0 0]] w8 (OfPost (b ++ [0]) w8) := by
          have q := sOf_any (onlyC A3 c3 (b ++ [0])) w8 ⟨r8, fun x hx => by rcases List.mem_append.1 hx with h | h; exact hbm x h; simp at h; omega, by show (b ++ [0]).length ≤ c3; omega, by have := hm8; unfold maxLen at this; exact this⟩ (by show (b ++ [0]).length ≤ 1000000; omega)
          have e : (onlyC A3 c3 (b ++ [0])).val = .agg #[.slice none 0 0, .slice A3 (b.length + 1) c3, .slice none 0 0, .slice none 0 0] := by
            show Value.agg #[.slice none 0 0, .slice A3 (b ++ [0]).length c3, .slice none 0 0, .slice none 0 0] = _
            rw [hn1]
          rw [e] at q
          exact q
        have HE := Lib.hid QE
        clear QE hn1
        refine HE.out.mono ?_
        rintro r w9 ⟨e9, h9⟩
        rw [HN.out] at h9
        obtain rfl := h9
        clear HE
        have e9' := b8.trans (e9.mono b8.size)
        go_wp2_with fail
        refine (w00 _).mono ?_
        rintro e w10 ⟨rfl, e10⟩
        go_wp2_with fail
        go_ret
        exact ⟨rfl, e9'.trans (e10.mono e9'.size)⟩
      · have hcc : cut < 0 ∨ (0 ≤ cut ∧ ¬ cut < (b.length : Int)) := by omega
        clear hb3 hc
        rcases hcc with hcc | ⟨hcc, hcd⟩
        all_goals
          go_upto_region 11 with fail
          have HN := hb2
          have hn1 : (b ++ [0]).length = b.length + 1 := by simp
          have q1 := row_below o5 ((Below.refl W.heap.size W).alloc (Nat.le_refl _) (.cells #[.int .u8 0] 5))
          have q2 : Rd .u8 (W.alloc (.cells #[.int .u8 0] 5)) (some ⟨W.heap.size, 0, none⟩) [0] := Rd.of_all (blk_lit W [0] _ (by simp [ints]))
          have q3 : w.heap.size ≤ (W.alloc (.cells #[.int .u8 0] 5)).heap.size := (e5'.alloc e5'.size _).size
          have q4 := e5'.alloc e5'.size (.cells #[.int .u8 0] 5)
          have q5 : b.length + 1 ≤ maxLen := by simp only [maxLen]; omega
          have q6 : (b.length + 1) * 1 ≤ 140737488355328 := by omega
          go_wp2_with (at_builtin; refine wpList_append_W _ rfl (.tmp 58) (.tmp 59) _ rfl w.heap.size 5 .u8 1 Tryz.underlying22 info_u8 (.slice (some ⟨gb, 0, none⟩) b.length c2) b.length b rfl q1 _ 1 1 [0] rfl rfl q2 q5 q6 q3 ?_; intro A3 c3 w8 o8 g8 _; have b8 := grow_step q4 q3 q1 g8)
          obtain ⟨A', c', he, -, hc8, hm8, hO⟩ := Own.of_row o8
          cases he
          have r8 := hO.rd
          have QE : Calls Tryz.prog 32 #[.agg #[.slice none 0 0, .slice A3 (b.length + 1) c3, .slice none 0 0, .slice none 0 0]] w8 (OfPost (b ++ [0]) w8) := by
            have q := sOf_any (onlyC A3 c3 (b ++ [0])) w8 ⟨r8, fun x hx => by rcases List.mem_append.1 hx with h | h; exact hbm x h; simp at h; omega, by show (b ++ [0]).length ≤ c3; omega, by have := hm8; unfold maxLen at this; exact this⟩ (by show (b ++ [0]).length ≤ 1000000; omega)
            have e : (onlyC A3 c3 (b ++ [0])).val = .agg #[.slice none 0 0, .slice A3 (b.length + 1) c3, .slice none 0 0, .slice none 0 0] := by
              show Value.agg #[.slice none 0 0, .slice A3 (b ++ [0]).length c3, .slice none 0 0, .slice none 0 0] = _
              rw [hn1]
            rw [e] at q
            exact q
          have HE := Lib.hid QE
          clear QE hn1
          refine HE.out.mono ?_
          rintro r w9 ⟨e9, h9⟩
          rw [HN.out] at h9
          obtain rfl := h9
          clear HE
          have e9' := b8.trans (e9.mono b8.size)
          go_wp2_with fail
          refine (w00 _).mono ?_
          rintro e w10 ⟨rfl, e10⟩
          go_wp2_with fail
          go_ret
          exact ⟨rfl, e9'.trans (e10.mono e9'.size)⟩
end Go.Proofs.YtchaahnhpeoomaaGreat
