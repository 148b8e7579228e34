/-
  The walk of the statement ShaStates: every sum of a state is that of what was written to it, whatever is done with four states.
-/
import Derived.Test.YtmbkehmgpcmicaaShaIn
import Derived.Test.YtmbkehmgpcmicaaShaY
import Derived.Test.YtmbkehmgpcmicaaShaO
import Derived.Deep.RegionHeld3
import Derived.Deep.RegionLaw
import Derived.Deep.DeepCutAuto
import Derived.Test.YtmbkehmgpcmicaaShaM
namespace Go.Proofs.Ytmbkehmgpcmicaa
set_option linter.unusedVariables false
set_option linter.unusedSimpArgs false
open Go.RowKit

/-- What is done: with which state; whether its sum is asked for; bytes. -/
def OpOk (w : World) (q : Int × Bool × (Option Addr × Nat × List Nat)) : Prop := (-9223372036854775808 ≤ q.1 ∧ q.1 ≤ 9223372036854775807) ∧ RowOk .u8 256 w q.2.2
def OpsOk (w : World) (a : Option Addr) (len cap : Nat) (l : List (Int × Bool × (Option Addr × Nat × List Nat))) : Prop :=
  len = l.length ∧ len ≤ cap ∧ cap ≤ 9223372036854775807 ∧ (∀ q ∈ l, OpOk w q) ∧
  (l = [] ∨ ∃ bb o, a = some ⟨bb, o, none⟩ ∧ bb < w.heap.size ∧ ∀ (i : Nat) (q : Int × Bool × (Option Addr × Nat × List Nat)), l[i]? = some q →
    w.cell? ⟨bb, o + i * 3, none⟩ = some (.int .i64 q.1) ∧ w.cell? ⟨bb, o + i * 3 + 1, none⟩ = some (.bool q.2.1) ∧ w.cell? ⟨bb, o + i * 3 + 2, none⟩ = some (rowVal q.2.2))
theorem info_rows : (Try.prog.info? 22).map (fun i => (i.zero, i.size, i.bytes)) = some (some (.slice none 0 0), 1, 24) := by kernel_rfl
section
variable {P : Program} {w : World}
theorem wpList_make_vals {ops : Array Oper} {rest : List Oper} {o : Oper} {a : Act} {Q : Exit → Act → World → Prop}
    (hg : o.guard = none) (l c : Operand) (t : TypeId) (hop : o.op = Op.makeSlice t l c) (z : Value) (hz : z.cells = #[z]) (e : TypeId) (bytes : Nat)
    (ht : P.underlying t = some (.slice e)) (hinfo : (P.info? e).map (fun i => (i.zero, i.size, i.bytes)) = some (some z, 1, bytes))
    (kl kc : IntKind) (n : Nat) (hl : a.eval l = .int kl n) (hc : a.eval c = .int kc n)
    (hbytes : bytes * n ≤ 281474976710656) (h63 : n ≤ 9223372036854775807)
    (hK : ∀ g w', Hid (g = w.heap.size) → Cut w' g 0 (List.replicate n z) → Below w.heap.size w w' → w'.heap.size = w.heap.size + 1 → wpList P ops Q rest (a.put o.dst (.slice (some ⟨g, 0, none⟩) n n)) w') :
    wpList P ops Q (o :: rest) a w := by
  refine wpList_plain hg fun K hK' => ?_
  have hrun := run_make_row' (P := P) t e _ bytes ht hinfo hz kl kc n hbytes h63 w
  unfold Oper.wp
  simp [execOp, hop, hl, hc, hrun, Result.andThen]
  refine hK' _ _ (hK w.heap.size _ rfl ?_ ((Below.refl _ _).alloc (Nat.le_refl _) _) (by simp))
  refine Cut.of_heap (heap_alloc_new w _) fun i v hv => ?_
  rw [Nat.zero_add, ← Array.getElem?_toList, toList_madeCells_one]
  exact hv
end
theorem t7 (W : Int) : -4 < W.tmod 4 ∧ W.tmod 4 < 4 := ⟨Int.lt_tmod_of_pos W (by decide), Int.tmod_lt_of_pos W (by decide)⟩
theorem size_32u8' : (Try.prog.info? 25).map (·.size) = some 32 := by kernel_rfl
set_option maxRecDepth 100000 in
set_option maxHeartbeats 12800000 in
theorem shaStates_any (a : Option Addr) (n c : Nat) (qs : List (Int × Bool × (Option Addr × Nat × List Nat))) (w : World) (hm : OpsOk w a n c qs) :
    Calls Try.prog 4 #[.slice a n c] w (Yes w) := by
  obtain rfl := hm.1
  have hnb : qs.length ≤ 9223372036854775807 := Nat.le_trans hm.2.1 hm.2.2.1
  have HOps := Lib.hid hm
  clear hm
  obtain ⟨C, hC⟩ : ∃ C, Try.prog.built 37 [] = some C ∧ ∀ w, Zst (w.alloc (.cells C 37)) w.heap.size := ⟨_, built_state, fun w => zst_new w _ _ rfl⟩
  have hZ := Lib.hid hC.2
  replace hC := hC.1
  go_enter Try.func4, Try.ntmps4
  go_wp2_with fail
  refine (new_any _).mono ?_
  rintro e w1 ⟨g1, v, rfl, hg, rfl, hM, hb1⟩
  have hS1 := (Sts.nil w w.heap.size).add hb1 (St.of_mst hM) hg (fun j hj => by cases hj) (Nat.le_refl _)
  clear hM
  go_wp2_with fail
  refine (new_any _).mono ?_
  rintro e w2 ⟨g2, v, rfl, hg2, rfl, hM, hb2⟩
  have hS2 := hS1.add hb2 (St.of_mst hM) hg2 (fun j hj => by cases hj) hb1.size
  have hbel := hb1.trans (hb2.mono hb1.size)
  clear hM hS1 hb1 hb2 hg hg2
  have hZ2 := hZ.out w2
  have hbz : Below w2.heap.size w2 (w2.alloc (.cells C 37)) := (Below.refl _ _).alloc (Nat.le_refl _) _
  have hS3 := hS2.add hbz (St.zero hZ2) (Nat.le_refl _) (fun j hj => by cases hj) hbel.size
  have hbel3 := hbel.trans (hbz.mono hbel.size)
  simp only [List.nil_append, List.cons_append] at hS3
  clear hS2 hbel hbz hZ2
  have hbL : Below (w2.alloc (.cells C 37)).heap.size (w2.alloc (.cells C 37)) ((w2.alloc (.cells C 37)).alloc (.cells #[.pointer (some ⟨g1, 0, none⟩), .pointer (some ⟨g2, 0, none⟩), .pointer (some ⟨w2.heap.size, 0, none⟩), .pointer none] 30)) := (Below.refl _ _).alloc (Nat.le_refl _) _
  have hcL : Cut ((w2.alloc (.cells C 37)).alloc (.cells #[.pointer (some ⟨g1, 0, none⟩), .pointer (some ⟨g2, 0, none⟩), .pointer (some ⟨w2.heap.size, 0, none⟩), .pointer none] 30)) (w2.heap.size + 1) 0 [.pointer (some ⟨g1, 0, none⟩), .pointer (some ⟨g2, 0, none⟩), .pointer (some ⟨w2.heap.size, 0, none⟩), .pointer none] := by
    have h := heap_alloc_new (w2.alloc (.cells C 37)) (.cells #[.pointer (some ⟨g1, 0, none⟩), .pointer (some ⟨g2, 0, none⟩), .pointer (some ⟨w2.heap.size, 0, none⟩), .pointer none] 30)
    rw [show (w2.alloc (.cells C 37)).heap.size = w2.heap.size + 1 by simp] at h
    exact Cut.of_heap h fun i v hv => by rw [Nat.zero_add, ← Array.getElem?_toList]; exact hv
  have hF0 := (((Fam.of_sts hS3).guard none (fun k hk => by cases hk) (Below.refl _ _) hbel3.size).guard none (fun k hk => by cases hk) (Below.refl _ _) hbel3.size).guard none (fun k hk => by cases hk) (Below.refl _ _) hbel3.size
  have hF1 := (hF0.guard none (fun k hk => by cases hk) (Below.refl _ _) hbel3.size).guard (some (w2.heap.size + 1)) (fun k hk => by injection hk with hk; subst hk; simp) hbL hbel3.size
  have hbel4 := hbel3.trans (hbL.mono hbel3.size)
  simp only [List.nil_append, List.cons_append] at hF1
  clear hF0 hS3 hbel3 hbL
  go_wp2_with (first | (refine wpList_build0 rfl 37 rfl C hC ?_) | (at_make; refine wpList_make_vals rfl _ _ _ rfl (.slice none 0 0) rfl 22 24 Try.underlying39 info_rows .i64 .i64 4 rfl rfl (by omega) (by omega) ?_; intro H w4 hH hcH hbH hsH))
  have hF2 := hF1.guard (some H) (fun k hk => by injection hk with hk; subst hk; rw [hH.out, hsH]; omega) hbH hbel4.size
  replace hcL := hcL.below hbH
  have hbel5 := hbel4.trans (hbH.mono hbel4.size)
  simp only [List.nil_append, List.cons_append] at hF2
  have hcH2 : Cut w4 H 0 [.slice none 0 0, .slice none 0 0, .slice none 0 0, .slice none 0 0] := hcH
  clear hF1 hbel4 hbH hsH hH hcH hC hZ
  generalize w2.heap.size + 1 = L at *
  generalize w2.heap.size = g3 at *
  have hInv : Inv w.heap.size g1 g2 g3 L H w4 (.slice none 0 0) (.slice none 0 0) (.slice none 0 0) [] [] [] (none, 0, []) (none, 0, []) (none, 0, []) (none, 0, []) [] :=
    ⟨hF2, ⟨World.ownsRow_nil _ _ _ _, Lim.nil _⟩, ⟨World.ownsRow_nil _ _ _ _, Lim.nil _⟩, ⟨World.ownsRow_nil _ _ _ _, Lim.nil _⟩, ⟨World.ownsRow_nil _ _ _ _, Lim.nil _⟩, hcL, hcH2⟩
  clear hF2 hcL hcH2
  go_loopw [5] (fun s wr => ∃ (i : Nat) (v1 v2 v3 : Value) (A0 A1 A2 A3 : Option Addr) (c0 c1 c2 c3 : Nat) (x0 x1 x2 x3 : List Nat), s = .int .i64 (i : Int) ∧ i ≤ qs.length ∧ i ≤ 40 ∧ (x0.length ≤ 1024 * i ∧ x1.length ≤ 1024 * i ∧ x2.length ≤ 1024 * i ∧ x3.length ≤ 1024 * i) ∧ Inv w.heap.size g1 g2 g3 L H wr v1 v2 v3 x0 x1 x2 (A0, c0, x0) (A1, c1, x1) (A2, c2, x2) (A3, c3, x3) [] ∧ Below w.heap.size w wr) (fun s _ => qs.length - (intOf s).toNat)
  case atStart => exact ⟨0, _, _, _, none, none, none, none, 0, 0, 0, 0, [], [], [], [], rfl, Nat.zero_le _, by omega, by simp, hInv, hbel5⟩
  case round =>
    clear hInv hbel5
    obtain ⟨i, v1, v2, v3, A0, A1, A2, A3, c0, c1, c2, c3, x0, x1, x2, x3, rfl, hi, hi40, ⟨s0, s1, s2, s3⟩, hInv, hbel⟩ := hrel
    by_cases hlt : i < qs.length
    · by_cases hlt40 : i < 40
      · obtain ⟨⟨W, S, A, cr, xs⟩, hq⟩ : ∃ q, qs[i]? = some q := ⟨_, List.getElem?_eq_getElem hlt⟩
        obtain ⟨⟨hw1, hw2⟩, y1, y2, y3, y4⟩ := HOps.out.2.2.2.1 _ (List.mem_of_getElem? hq)
        obtain ⟨bb, o, rfl, hbb, hcl⟩ : ∃ bb o, a = some ⟨bb, o, none⟩ ∧ bb < w.heap.size ∧ ∀ (i : Nat) (q : Int × Bool × (Option Addr × Nat × List Nat)), qs[i]? = some q →
            w.cell? ⟨bb, o + i * 3, none⟩ = some (.int .i64 q.1) ∧ w.cell? ⟨bb, o + i * 3 + 1, none⟩ = some (.bool q.2.1) ∧ w.cell? ⟨bb, o + i * 3 + 2, none⟩ = some (rowVal q.2.2) := by
          rcases HOps.out.2.2.2.2 with h | h
          · rw [h] at hlt; simp at hlt
          · exact h
        obtain ⟨h0, h1, h2⟩ := hcl _ _ hq
        have q0 := (hbel.cell (p := ⟨bb, o + i * 3, none⟩) hbb).trans h0
        have q1 := (hbel.cell (p := ⟨bb, o + i * 3 + 1, none⟩) hbb).trans h1
        have q2 := (hbel.cell (p := ⟨bb, o + i * 3 + 2, none⟩) hbb).trans h2
        dsimp only [rowVal] at q0 q1 q2 y1 y2 y3 y4 hw1 hw2 h2
        clear h0 h1 hcl hq
        obtain ⟨ht1, ht2⟩ := t7 W
        by_cases hbig : 1024 < xs.length
        · have hd : decide ((1024 : Int) < (xs.length : Int)) = true := by simp; omega
          go_wp2_with fail
          all_goals refine (shaWorks_any _).mono ?_
          all_goals rintro e w6 ⟨rfl, hb6⟩
          all_goals go_wp2_with fail
          all_goals go_ret
          all_goals exact ⟨rfl, hbel.trans (hb6.mono hbel.size)⟩
        have hd : decide ((1024 : Int) < (xs.length : Int)) = false := by simp; omega
        go_upto_if 43 with fail
        go_cut [6] (fun s6 wx => ∃ K : Nat, s6 = .int .i64 (K : Int) ∧ K < 4 ∧ wx = wr)
        case first =>
          go_wp2_with fail
          all_goals go_meet
          · case rel => exact ⟨(W.tmod 4 + 4).toNat, by rw [Int.toNat_of_nonneg (by omega)], by omega, rfl⟩
          · case rel => exact ⟨(W.tmod 4).toNat, by rw [Int.toNat_of_nonneg (by omega)], by omega, rfl⟩
        case rest =>
          obtain ⟨K, rfl, hK4, rfl⟩ := hcut
          have hxl : xs.length ≤ 1024 := by omega
          clear ht1 ht2 q0 hw1 hw2
          rcases (show K = 0 ∨ K = 1 ∨ K = 2 ∨ K = 3 by omega) with rfl | rfl | rfl | rfl
          · have hl := hInv.l0
            have hh := hInv.h0
            have hrow := hInv.row0
            dsimp only [rowVal] at hh
            cases S with
            | true =>
              go_wp2_with fail
              refine (refSum_any A0 _ c0 x0 _ rfl (by omega) (two_rd' hrow.1) hrow.2).mono ?_
              rintro e w6 ⟨rfl, hb6⟩
              have hdl := Lib.hid (digest_length x0)
              go_wp2_with (refine wpList_store_whl rfl 25 (.tmp 7) (.tmp 63) rfl w6.heap.size .u8 25 (List.replicate 32 0) (digest x0) rfl rfl (whl_new _ _ _ rfl) (by rw [hdl.out]; rfl) size_32u8 ?_; intro w7 hw7 hg7 hs7)
              have hbn : Below w6.heap.size w6 w7 := below_only ((Below.refl _ _).alloc (Nat.le_refl _) _) hg7 (by simp) (Nat.le_refl _)
              have hbel6 := hbel.trans (hb6.mono hbel.size)
              have hInv7 := (hInv.below hb6).guard (some w6.heap.size) (fun k hk => by injection hk with hk; subst hk; exact ⟨Nat.le_refl _, hw7.lt⟩) hbn hbel6.size
              rw [List.nil_append] at hInv7
              have hbel7 := hbel6.trans (hbn.mono hbel6.size)
              clear hInv hl hh hrow hb6 hg7 hs7 hbn hbel6 hbel
              generalize w6.heap.size = g7 at *
              have heq := neq_same (digest x0) hdl.out
              have hun := Try.underlying25
              have hsz : (Try.prog.info? 25).map (·.size) = some (ints .u8 (digest x0)).length := by rw [ints_length, hdl.out]; exact size_32u8
              have hl := hInv7.l0
              have hra : w7.rangeAt g7 0 (ints .u8 (digest x0)) := (Cut.of_blk hw7.blk).range
              go_region_held3 (fun w' => w'.cell? ⟨L, 0, none⟩ = some (.pointer (some ⟨g1, 0, none⟩)) ∧ w'.rangeAt g7 0 (ints .u8 (digest x0)))
                (first | exact ⟨hl, hra⟩ | exact ⟨hI.l0, ((Cut.of_blk hw7.blk).keep hsl (hsm 6 g7 rfl)).range⟩ | go_keep)
                (first | (go_at_call 18; refine (inv_sum_0 (w := w7.drew) hInv7 hbel7.size (by omega)).mono ?_; rintro e w8 ⟨rfl, hI, hsm, hb8⟩; have hsl := hb8.size))
              have hI8 := Inv.drop (X := []) hI
              have hbel8 : Below w.heap.size w w8 := (show Below w.heap.size w w7.drew from below_drewN hbel7 1).trans hb8
              clear hI hsm hb8 hsl hInv7 hbel7 hw7 hra hl hun hsz heq
              go_wp2_with fail
              go_roundw
              case rel => exact ⟨i + 1, v1, v2, v3, A0, A1, A2, A3, c0, c1, c2, c3, x0, x1, x2, x3, by go_num, by omega, by omega, by omega, hI8, hbel8⟩
              case measure => simp [intOf]; omega
            | false =>
              go_wp2_with fail
              refine (copyBytes_any A _ cr xs _ rfl (by omega) (y3.below hbel)).mono ?_
              rintro e w6 ⟨A5, c5, rfl, hown5, hb6⟩
              have hI6 := hInv.guard (Value.slice A5 xs.length c5).ownBlock (fun k hk => hown5.lt k hk) hb6 hbel.size
              rw [List.nil_append] at hI6
              have hbel6 := hbel.trans (hb6.mono hbel.size)
              have hoff := off_own hown5 (g := g1) fun k hk => (hI6.off k hk).1
              have q3 := (hbel6.cell (p := ⟨bb, o + i * 3 + 2, none⟩) hbb).trans h2
              replace hl := hI6.l0
              have hwc := hbel.size
              clear hInv hh hrow hb6 hbel q1 q2
              go_wp2_with fail
              refine (inv_write_0 hI6 hbel6.size A5 _ c5 xs rfl (two_rd' hown5) y4 hoff (by omega)).mono ?_
              rintro e w7 ⟨rfl, v', hI7, hsm7, hb7⟩
              have hown7 := own_keep hown5 fun k hk => hsm7 6 k (by rw [← hk]; rfl)
              have hbel7 := hbel6.trans hb7
              have q4 := (hbel7.cell (p := ⟨bb, o + i * 3 + 2, none⟩) hbb).trans h2
              have hh := hI7.h0
              have hrow := hI7.row0
              have hrx := y3.below hbel7
              dsimp only [rowVal] at hh
              clear hI6 hsm7 hb7 hbel6 hown5 q3 hl
              go_wp2_with fail
              have hrow' : w7.drew.ownsRow w.heap.size 5 1 (.slice A0 x0.length c0) x0.length (ints .u8 x0) := hrow.1
              have hrx' : Rd .u8 w7.drew A xs := hrx
              have hsz7 : w.heap.size ≤ w7.drew.heap.size := hbel7.size
              go_region_law (refine step_append_block (w := w7.drew) (by rfl) (.tmp 91) (.tmp 96) 22 (by rfl) w.heap.size 5 .u8 1 Try.underlying22 info_u8 (.slice A0 x0.length c0) x0.length x0 (by rfl) hrow' A xs.length cr xs (by rfl) rfl hrx' (by simp only [maxLen]; omega) (by omega) hsz7 ?_; intro A8 c8 w8 hown8 hgrow8 hblk8; have hc8 := (Inv.still0 (w := w7.drew) hI7 hgrow8).1; have hf8 := (Inv.still0 (w := w7.drew) hI7 hgrow8).2; dsimp only [rowVal] at hc8)
              all_goals
                have hput := Inv.put_0 (w := w7.drew) (r' := (A8, c8, x0 ++ xs)) hI7 hgrow8 (by dsimp only [rowVal]; rw [List.length_append]; exact hblk8) ⟨by dsimp only [rowVal]; rw [List.length_append]; exact hown8, hrow.2.append y4⟩ hsz7
                have hHl := hI7.hlt.1
                have hb8 := (below_drewN hbel7 1).grown hgrow8 hsz7 (fun k hk => (hrow'.lt k hk).1)
                have hb9 := below_only hb8 (only_set (only_refl w8 (some H)) (p := ⟨H, 0, none⟩) (.inl rfl) (.slice A8 (x0.length + xs.length) c8)) hb8.size hHl
                dsimp only [rowVal] at hput
                rw [List.length_append] at hput
                change Exit.then _ _ _ _ (w8.setCell ⟨H, 0, none⟩ (.slice A8 (x0.length + xs.length) c8))
                generalize w8.setCell ⟨H, 0, none⟩ (.slice A8 (x0.length + xs.length) c8) = w9 at *
                obtain ⟨hI9, hk9⟩ := hput
                have hown9 := own_keep hown7 fun k hk => (hk9 0 k (by rw [← hk]; rfl))
                have q9 := (hb9.cell (p := ⟨bb, o + i * 3 + 2, none⟩) hbb).trans h2
                have hry := y3.below hb9
                clear hk9 hb8 hc8 hf8 hblk8 hgrow8 hown8 hrow' hrx' hsz7 hrx hh hrow q4 hbel7 hown7 hI7 h2
                go_wp2_with fail
                refine (eqBytes_any A5 A _ _ c5 cr xs xs _ rfl rfl (two_rd' hown9) hry y4 y4).mono ?_
                rintro e w10 ⟨rfl, rfl⟩
                clear q9 hry
                go_wp2_with fail
                go_loopw [9] (fun s wz => ∃ (j : Nat) (ys : List Nat), s = .int .i64 (j : Int) ∧ j ≤ xs.length ∧ Hid (ys.length = xs.length) ∧ wz.ownsRow wc.heap.size 5 1 (.slice A5 xs.length c5) xs.length (ints .u8 ys) ∧ Inv w.heap.size g1 g2 g3 L H wz v' v2 v3 (x0 ++ xs) x1 x2 (A8, c8, x0 ++ xs) (A1, c1, x1) (A2, c2, x2) (A3, c3, x3) [(Value.slice A5 xs.length c5).ownBlock] ∧ Below w.heap.size w wz) (fun s _ => xs.length - (intOf s).toNat)
                case atStart => exact ⟨0, xs, rfl, Nat.zero_le _, rfl, hown9, hI9, hb9⟩
                case round =>
                  clear hown9 hI9 hb9
                  obtain ⟨j, ys, rfl, hj, hyl, hownz, hIz, hbz⟩ := hrel
                  by_cases hjl : j < xs.length
                  · obtain ⟨g, cap, he, hBg, hnc, hmx, hblk⟩ := row_blk hownz (by omega)
                    injection he with he _ he2
                    subst he
                    subst he2
                    obtain ⟨y, hy⟩ := get_of_lt (xs := ys) (i := j) (by rw [hyl.out]; exact hjl)
                    have hyc := hblk.cell hy
                    have hyf := hblk.frozen hy
                    have hownz' := own_set hownz j 92
                    have hgz : wr.grownBy (wr.setCell ⟨g, j, none⟩ (.int .u8 ((92 : Nat) : Int))) (Value.slice (some ⟨g, 0, none⟩) xs.length c5).ownBlock := only_set (only_refl wr (some g)) (p := ⟨g, j, none⟩) (.inl rfl) _
                    have hIz' := hIz.touch hgz hbz.size
                    have hbz' := hbz.grown hgz hbz.size (fun k hk => by injection hk with hk; subst hk; exact Nat.le_trans hwc hBg)
                    clear hIz hbz hgz hownz hblk hy
                    go_wp2_with fail
                    go_roundw
                    case rel => exact ⟨j + 1, ys.set j 92, by go_num, hjl, Lib.hid (show (ys.set j 92).length = xs.length by rw [List.length_set]; exact hyl.out), hownz', hIz', hbz'⟩
                    case measure => simp [intOf]; omega
                  · have hIz' := Inv.drop (X := []) hIz
                    clear hIz hownz
                    go_wp2_with fail
                    go_roundw
                    case rel => exact ⟨i + 1, v', v2, v3, A8, A1, A2, A3, c8, c1, c2, c3, x0 ++ xs, x1, x2, x3, by go_num, by omega, by omega, by simp; omega, hIz', hbz⟩
                    case measure => simp [intOf]; omega
          · have hl := hInv.l1
            have hh := hInv.h1
            have hrow := hInv.row1
            dsimp only [rowVal] at hh
            cases S with
            | true =>
              go_wp2_with fail
              refine (refSum_any A1 _ c1 x1 _ rfl (by omega) (two_rd' hrow.1) hrow.2).mono ?_
              rintro e w6 ⟨rfl, hb6⟩
              have hdl := Lib.hid (digest_length x1)
              go_wp2_with (refine wpList_store_whl rfl 25 (.tmp 7) (.tmp 63) rfl w6.heap.size .u8 25 (List.replicate 32 0) (digest x1) rfl rfl (whl_new _ _ _ rfl) (by rw [hdl.out]; rfl) size_32u8 ?_; intro w7 hw7 hg7 hs7)
              have hbn : Below w6.heap.size w6 w7 := below_only ((Below.refl _ _).alloc (Nat.le_refl _) _) hg7 (by simp) (Nat.le_refl _)
              have hbel6 := hbel.trans (hb6.mono hbel.size)
              have hInv7 := (hInv.below hb6).guard (some w6.heap.size) (fun k hk => by injection hk with hk; subst hk; exact ⟨Nat.le_refl _, hw7.lt⟩) hbn hbel6.size
              rw [List.nil_append] at hInv7
              have hbel7 := hbel6.trans (hbn.mono hbel6.size)
              clear hInv hl hh hrow hb6 hg7 hs7 hbn hbel6 hbel
              generalize w6.heap.size = g7 at *
              have heq := neq_same (digest x1) hdl.out
              have hun := Try.underlying25
              have hsz : (Try.prog.info? 25).map (·.size) = some (ints .u8 (digest x1)).length := by rw [ints_length, hdl.out]; exact size_32u8
              have hl := hInv7.l1
              have hra : w7.rangeAt g7 0 (ints .u8 (digest x1)) := (Cut.of_blk hw7.blk).range
              go_region_held3 (fun w' => w'.cell? ⟨L, 1, none⟩ = some (.pointer (some ⟨g2, 0, none⟩)) ∧ w'.rangeAt g7 0 (ints .u8 (digest x1)))
                (first | exact ⟨hl, hra⟩ | exact ⟨hI.l1, ((Cut.of_blk hw7.blk).keep hsl (hsm 6 g7 rfl)).range⟩ | go_keep)
                (first | (go_at_call 18; refine (inv_sum_1 (w := w7.drew) hInv7 hbel7.size (by omega)).mono ?_; rintro e w8 ⟨rfl, hI, hsm, hb8⟩; have hsl := hb8.size))
              have hI8 := Inv.drop (X := []) hI
              have hbel8 : Below w.heap.size w w8 := (show Below w.heap.size w w7.drew from below_drewN hbel7 1).trans hb8
              clear hI hsm hb8 hsl hInv7 hbel7 hw7 hra hl hun hsz heq
              go_wp2_with fail
              go_roundw
              case rel => exact ⟨i + 1, v1, v2, v3, A0, A1, A2, A3, c0, c1, c2, c3, x0, x1, x2, x3, by go_num, by omega, by omega, by omega, hI8, hbel8⟩
              case measure => simp [intOf]; omega
            | false =>
              go_wp2_with fail
              refine (copyBytes_any A _ cr xs _ rfl (by omega) (y3.below hbel)).mono ?_
              rintro e w6 ⟨A5, c5, rfl, hown5, hb6⟩
              have hI6 := hInv.guard (Value.slice A5 xs.length c5).ownBlock (fun k hk => hown5.lt k hk) hb6 hbel.size
              rw [List.nil_append] at hI6
              have hbel6 := hbel.trans (hb6.mono hbel.size)
              have hoff := off_own hown5 (g := g2) fun k hk => (hI6.off k hk).2.1
              have q3 := (hbel6.cell (p := ⟨bb, o + i * 3 + 2, none⟩) hbb).trans h2
              replace hl := hI6.l1
              have hwc := hbel.size
              clear hInv hh hrow hb6 hbel q1 q2
              go_wp2_with fail
              refine (inv_write_1 hI6 hbel6.size A5 _ c5 xs rfl (two_rd' hown5) y4 hoff (by omega)).mono ?_
              rintro e w7 ⟨rfl, v', hI7, hsm7, hb7⟩
              have hown7 := own_keep hown5 fun k hk => hsm7 6 k (by rw [← hk]; rfl)
              have hbel7 := hbel6.trans hb7
              have q4 := (hbel7.cell (p := ⟨bb, o + i * 3 + 2, none⟩) hbb).trans h2
              have hh := hI7.h1
              have hrow := hI7.row1
              have hrx := y3.below hbel7
              dsimp only [rowVal] at hh
              clear hI6 hsm7 hb7 hbel6 hown5 q3 hl
              go_wp2_with fail
              have hrow' : w7.drew.ownsRow w.heap.size 5 1 (.slice A1 x1.length c1) x1.length (ints .u8 x1) := hrow.1
              have hrx' : Rd .u8 w7.drew A xs := hrx
              have hsz7 : w.heap.size ≤ w7.drew.heap.size := hbel7.size
              go_region_law (refine step_append_block (w := w7.drew) (by rfl) (.tmp 91) (.tmp 96) 22 (by rfl) w.heap.size 5 .u8 1 Try.underlying22 info_u8 (.slice A1 x1.length c1) x1.length x1 (by rfl) hrow' A xs.length cr xs (by rfl) rfl hrx' (by simp only [maxLen]; omega) (by omega) hsz7 ?_; intro A8 c8 w8 hown8 hgrow8 hblk8; have hc8 := (Inv.still1 (w := w7.drew) hI7 hgrow8).1; have hf8 := (Inv.still1 (w := w7.drew) hI7 hgrow8).2; dsimp only [rowVal] at hc8)
              all_goals
                have hput := Inv.put_1 (w := w7.drew) (r' := (A8, c8, x1 ++ xs)) hI7 hgrow8 (by dsimp only [rowVal]; rw [List.length_append]; exact hblk8) ⟨by dsimp only [rowVal]; rw [List.length_append]; exact hown8, hrow.2.append y4⟩ hsz7
                have hHl := hI7.hlt.1
                have hb8 := (below_drewN hbel7 1).grown hgrow8 hsz7 (fun k hk => (hrow'.lt k hk).1)
                have hb9 := below_only hb8 (only_set (only_refl w8 (some H)) (p := ⟨H, 1, none⟩) (.inl rfl) (.slice A8 (x1.length + xs.length) c8)) hb8.size hHl
                dsimp only [rowVal] at hput
                rw [List.length_append] at hput
                change Exit.then _ _ _ _ (w8.setCell ⟨H, 1, none⟩ (.slice A8 (x1.length + xs.length) c8))
                generalize w8.setCell ⟨H, 1, none⟩ (.slice A8 (x1.length + xs.length) c8) = w9 at *
                obtain ⟨hI9, hk9⟩ := hput
                have hown9 := own_keep hown7 fun k hk => (hk9 0 k (by rw [← hk]; rfl))
                have q9 := (hb9.cell (p := ⟨bb, o + i * 3 + 2, none⟩) hbb).trans h2
                have hry := y3.below hb9
                clear hk9 hb8 hc8 hf8 hblk8 hgrow8 hown8 hrow' hrx' hsz7 hrx hh hrow q4 hbel7 hown7 hI7 h2
                go_wp2_with fail
                refine (eqBytes_any A5 A _ _ c5 cr xs xs _ rfl rfl (two_rd' hown9) hry y4 y4).mono ?_
                rintro e w10 ⟨rfl, rfl⟩
                clear q9 hry
                go_wp2_with fail
                go_loopw [9] (fun s wz => ∃ (j : Nat) (ys : List Nat), s = .int .i64 (j : Int) ∧ j ≤ xs.length ∧ Hid (ys.length = xs.length) ∧ wz.ownsRow wc.heap.size 5 1 (.slice A5 xs.length c5) xs.length (ints .u8 ys) ∧ Inv w.heap.size g1 g2 g3 L H wz v1 v' v3 x0 (x1 ++ xs) x2 (A0, c0, x0) (A8, c8, x1 ++ xs) (A2, c2, x2) (A3, c3, x3) [(Value.slice A5 xs.length c5).ownBlock] ∧ Below w.heap.size w wz) (fun s _ => xs.length - (intOf s).toNat)
                case atStart => exact ⟨0, xs, rfl, Nat.zero_le _, rfl, hown9, hI9, hb9⟩
                case round =>
                  clear hown9 hI9 hb9
                  obtain ⟨j, ys, rfl, hj, hyl, hownz, hIz, hbz⟩ := hrel
                  by_cases hjl : j < xs.length
                  · obtain ⟨g, cap, he, hBg, hnc, hmx, hblk⟩ := row_blk hownz (by omega)
                    injection he with he _ he2
                    subst he
                    subst he2
                    obtain ⟨y, hy⟩ := get_of_lt (xs := ys) (i := j) (by rw [hyl.out]; exact hjl)
                    have hyc := hblk.cell hy
                    have hyf := hblk.frozen hy
                    have hownz' := own_set hownz j 92
                    have hgz : wr.grownBy (wr.setCell ⟨g, j, none⟩ (.int .u8 ((92 : Nat) : Int))) (Value.slice (some ⟨g, 0, none⟩) xs.length c5).ownBlock := only_set (only_refl wr (some g)) (p := ⟨g, j, none⟩) (.inl rfl) _
                    have hIz' := hIz.touch hgz hbz.size
                    have hbz' := hbz.grown hgz hbz.size (fun k hk => by injection hk with hk; subst hk; exact Nat.le_trans hwc hBg)
                    clear hIz hbz hgz hownz hblk hy
                    go_wp2_with fail
                    go_roundw
                    case rel => exact ⟨j + 1, ys.set j 92, by go_num, hjl, Lib.hid (show (ys.set j 92).length = xs.length by rw [List.length_set]; exact hyl.out), hownz', hIz', hbz'⟩
                    case measure => simp [intOf]; omega
                  · have hIz' := Inv.drop (X := []) hIz
                    clear hIz hownz
                    go_wp2_with fail
                    go_roundw
                    case rel => exact ⟨i + 1, v1, v', v3, A0, A8, A2, A3, c0, c8, c2, c3, x0, x1 ++ xs, x2, x3, by go_num, by omega, by omega, by simp; omega, hIz', hbz⟩
                    case measure => simp [intOf]; omega
          · have hl := hInv.l2
            have hh := hInv.h2
            have hrow := hInv.row2
            dsimp only [rowVal] at hh
            cases S with
            | true =>
              go_wp2_with fail
              refine (refSum_any A2 _ c2 x2 _ rfl (by omega) (two_rd' hrow.1) hrow.2).mono ?_
              rintro e w6 ⟨rfl, hb6⟩
              have hdl := Lib.hid (digest_length x2)
              go_wp2_with (refine wpList_store_whl rfl 25 (.tmp 7) (.tmp 63) rfl w6.heap.size .u8 25 (List.replicate 32 0) (digest x2) rfl rfl (whl_new _ _ _ rfl) (by rw [hdl.out]; rfl) size_32u8 ?_; intro w7 hw7 hg7 hs7)
              have hbn : Below w6.heap.size w6 w7 := below_only ((Below.refl _ _).alloc (Nat.le_refl _) _) hg7 (by simp) (Nat.le_refl _)
              have hbel6 := hbel.trans (hb6.mono hbel.size)
              have hInv7 := (hInv.below hb6).guard (some w6.heap.size) (fun k hk => by injection hk with hk; subst hk; exact ⟨Nat.le_refl _, hw7.lt⟩) hbn hbel6.size
              rw [List.nil_append] at hInv7
              have hbel7 := hbel6.trans (hbn.mono hbel6.size)
              clear hInv hl hh hrow hb6 hg7 hs7 hbn hbel6 hbel
              generalize w6.heap.size = g7 at *
              have heq := neq_same (digest x2) hdl.out
              have hun := Try.underlying25
              have hsz : (Try.prog.info? 25).map (·.size) = some (ints .u8 (digest x2)).length := by rw [ints_length, hdl.out]; exact size_32u8
              have hl := hInv7.l2
              have hra : w7.rangeAt g7 0 (ints .u8 (digest x2)) := (Cut.of_blk hw7.blk).range
              go_region_held3 (fun w' => w'.cell? ⟨L, 2, none⟩ = some (.pointer (some ⟨g3, 0, none⟩)) ∧ w'.rangeAt g7 0 (ints .u8 (digest x2)))
                (first | exact ⟨hl, hra⟩ | exact ⟨hI.l2, ((Cut.of_blk hw7.blk).keep hsl (hsm 6 g7 rfl)).range⟩ | go_keep)
                (first | (go_at_call 18; refine (inv_sum_2 (w := w7.drew) hInv7 hbel7.size (by omega)).mono ?_; rintro e w8 ⟨rfl, hI, hsm, hb8⟩; have hsl := hb8.size))
              have hI8 := Inv.drop (X := []) hI
              have hbel8 : Below w.heap.size w w8 := (show Below w.heap.size w w7.drew from below_drewN hbel7 1).trans hb8
              clear hI hsm hb8 hsl hInv7 hbel7 hw7 hra hl hun hsz heq
              go_wp2_with fail
              go_roundw
              case rel => exact ⟨i + 1, v1, v2, v3, A0, A1, A2, A3, c0, c1, c2, c3, x0, x1, x2, x3, by go_num, by omega, by omega, by omega, hI8, hbel8⟩
              case measure => simp [intOf]; omega
            | false =>
              go_wp2_with fail
              refine (copyBytes_any A _ cr xs _ rfl (by omega) (y3.below hbel)).mono ?_
              rintro e w6 ⟨A5, c5, rfl, hown5, hb6⟩
              have hI6 := hInv.guard (Value.slice A5 xs.length c5).ownBlock (fun k hk => hown5.lt k hk) hb6 hbel.size
              rw [List.nil_append] at hI6
              have hbel6 := hbel.trans (hb6.mono hbel.size)
              have hoff := off_own hown5 (g := g3) fun k hk => (hI6.off k hk).2.2
              have q3 := (hbel6.cell (p := ⟨bb, o + i * 3 + 2, none⟩) hbb).trans h2
              replace hl := hI6.l2
              have hwc := hbel.size
              clear hInv hh hrow hb6 hbel q1 q2
              go_wp2_with fail
              refine (inv_write_2 hI6 hbel6.size A5 _ c5 xs rfl (two_rd' hown5) y4 hoff (by omega)).mono ?_
              rintro e w7 ⟨rfl, v', hI7, hsm7, hb7⟩
              have hown7 := own_keep hown5 fun k hk => hsm7 6 k (by rw [← hk]; rfl)
              have hbel7 := hbel6.trans hb7
              have q4 := (hbel7.cell (p := ⟨bb, o + i * 3 + 2, none⟩) hbb).trans h2
              have hh := hI7.h2
              have hrow := hI7.row2
              have hrx := y3.below hbel7
              dsimp only [rowVal] at hh
              clear hI6 hsm7 hb7 hbel6 hown5 q3 hl
              go_wp2_with fail
              have hrow' : w7.drew.ownsRow w.heap.size 5 1 (.slice A2 x2.length c2) x2.length (ints .u8 x2) := hrow.1
              have hrx' : Rd .u8 w7.drew A xs := hrx
              have hsz7 : w.heap.size ≤ w7.drew.heap.size := hbel7.size
              go_region_law (refine step_append_block (w := w7.drew) (by rfl) (.tmp 91) (.tmp 96) 22 (by rfl) w.heap.size 5 .u8 1 Try.underlying22 info_u8 (.slice A2 x2.length c2) x2.length x2 (by rfl) hrow' A xs.length cr xs (by rfl) rfl hrx' (by simp only [maxLen]; omega) (by omega) hsz7 ?_; intro A8 c8 w8 hown8 hgrow8 hblk8; have hc8 := (Inv.still2 (w := w7.drew) hI7 hgrow8).1; have hf8 := (Inv.still2 (w := w7.drew) hI7 hgrow8).2; dsimp only [rowVal] at hc8)
              all_goals
                have hput := Inv.put_2 (w := w7.drew) (r' := (A8, c8, x2 ++ xs)) hI7 hgrow8 (by dsimp only [rowVal]; rw [List.length_append]; exact hblk8) ⟨by dsimp only [rowVal]; rw [List.length_append]; exact hown8, hrow.2.append y4⟩ hsz7
                have hHl := hI7.hlt.1
                have hb8 := (below_drewN hbel7 1).grown hgrow8 hsz7 (fun k hk => (hrow'.lt k hk).1)
                have hb9 := below_only hb8 (only_set (only_refl w8 (some H)) (p := ⟨H, 2, none⟩) (.inl rfl) (.slice A8 (x2.length + xs.length) c8)) hb8.size hHl
                dsimp only [rowVal] at hput
                rw [List.length_append] at hput
                change Exit.then _ _ _ _ (w8.setCell ⟨H, 2, none⟩ (.slice A8 (x2.length + xs.length) c8))
                generalize w8.setCell ⟨H, 2, none⟩ (.slice A8 (x2.length + xs.length) c8) = w9 at *
                obtain ⟨hI9, hk9⟩ := hput
                have hown9 := own_keep hown7 fun k hk => (hk9 0 k (by rw [← hk]; rfl))
                have q9 := (hb9.cell (p := ⟨bb, o + i * 3 + 2, none⟩) hbb).trans h2
                have hry := y3.below hb9
                clear hk9 hb8 hc8 hf8 hblk8 hgrow8 hown8 hrow' hrx' hsz7 hrx hh hrow q4 hbel7 hown7 hI7 h2
                go_wp2_with fail
                refine (eqBytes_any A5 A _ _ c5 cr xs xs _ rfl rfl (two_rd' hown9) hry y4 y4).mono ?_
                rintro e w10 ⟨rfl, rfl⟩
                clear q9 hry
                go_wp2_with fail
                go_loopw [9] (fun s wz => ∃ (j : Nat) (ys : List Nat), s = .int .i64 (j : Int) ∧ j ≤ xs.length ∧ Hid (ys.length = xs.length) ∧ wz.ownsRow wc.heap.size 5 1 (.slice A5 xs.length c5) xs.length (ints .u8 ys) ∧ Inv w.heap.size g1 g2 g3 L H wz v1 v2 v' x0 x1 (x2 ++ xs) (A0, c0, x0) (A1, c1, x1) (A8, c8, x2 ++ xs) (A3, c3, x3) [(Value.slice A5 xs.length c5).ownBlock] ∧ Below w.heap.size w wz) (fun s _ => xs.length - (intOf s).toNat)
                case atStart => exact ⟨0, xs, rfl, Nat.zero_le _, rfl, hown9, hI9, hb9⟩
                case round =>
                  clear hown9 hI9 hb9
                  obtain ⟨j, ys, rfl, hj, hyl, hownz, hIz, hbz⟩ := hrel
                  by_cases hjl : j < xs.length
                  · obtain ⟨g, cap, he, hBg, hnc, hmx, hblk⟩ := row_blk hownz (by omega)
                    injection he with he _ he2
                    subst he
                    subst he2
                    obtain ⟨y, hy⟩ := get_of_lt (xs := ys) (i := j) (by rw [hyl.out]; exact hjl)
                    have hyc := hblk.cell hy
                    have hyf := hblk.frozen hy
                    have hownz' := own_set hownz j 92
                    have hgz : wr.grownBy (wr.setCell ⟨g, j, none⟩ (.int .u8 ((92 : Nat) : Int))) (Value.slice (some ⟨g, 0, none⟩) xs.length c5).ownBlock := only_set (only_refl wr (some g)) (p := ⟨g, j, none⟩) (.inl rfl) _
                    have hIz' := hIz.touch hgz hbz.size
                    have hbz' := hbz.grown hgz hbz.size (fun k hk => by injection hk with hk; subst hk; exact Nat.le_trans hwc hBg)
                    clear hIz hbz hgz hownz hblk hy
                    go_wp2_with fail
                    go_roundw
                    case rel => exact ⟨j + 1, ys.set j 92, by go_num, hjl, Lib.hid (show (ys.set j 92).length = xs.length by rw [List.length_set]; exact hyl.out), hownz', hIz', hbz'⟩
                    case measure => simp [intOf]; omega
                  · have hIz' := Inv.drop (X := []) hIz
                    clear hIz hownz
                    go_wp2_with fail
                    go_roundw
                    case rel => exact ⟨i + 1, v1, v2, v', A0, A1, A8, A3, c0, c1, c8, c3, x0, x1, x2 ++ xs, x3, by go_num, by omega, by omega, by simp; omega, hIz', hbz⟩
                    case measure => simp [intOf]; omega
          · have hl := hInv.l3
            have hh := hInv.h3
            have hrow := hInv.row3
            dsimp only [rowVal] at hh
            cases S with
            | true =>
              go_wp2_with fail
              refine (refSum_any A3 _ c3 x3 _ rfl (by omega) (two_rd' hrow.1) hrow.2).mono ?_
              rintro e w6 ⟨rfl, hb6⟩
              have hdl := Lib.hid (digest_length x3)
              obtain ⟨Z, hZ⟩ : ∃ Z : List Nat, List.replicate 32 0 = Z := ⟨_, rfl⟩
              have hZl := Lib.hid (show Z.length = 32 by rw [← hZ]; rfl)
              have hsn := Lib.hid (show ∀ w, Calls Try.prog 18 #[.pointer none] w (GivesArr .u8 Z w) by rw [← hZ]; exact sumNil_any)
              have hbu := Lib.hid (show Try.prog.built 25 [] = some (ints .u8 Z).toArray by rw [← hZ]; exact built_32)
              clear hZ
              go_wp2_with (first
                | (refine wpList_store_whl rfl 25 (.tmp 7) (.tmp 63) rfl w6.heap.size .u8 25 (List.replicate 32 0) (digest x3) rfl rfl (whl_new _ _ _ rfl) (by rw [hdl.out]; rfl) size_32u8 ?_; intro w7 hw7 hg7 hs7)
                | (refine wpList_build0 rfl 25 rfl _ hbu.out ?_)
                | (refine wpList_store_whl rfl 25 (.tmp 7) (.tmp 66) rfl w6.heap.size .u8 25 (digest x3) Z rfl rfl hw7 (by rw [hdl.out, hZl.out]) (by rw [hdl.out]; exact size_32u8) ?_; intro w8 hw8 hg8 hs8))
              have hbn7 : Below w6.heap.size w6 w7 := below_only ((Below.refl _ _).alloc (Nat.le_refl _) _) hg7 (by simp) (Nat.le_refl _)
              have hbn : Below w6.heap.size w6 w8 := below_only hbn7 hg8 hbn7.size (Nat.le_refl _)
              have hbel6 := hbel.trans (hb6.mono hbel.size)
              have hInv7 := (hInv.below hb6).guard (some w6.heap.size) (fun k hk => by injection hk with hk; subst hk; exact ⟨Nat.le_refl _, hw8.lt⟩) hbn hbel6.size
              rw [List.nil_append] at hInv7
              have hbel7 := hbel6.trans (hbn.mono hbel6.size)
              clear hInv hl hh hrow hb6 hg7 hs7 hg8 hs8 hw7 hbn7 hbn hbel6 hbel
              generalize w6.heap.size = g7 at *
              have heq := neq_same Z hZl.out
              have hun := Try.underlying25
              have hsz : (Try.prog.info? 25).map (·.size) = some (ints .u8 (Z)).length := by rw [ints_length, hZl.out]; exact size_32u8
              have hl := hInv7.l3
              have hra : w8.rangeAt g7 0 (ints .u8 (Z)) := (Cut.of_blk hw8.blk).range
              go_region_held3 (fun w' => w'.cell? ⟨L, 3, none⟩ = some (.pointer none) ∧ w'.rangeAt g7 0 (ints .u8 (Z)))
                (first | exact ⟨hl, hra⟩ | exact ⟨(Inv.below (w := w8.drew) hInv7 hbs).l3, (Cut.below (w := w8.drew) (Cut.of_blk hw8.blk) hbs).range⟩ | go_keep)
                (first | (go_at_call 18; refine (hsn.out _).mono ?_; rintro e w9 ⟨rfl, hbs⟩))
              have hI8 := Inv.below (w := w8.drew) hInv7 hbs
              replace hI8 := Inv.drop (X := []) hI8
              have hbel8 : Below w.heap.size w w9 := (below_drewN hbel7 1).trans (hbs.mono hbel7.size)
              clear hInv7 hbs hbel7 hw8 hra hl hun hsz heq
              go_wp2_with fail
              go_roundw
              case rel => exact ⟨i + 1, v1, v2, v3, A0, A1, A2, A3, c0, c1, c2, c3, x0, x1, x2, x3, by go_num, by omega, by omega, by omega, hI8, hbel8⟩
              case measure => simp [intOf]; omega
            | false =>
              go_wp2_with fail
              refine (copyBytes_any A _ cr xs _ rfl (by omega) (y3.below hbel)).mono ?_
              rintro e w6 ⟨A5, c5, rfl, hown5, hb6⟩
              have hI6 := hInv.guard (Value.slice A5 xs.length c5).ownBlock (fun k hk => hown5.lt k hk) hb6 hbel.size
              rw [List.nil_append] at hI6
              have hbel6 := hbel.trans (hb6.mono hbel.size)
              have q3 := (hbel6.cell (p := ⟨bb, o + i * 3 + 2, none⟩) hbb).trans h2
              replace hl := hI6.l3
              have hwc := hbel.size
              clear hInv hh hrow hb6 hbel q1 q2
              go_wp2_with fail
              refine (writeNil_any _ _).mono ?_
              rintro e w7 ⟨rfl, rfl⟩
              have hown6 := hown5
              have q4 := (hbel6.cell (p := ⟨bb, o + i * 3 + 2, none⟩) hbb).trans h2
              have hh := hI6.h3
              have hrow := hI6.row3
              have hrx := y3.below hbel6
              dsimp only [rowVal] at hh
              clear hown5 q3 hl
              go_wp2_with fail
              have hrow' : w6.drew.ownsRow w.heap.size 5 1 (.slice A3 x3.length c3) x3.length (ints .u8 x3) := hrow.1
              have hrx' : Rd .u8 w6.drew A xs := hrx
              have hsz6 : w.heap.size ≤ w6.drew.heap.size := hbel6.size
              go_region_law (refine step_append_block (w := w6.drew) (by rfl) (.tmp 91) (.tmp 96) 22 (by rfl) w.heap.size 5 .u8 1 Try.underlying22 info_u8 (.slice A3 x3.length c3) x3.length x3 (by rfl) hrow' A xs.length cr xs (by rfl) rfl hrx' (by simp only [maxLen]; omega) (by omega) hsz6 ?_; intro A8 c8 w8 hown8 hgrow8 hblk8; have hc8 := (Inv.still3 (w := w6.drew) hI6 hgrow8).1; have hf8 := (Inv.still3 (w := w6.drew) hI6 hgrow8).2; dsimp only [rowVal] at hc8)
              all_goals
                have hput := Inv.put_3 (w := w6.drew) (r' := (A8, c8, x3 ++ xs)) hI6 hgrow8 (by dsimp only [rowVal]; rw [List.length_append]; exact hblk8) ⟨by dsimp only [rowVal]; rw [List.length_append]; exact hown8, hrow.2.append y4⟩ hsz6
                have hHl := hI6.hlt.1
                have hb8 := (below_drewN hbel6 1).grown hgrow8 hsz6 (fun k hk => (hrow'.lt k hk).1)
                have hb9 := below_only hb8 (only_set (only_refl w8 (some H)) (p := ⟨H, 3, none⟩) (.inl rfl) (.slice A8 (x3.length + xs.length) c8)) hb8.size hHl
                dsimp only [rowVal] at hput
                rw [List.length_append] at hput
                change Exit.then _ _ _ _ (w8.setCell ⟨H, 3, none⟩ (.slice A8 (x3.length + xs.length) c8))
                generalize w8.setCell ⟨H, 3, none⟩ (.slice A8 (x3.length + xs.length) c8) = w9 at *
                obtain ⟨hI9, hk9⟩ := hput
                have hown9 := own_keep hown6 fun k hk => (hk9 0 k (by rw [← hk]; rfl))
                have q9 := (hb9.cell (p := ⟨bb, o + i * 3 + 2, none⟩) hbb).trans h2
                have hry := y3.below hb9
                clear hk9 hb8 hc8 hf8 hblk8 hgrow8 hown8 hrow' hrx' hsz6 hrx hh hrow q4 hbel6 hown6 hI6 h2
                go_wp2_with fail
                refine (eqBytes_any A5 A _ _ c5 cr xs xs _ rfl rfl (two_rd' hown9) hry y4 y4).mono ?_
                rintro e w10 ⟨rfl, rfl⟩
                clear q9 hry
                go_wp2_with fail
                go_loopw [9] (fun s wz => ∃ (j : Nat) (ys : List Nat), s = .int .i64 (j : Int) ∧ j ≤ xs.length ∧ Hid (ys.length = xs.length) ∧ wz.ownsRow wc.heap.size 5 1 (.slice A5 xs.length c5) xs.length (ints .u8 ys) ∧ Inv w.heap.size g1 g2 g3 L H wz v1 v2 v3 x0 x1 x2 (A0, c0, x0) (A1, c1, x1) (A2, c2, x2) (A8, c8, x3 ++ xs) [(Value.slice A5 xs.length c5).ownBlock] ∧ Below w.heap.size w wz) (fun s _ => xs.length - (intOf s).toNat)
                case atStart => exact ⟨0, xs, rfl, Nat.zero_le _, rfl, hown9, hI9, hb9⟩
                case round =>
                  clear hown9 hI9 hb9
                  obtain ⟨j, ys, rfl, hj, hyl, hownz, hIz, hbz⟩ := hrel
                  by_cases hjl : j < xs.length
                  · obtain ⟨g, cap, he, hBg, hnc, hmx, hblk⟩ := row_blk hownz (by omega)
                    injection he with he _ he2
                    subst he
                    subst he2
                    obtain ⟨y, hy⟩ := get_of_lt (xs := ys) (i := j) (by rw [hyl.out]; exact hjl)
                    have hyc := hblk.cell hy
                    have hyf := hblk.frozen hy
                    have hownz' := own_set hownz j 92
                    have hgz : wr.grownBy (wr.setCell ⟨g, j, none⟩ (.int .u8 ((92 : Nat) : Int))) (Value.slice (some ⟨g, 0, none⟩) xs.length c5).ownBlock := only_set (only_refl wr (some g)) (p := ⟨g, j, none⟩) (.inl rfl) _
                    have hIz' := hIz.touch hgz hbz.size
                    have hbz' := hbz.grown hgz hbz.size (fun k hk => by injection hk with hk; subst hk; exact Nat.le_trans hwc hBg)
                    clear hIz hbz hgz hownz hblk hy
                    go_wp2_with fail
                    go_roundw
                    case rel => exact ⟨j + 1, ys.set j 92, by go_num, hjl, Lib.hid (show (ys.set j 92).length = xs.length by rw [List.length_set]; exact hyl.out), hownz', hIz', hbz'⟩
                    case measure => simp [intOf]; omega
                  · have hIz' := Inv.drop (X := []) hIz
                    clear hIz hownz
                    go_wp2_with fail
                    go_roundw
                    case rel => exact ⟨i + 1, v1, v2, v3, A0, A1, A2, A8, c0, c1, c2, c8, x0, x1, x2, x3 ++ xs, by go_num, by omega, by omega, by simp; omega, hIz', hbz⟩
                    case measure => simp [intOf]; omega
      · go_wp2_with fail
        refine (shaWorks_any _).mono ?_
        rintro e w6 ⟨rfl, hb6⟩
        go_wp2_with fail
        go_ret
        exact ⟨rfl, hbel.trans (hb6.mono hbel.size)⟩
    · go_wp2_with fail
      all_goals refine (shaWorks_any _).mono ?_
      all_goals rintro e w6 ⟨rfl, hb6⟩
      all_goals go_wp2_with fail
      all_goals go_ret
      all_goals exact ⟨rfl, hbel.trans (hb6.mono hbel.size)⟩
end Go.Proofs.Ytmbkehmgpcmicaa
