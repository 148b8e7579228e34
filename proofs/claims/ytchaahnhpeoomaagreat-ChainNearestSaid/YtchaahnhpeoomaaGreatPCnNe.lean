/-
  The statement ChainNearest: of several that are trusted the nearest one is come to.
-/
import Derived.Test.YtchaahnhpeoomaaGreatPChY
namespace Go.Proofs.YtchaahnhpeoomaaGreat
set_option linter.unusedVariables false
set_option linter.unusedSimpArgs false
set_option maxRecDepth 20000
open Go.RowKit
theorem crs_take {W : World} {A : Option Addr} {cs : List Crt} {c k : Nat} (h : Crs W A cs) (hk : k ≤ cs.length) (hc : cs.length ≤ c) (hm : c ≤ 9223372036854775807) : ∃ A', (∀ (z : Int) (U : World), z = (k : Int) → (Instr.sliceAt 31 (.slice A cs.length c) none (some (.int .i64 z)) none).run Tryz.prog U = .ok (.slice A' k c) U) ∧ Crs W A' (cs.take k) := by
 have h1 : (0 : Int) ≤ (k : Int) := by omega
 have h3 : (k : Int) ≤ (c : Int) := by omega
 have h5 : (cs.length : Int) ≤ (c : Int) := by omega
 rcases h with rfl | ⟨g, o, rfl, R⟩
 ·obtain rfl : k = 0 := by simpa using hk
  refine ⟨if c = 0 then A else A.map (·.add (0 * 24)), fun z U hz => ?_, .inl rfl⟩
  subst hz
  go_simp
 ·refine ⟨some ⟨g, o, none⟩, fun z U hz => ?_, .inr ⟨g, o, rfl, R.1, fun i v hv => R.2 i v ?_⟩⟩
  ·subst hz
   have e : (⟨g, o, none⟩ : Addr).add (0 * 24) = ⟨g, o, none⟩ := by rw [addr_addO]; simp
   go_simp
  ·rw [← List.take_append_drop k cs, crtCells_append, List.getElem?_append_left (List.getElem?_eq_some_iff.1 hv).1]
   exact hv
theorem own_form {W : World} {B n size : Nat} {e : TypeId} {v : Value} {xs : List Value} (h : W.ownsRow B e size v n xs) : ∃ A c, v = .slice A n c ∧ n ≤ c ∧ c ≤ 9223372036854775807 ∧ (n = 0 ∨ ∃ g, A = some ⟨g, 0, none⟩ ∧ B ≤ g ∧ Row W g 0 xs) := by
 rcases h.2 with ⟨h1, h2⟩ | ⟨g, cap, cur, h1, hB, h3, h4, h5, h6, h7⟩
 ·subst h2
  exact ⟨none, 0, h1, Nat.le_refl _, Nat.zero_le _, .inl rfl⟩
 ·refine ⟨_, cap, h1, h4, h5, .inr ⟨g, rfl, hB, heap_lt h3, fun i u hu => ?_⟩⟩
  have hi : i < n * size := by rw [← h.1]; exact (List.getElem?_eq_some_iff.1 hu).1
  rw [← h7, List.getElem?_take_of_lt hi] at hu
  rw [Nat.zero_add]
  simp [World.cell?, h3, by simpa using hu]
theorem info_mat : (Tryz.prog.info? 22).map (fun i => (i.zero, i.size, i.bytes)) = some (some (.slice none 0 0), 1, 24) := by kernel_rfl
abbrev vals (ts : List Sl) : List Value := (ts.map fun s => [s.val]).flatten
theorem vals_one (ts : List Sl) : ∀ u ∈ vals ts, u.oneCell' = true := fun u hu => by
 simp only [vals, List.mem_flatten, List.mem_map] at hu
 obtain ⟨l, ⟨s, _, rfl⟩, h⟩ := hu
 rw [List.mem_singleton.1 h]
 rfl
abbrev RIn := Nat × Nat × Int × Int × Bool × Bool × Nat
def rowN (x : RIn) : Nat := 2 + x.1 % 9
def rowA (x : RIn) : Nat := x.2.1 % rowN x
def rowP (x : RIn) : Int := max (-1) (min x.2.2.1 255)
def rowU (x : RIn) : Int := max (-1) (min x.2.2.2.1 511)
def rowT (x : RIn) (i : Nat) : Rung := ⟨[97 + i], 0, !x.2.2.2.2.1, true, if x.2.2.2.2.1 then -1 else rowP x, if rowU x = 0 then -1 else rowU x⟩
def rowR (x : RIn) (i : Nat) : Rung := if i = rowA x then rowT x i else plainOf (97 + i)
def rowL (x : RIn) : List Rung := (List.range (rowN x)).map (rowR x)
def rowK (x : RIn) (i : Nat) : Nat := if x.2.2.2.2.2.1 then rowN x - 2 - (i + x.2.2.2.2.2.2) % (rowN x - 1) else (i + x.2.2.2.2.2.2) % (rowN x - 1)
def rowPool (x : RIn) (cs : List Crt) (lf : Crt) (m : Nat) : List Crt := (List.range m).map fun i => cAt cs lf (1 + rowK x i)
theorem zero_rung : (Tryz.prog.info? 125).map (fun i => i.zero) = some (some (.agg (Rung.cells ⟨[], 0, false, false, 0, 0⟩).toArray)) := by kernel_rfl
theorem rungR_one (r : Rung) : ∀ u ∈ r.cells, u.oneCell' = true := fun u hu => by
 simp only [Rung.cells, List.mem_cons, List.not_mem_nil, or_false] at hu
 rcases hu with rfl | rfl | rfl | rfl | rfl | rfl <;> rfl
theorem sz_rungR (r : Rung) : (Tryz.prog.info? 125).map (·.size) = some r.cells.length := by show _ = some 6; kernel_rfl
def LadOf (l : List Rung) : Prop := ∀ (gl ol lc : Nat) (A kA : Option Addr) (w : World), A = some ⟨gl, ol, none⟩ → Row w gl ol (rungCells l) → Sl.ok w ⟨kA, 1, [1]⟩ → Calls Tryz.prog 68 #[.slice A l.length lc, .agg [.slice kA 1 1, .int .u64 3].toArray] w (LadPost l kA [1] 3 w)
def MadeP (x : RIn) (w : World) (e : Ending) (w' : World) : Prop := ∃ (cs : List Crt) (lf : Crt) (A A' : Option Addr) (c c' : Nat), e = .returned (.tuple #[.slice A cs.length c, .slice A' (rowPool x cs lf (rowN x - 1)).length c']) ∧ cs[0]? = some lf ∧ cs.length = rowN x ∧ cs.length ≤ c ∧ c ≤ maxLen ∧ (rowPool x cs lf (rowN x - 1)).length ≤ c' ∧ c' ≤ maxLen ∧
 Crs w' A cs ∧ Crs w' A' (rowPool x cs lf (rowN x - 1)) ∧ cs.map Crt.say = ladderB (rowL x) [1] 3 ∧ (∀ c ∈ cs, c.ok w') ∧ Below w.heap.size w w'
set_option maxRecDepth 100000 in
set_option maxHeartbeats 12800000 in
theorem row_made (x : RIn) (w : World) (q : QRow w x) (HL : LadOf (rowL x)) : Calls Tryz.prog 43 #[.agg (CRow x).toArray] w (MadeP x w) := by
 obtain ⟨L0, hL0⟩ : ∃ L, L = CRow x := ⟨_, rfl⟩
 rw [← hL0]
 obtain ⟨hN, hA, ⟨hP1, hP2⟩, ⟨hU1, hU2⟩, hY⟩ := q
 obtain ⟨g0, hg0⟩ : ∃ g, g = w.heap.size := ⟨_, rfl⟩
 obtain ⟨w0, hw0⟩ : ∃ u, u = w.alloc (.cells L0.toArray 87) := ⟨_, rfl⟩
 have hE : Below w.heap.size w w0 := by rw [hw0]; exact (Below.refl _ _).alloc (Nat.le_refl _) _
 have B0 : Row w0 g0 0 L0 := by rw [hw0, hg0]; exact row_new _
 replace hL0 := Lib.hid hL0
 go_enter Tryz.func43, Tryz.ntmps43
 go_upto_region 1 with fail
 refine wp_world hw0 ?_
 rw [← hg0]
 clear hw0
 replace hg0 := Lib.hid hg0
 rw [hL0.out] at B0
 obtain ⟨xN, hxN⟩ : ∃ a, a = x.1 := ⟨_, rfl⟩
 obtain ⟨xA, hxA⟩ : ∃ a, a = x.2.1 := ⟨_, rfl⟩
 obtain ⟨xP, hxP⟩ : ∃ a, a = x.2.2.1 := ⟨_, rfl⟩
 obtain ⟨xU, hxU⟩ : ∃ a, a = x.2.2.2.1 := ⟨_, rfl⟩
 obtain ⟨xC, hxC⟩ : ∃ a, a = x.2.2.2.2.1 := ⟨_, rfl⟩
 obtain ⟨xB, hxB⟩ : ∃ a, a = x.2.2.2.2.2.1 := ⟨_, rfl⟩
 obtain ⟨xY, hxY⟩ : ∃ a, a = x.2.2.2.2.2.2 := ⟨_, rfl⟩
 have B1 : Row w0 g0 0 [.int .u8 (xN : Int), .int .u8 (xA : Int), .int .i64 xP, .int .i64 xU, .bool xC, .bool xB, .int .u8 (xY : Int)] := by rw [hxN, hxA, hxP, hxU, hxC, hxB, hxY]; exact B0
 clear B0
 have hg0B0 := B1.1
 rw [← hxN] at hN
 rw [← hxA] at hA
 rw [← hxP] at hP1 hP2
 rw [← hxU] at hU1 hU2
 rw [← hxY] at hY
 have kN : w0.cell? ⟨g0, 0, none⟩ = some (.int .u8 (xN : Int)) := B1.cell (i := 0) rfl
 have kA : w0.cell? ⟨g0, 1, none⟩ = some (.int .u8 (xA : Int)) := B1.cell (i := 1) rfl
 have kP : w0.cell? ⟨g0, 2, none⟩ = some (.int .i64 xP) := B1.cell (i := 2) rfl
 have kU : w0.cell? ⟨g0, 3, none⟩ = some (.int .i64 xU) := B1.cell (i := 3) rfl
 have kC : w0.cell? ⟨g0, 4, none⟩ = some (.bool xC) := B1.cell (i := 4) rfl
 have kB : w0.cell? ⟨g0, 5, none⟩ = some (.bool xB) := B1.cell (i := 5) rfl
 have kY : w0.cell? ⟨g0, 6, none⟩ = some (.int .u8 (xY : Int)) := B1.cell (i := 6) rfl
 clear hL0
 obtain ⟨n, hn⟩ : ∃ n, n = rowN x := ⟨_, rfl⟩
 have hn' : n = 2 + xN % 9 := by rw [hn, hxN]; rfl
 have zn : 2 + (xN : Int) % 9 = (n : Int) := by omega
 obtain ⟨a0, ha0⟩ : ∃ n, n = rowA x := ⟨_, rfl⟩
 have ha' : a0 = xA % n := by rw [ha0, hn, hxA]; rfl
 have n2 : (2 : Int) ≤ (n : Int) := by omega
 have n10 : (n : Int) ≤ 10 := by omega
 obtain ⟨B, hB⟩ : ∃ B, B = w0.heap.size := ⟨_, rfl⟩
 have hg0B : g0 < B := by rw [hB]; exact hg0B0
 have o0 : w0.ownsRow B 125 6 (.slice none 0 0) 0 (rungCells []) := World.ownsRow_nil w0 B 125 6
 have eB : Below B w0 w0 := Below.refl _ _
 replace hB := Lib.hid hB
 replace hxN := Lib.hid hxN
 replace hxA := Lib.hid hxA
 replace hxP := Lib.hid hxP
 replace hxU := Lib.hid hxU
 replace hxC := Lib.hid hxC
 replace hxB := Lib.hid hxB
 replace hxY := Lib.hid hxY
 replace hn := Lib.hid hn
 replace hn' := Lib.hid hn'
 replace ha0 := Lib.hid ha0
 replace ha' := Lib.hid ha'
 go_upto_region 4 with fail
 clear zn
 go_loopw [4, 6, 7] (fun t4 t6 t7 wr => ∃ i : Nat, t6 = .int .i64 (i : Int) ∧ i ≤ n ∧ wr.ownsRow B 125 6 t4 i (rungCells ((List.range i).map (rowR x))) ∧ Below B w0 wr) (fun _ t _ _ => n - (intOf t).toNat)
 case atStart => exact ⟨0, rfl, Nat.zero_le _, o0, eB⟩
 case round =>
  obtain ⟨i, rfl, hi, own, er⟩ := hrel
  have z1 : (i : Int) ≤ 10 := by omega
  by_cases hlt : i < n
  ·have z2 : (i : Int) < (n : Int) := by omega
   have hsz : B ≤ wr.heap.size := by rw [hB.out]; exact er.size
   obtain ⟨ch, hch⟩ : ∃ c, c = 97 + i := ⟨_, rfl⟩
   have zch : 97 + (i : Int) = (ch : Int) := by omega
   have zch2 : (ch : Int) < 256 := by omega
   replace hch := Lib.hid hch
   obtain ⟨u0, hu0⟩ : ∃ u, u = wr.alloc (.cells #[.int .u8 (ch : Int)] 5) := ⟨_, rfl⟩
   have rd0 : Rd .u8 u0 (some ⟨wr.heap.size, 0, none⟩) [ch] := by rw [hu0]; exact Rd.of_all (blk_lit wr _ _ (by simp [ints]))
   have e0 : Below wr.heap.size wr u0 := by rw [hu0]; exact (Below.refl _ _).alloc (Nat.le_refl _) _
   have hcv := conv_str (some ⟨wr.heap.size, 0, none⟩) 1 1 [ch] u0 rfl rd0
   rw [hu0] at hcv
   go_wp2_with fail
   rw [← hu0]
   refine (plain_any [ch] u0).mono ?_
   rintro e1 u1 ⟨rfl, b1⟩
   have f1 := e0.trans (b1.mono e0.size)
   clear hcv rd0 e0 b1 hu0
   go_upto_region 7 with (first
    | ((with_reducible refine wpList_alloc_row ?_ 125 ?_ (Rung.cells ⟨[], 0, false, false, 0, 0⟩) zero_rung ?_); (· rfl); (· rfl); intro g7 u2 hg7 V7 z7 e7)
    | ((with_reducible refine wpList_store_cut ?_ 125 (.tmp 7) (.tmp 27) ?_ g7 0 (Rung.cells ⟨[ch], 0, true, true, -1, -1⟩) _ ?_ ?_ V7 ?_ (sz_rungR _) (rungR_one _) ?_); (· rfl); (· rfl); (· rfl); (· rfl); (· rfl); intro w7 hst7))
   have e27 : Below wr.heap.size wr w7 := by
    refine below_only (f1.trans (e7.mono f1.size)) hst7.1 (f1.trans (e7.mono f1.size)).size ?_
    rw [hg7.out]
    exact f1.size
   have D7 : Cut w7 g7 0 (Rung.cells ⟨[ch], 0, true, true, -1, -1⟩) := hst7.2.2.1
   have hg7r : wr.heap.size ≤ g7 := by rw [hg7.out]; exact f1.size
   clear f1 e7 V7 z7 hst7 hg7
   have eW : Below B w0 w7 := er.trans (e27.mono hsz)
   have hg07 : g0 ≠ g7 := by omega
   have cell7 : ∀ U, Below wr.heap.size wr U → ∀ (j : Nat) (v : Value), w0.cell? ⟨g0, j, none⟩ = some v → U.cell? ⟨g0, j, none⟩ = some v := fun U h j v hv => ((er.trans (h.mono hsz)).cell (p := ⟨g0, j, none⟩) hg0B).trans hv
   have r1 : (xA : Int) % (n : Int) = (a0 : Int) := by rw [ha'.out]; norm_cast
   have r2 : (xA : Int).tmod (n : Int) = (a0 : Int) := by rw [Int.tmod_eq_emod_of_nonneg (by omega)]; exact r1
   have ha0n : a0 < n := by rw [ha'.out]; exact Nat.mod_lt _ (by omega)
   have kA7 := cell7 w7 e27 1 _ kA
   have nz : ¬ n = 0 := by omega
   replace r1 := Lib.hid r1
   go_frame
   go_upto_if 34 with fail
   go_cut [] from 17 to 59 (fun wx => Cut wx g7 0 (rowR x i).cells ∧ Below wr.heap.size wr wx)
   case first =>
    by_cases hia : i = a0
    case neg =>
     have zia : ¬ (i : Int) = (a0 : Int) := by omega
     go_wp2_with fail
     go_meet
     case rel => exact ⟨by unfold rowR; rw [if_neg (by rw [← ha0.out]; exact hia), ← hch.out]; exact D7, e27⟩
    case pos =>
     have zia : (i : Int) = (a0 : Int) := by omega
     have kP7 := cell7 w7 e27 2 _ kP
     have kU7 := cell7 w7 e27 3 _ kU
     have kC7 := cell7 w7 e27 4 _ kC
     obtain ⟨p1, hp1⟩ : ∃ p, p = max (-1) (min xP 255) := ⟨_, rfl⟩
     obtain ⟨u1, hu1⟩ : ∃ p, p = max (-1) (min xU 511) := ⟨_, rfl⟩
     have zp1 := hp1.symm
     have zu1 := hu1.symm
     replace hp1 := Lib.hid hp1
     replace hu1 := Lib.hid hu1
     have kc : w7.cell? ⟨g7, 4, none⟩ = some (.int .i64 (-1)) := by have q := D7.cell (i := 4) (v := .int .i64 (-1)) rfl; rwa [Nat.zero_add] at q
     have kf : w7.frozen? ⟨g7, 4, none⟩ = false := by have q := D7.frozen (i := 4) (v := .int .i64 (-1)) rfl; rwa [Nat.zero_add] at q
     go_upto_region 9 with fail
     obtain ⟨x1, hx1⟩ : ∃ u, u = w7.setCell ⟨g7, 4, none⟩ (.int .i64 p1) := ⟨_, rfl⟩
     have E1 : Cut x1 g7 0 [.string (bstr [ch]), .int .u8 ((0 : Nat) : Int), .bool true, .bool true, .int .i64 p1, .int .i64 (-1)] := by rw [hx1]; have q := D7.set (i := 4) rfl (.int .i64 p1); rw [Nat.zero_add] at q; exact q
     have y1 : Below wr.heap.size wr x1 := by rw [hx1]; exact e27.setCell (p := ⟨g7, 4, none⟩) (by show _ ≤ g7; exact hg7r) _
     refine wp_world hx1 ?_
     clear hx1 kc kf
     have kU8 := cell7 x1 y1 3 _ kU
     have kc : x1.cell? ⟨g7, 5, none⟩ = some (.int .i64 (-1)) := by have q := E1.cell (i := 5) (v := .int .i64 (-1)) rfl; rwa [Nat.zero_add] at q
     have kf : x1.frozen? ⟨g7, 5, none⟩ = false := by have q := E1.frozen (i := 5) (v := .int .i64 (-1)) rfl; rwa [Nat.zero_add] at q
     go_upto_region 10 with fail
     obtain ⟨x2, hx2⟩ : ∃ u, u = x1.setCell ⟨g7, 5, none⟩ (.int .i64 u1) := ⟨_, rfl⟩
     have E2 : Cut x2 g7 0 [.string (bstr [ch]), .int .u8 ((0 : Nat) : Int), .bool true, .bool true, .int .i64 p1, .int .i64 u1] := by rw [hx2]; have q := E1.set (i := 5) rfl (.int .i64 u1); rw [Nat.zero_add] at q; exact q
     have y2 : Below wr.heap.size wr x2 := by rw [hx2]; exact y1.setCell (p := ⟨g7, 5, none⟩) (by show _ ≤ g7; exact hg7r) _
     refine wp_world hx2 ?_
     clear hx2 kc kf
     have kv : x2.cell? ⟨g7, 5, none⟩ = some (.int .i64 u1) := by have q := E2.cell (i := 5) (v := .int .i64 u1) rfl; rwa [Nat.zero_add] at q
     by_cases hu0 : u1 = 0
     case neg =>
      cases xC
      case false =>
       have kC8 := cell7 x2 y2 4 _ kC
       have kc : x2.cell? ⟨g7, 2, none⟩ = some (.bool true) := by have q := E2.cell (i := 2) (v := .bool true) rfl; rwa [Nat.zero_add] at q
       have kf : x2.frozen? ⟨g7, 2, none⟩ = false := by have q := E2.frozen (i := 2) (v := .bool true) rfl; rwa [Nat.zero_add] at q
       go_upto_region 13 with fail
       obtain ⟨x3, hx3⟩ : ∃ u, u = x2.setCell ⟨g7, 2, none⟩ (.bool true) := ⟨_, rfl⟩
       have E3 : Cut x3 g7 0 [.string (bstr [ch]), .int .u8 ((0 : Nat) : Int), .bool true, .bool true, .int .i64 p1, .int .i64 u1] := by rw [hx3]; have q := E2.set (i := 2) rfl (.bool true); rw [Nat.zero_add] at q; exact q
       have y3 : Below wr.heap.size wr x3 := by rw [hx3]; exact y2.setCell (p := ⟨g7, 2, none⟩) (by show _ ≤ g7; exact hg7r) _
       refine wp_world hx3 ?_
       clear hx3 kc kf
       have kC9 := cell7 x3 y3 4 _ kC
       go_wp2_with fail
       go_meet
       case rel => exact ⟨by
        have h1 : rowR x i = rowT x i := by unfold rowR; rw [if_pos (by rw [← ha0.out]; exact hia)]
        rw [h1]
        unfold rowT
        rw [← hxC.out, show rowP x = p1 by unfold rowP; rw [← hxP.out]; exact zp1, show rowU x = u1 by unfold rowU; rw [← hxU.out]; exact zu1, ← hch.out, if_neg hu0]
        exact E3, y3⟩
      case true =>
       have kC8 := cell7 x2 y2 4 _ kC
       have kc : x2.cell? ⟨g7, 2, none⟩ = some (.bool true) := by have q := E2.cell (i := 2) (v := .bool true) rfl; rwa [Nat.zero_add] at q
       have kf : x2.frozen? ⟨g7, 2, none⟩ = false := by have q := E2.frozen (i := 2) (v := .bool true) rfl; rwa [Nat.zero_add] at q
       go_upto_region 13 with fail
       obtain ⟨x4, hx4⟩ : ∃ u, u = x2.setCell ⟨g7, 2, none⟩ (.bool false) := ⟨_, rfl⟩
       have E4 : Cut x4 g7 0 [.string (bstr [ch]), .int .u8 ((0 : Nat) : Int), .bool false, .bool true, .int .i64 p1, .int .i64 u1] := by rw [hx4]; have q := E2.set (i := 2) rfl (.bool false); rw [Nat.zero_add] at q; exact q
       have y4 : Below wr.heap.size wr x4 := by rw [hx4]; exact y2.setCell (p := ⟨g7, 2, none⟩) (by show _ ≤ g7; exact hg7r) _
       refine wp_world hx4 ?_
       clear hx4 kc kf
       have kC9 := cell7 x4 y4 4 _ kC
       have kc : x4.cell? ⟨g7, 4, none⟩ = some (.int .i64 p1) := by have q := E4.cell (i := 4) (v := .int .i64 p1) rfl; rwa [Nat.zero_add] at q
       have kf : x4.frozen? ⟨g7, 4, none⟩ = false := by have q := E4.frozen (i := 4) (v := .int .i64 p1) rfl; rwa [Nat.zero_add] at q
       go_wp2_with fail
       have E9 : Cut (x4.setCell ⟨g7, 4, none⟩ (.int .i64 (-1))) g7 0 [.string (bstr [ch]), .int .u8 ((0 : Nat) : Int), .bool false, .bool true, .int .i64 (-1), .int .i64 u1] := by have q := E4.set (i := 4) rfl (.int .i64 (-1)); rw [Nat.zero_add] at q; exact q
       have y9 : Below wr.heap.size wr (x4.setCell ⟨g7, 4, none⟩ (.int .i64 (-1))) := y4.setCell (p := ⟨g7, 4, none⟩) (by show _ ≤ g7; exact hg7r) _
       go_meet
       case rel => exact ⟨by
        have h1 : rowR x i = rowT x i := by unfold rowR; rw [if_pos (by rw [← ha0.out]; exact hia)]
        rw [h1]
        unfold rowT
        rw [← hxC.out, show rowP x = p1 by unfold rowP; rw [← hxP.out]; exact zp1, show rowU x = u1 by unfold rowU; rw [← hxU.out]; exact zu1, ← hch.out, if_neg hu0]
        exact E9, y9⟩
     case pos =>
      have kf : x2.frozen? ⟨g7, 5, none⟩ = false := by have q := E2.frozen (i := 5) (v := .int .i64 u1) rfl; rwa [Nat.zero_add] at q
      clear kf
      have kc : x2.cell? ⟨g7, 5, none⟩ = some (.int .i64 u1) := by have q := E2.cell (i := 5) (v := .int .i64 u1) rfl; rwa [Nat.zero_add] at q
      have kf : x2.frozen? ⟨g7, 5, none⟩ = false := by have q := E2.frozen (i := 5) (v := .int .i64 u1) rfl; rwa [Nat.zero_add] at q
      go_upto_region 12 with fail
      obtain ⟨x5, hx5⟩ : ∃ u, u = x2.setCell ⟨g7, 5, none⟩ (.int .i64 (-1)) := ⟨_, rfl⟩
      have E5 : Cut x5 g7 0 [.string (bstr [ch]), .int .u8 ((0 : Nat) : Int), .bool true, .bool true, .int .i64 p1, .int .i64 (-1)] := by rw [hx5]; have q := E2.set (i := 5) rfl (.int .i64 (-1)); rw [Nat.zero_add] at q; exact q
      have y5 : Below wr.heap.size wr x5 := by rw [hx5]; exact y2.setCell (p := ⟨g7, 5, none⟩) (by show _ ≤ g7; exact hg7r) _
      refine wp_world hx5 ?_
      clear hx5 kc kf
      cases xC
      case false =>
       have kC8 := cell7 x5 y5 4 _ kC
       have kc : x5.cell? ⟨g7, 2, none⟩ = some (.bool true) := by have q := E5.cell (i := 2) (v := .bool true) rfl; rwa [Nat.zero_add] at q
       have kf : x5.frozen? ⟨g7, 2, none⟩ = false := by have q := E5.frozen (i := 2) (v := .bool true) rfl; rwa [Nat.zero_add] at q
       go_upto_region 13 with fail
       obtain ⟨x6, hx6⟩ : ∃ u, u = x5.setCell ⟨g7, 2, none⟩ (.bool true) := ⟨_, rfl⟩
       have E6 : Cut x6 g7 0 [.string (bstr [ch]), .int .u8 ((0 : Nat) : Int), .bool true, .bool true, .int .i64 p1, .int .i64 (-1)] := by rw [hx6]; have q := E5.set (i := 2) rfl (.bool true); rw [Nat.zero_add] at q; exact q
       have y6 : Below wr.heap.size wr x6 := by rw [hx6]; exact y5.setCell (p := ⟨g7, 2, none⟩) (by show _ ≤ g7; exact hg7r) _
       refine wp_world hx6 ?_
       clear hx6 kc kf
       have kC9 := cell7 x6 y6 4 _ kC
       go_wp2_with fail
       go_meet
       case rel => exact ⟨by
        have h1 : rowR x i = rowT x i := by unfold rowR; rw [if_pos (by rw [← ha0.out]; exact hia)]
        rw [h1]
        unfold rowT
        rw [← hxC.out, show rowP x = p1 by unfold rowP; rw [← hxP.out]; exact zp1, show rowU x = u1 by unfold rowU; rw [← hxU.out]; exact zu1, ← hch.out, if_pos hu0]
        exact E6, y6⟩
      case true =>
       have kC8 := cell7 x5 y5 4 _ kC
       have kc : x5.cell? ⟨g7, 2, none⟩ = some (.bool true) := by have q := E5.cell (i := 2) (v := .bool true) rfl; rwa [Nat.zero_add] at q
       have kf : x5.frozen? ⟨g7, 2, none⟩ = false := by have q := E5.frozen (i := 2) (v := .bool true) rfl; rwa [Nat.zero_add] at q
       go_upto_region 13 with fail
       obtain ⟨x7, hx7⟩ : ∃ u, u = x5.setCell ⟨g7, 2, none⟩ (.bool false) := ⟨_, rfl⟩
       have E7 : Cut x7 g7 0 [.string (bstr [ch]), .int .u8 ((0 : Nat) : Int), .bool false, .bool true, .int .i64 p1, .int .i64 (-1)] := by rw [hx7]; have q := E5.set (i := 2) rfl (.bool false); rw [Nat.zero_add] at q; exact q
       have y7 : Below wr.heap.size wr x7 := by rw [hx7]; exact y5.setCell (p := ⟨g7, 2, none⟩) (by show _ ≤ g7; exact hg7r) _
       refine wp_world hx7 ?_
       clear hx7 kc kf
       have kC9 := cell7 x7 y7 4 _ kC
       have kc : x7.cell? ⟨g7, 4, none⟩ = some (.int .i64 p1) := by have q := E7.cell (i := 4) (v := .int .i64 p1) rfl; rwa [Nat.zero_add] at q
       have kf : x7.frozen? ⟨g7, 4, none⟩ = false := by have q := E7.frozen (i := 4) (v := .int .i64 p1) rfl; rwa [Nat.zero_add] at q
       go_wp2_with fail
       have E9 : Cut (x7.setCell ⟨g7, 4, none⟩ (.int .i64 (-1))) g7 0 [.string (bstr [ch]), .int .u8 ((0 : Nat) : Int), .bool false, .bool true, .int .i64 (-1), .int .i64 (-1)] := by have q := E7.set (i := 4) rfl (.int .i64 (-1)); rw [Nat.zero_add] at q; exact q
       have y9 : Below wr.heap.size wr (x7.setCell ⟨g7, 4, none⟩ (.int .i64 (-1))) := y7.setCell (p := ⟨g7, 4, none⟩) (by show _ ≤ g7; exact hg7r) _
       go_meet
       case rel => exact ⟨by
        have h1 : rowR x i = rowT x i := by unfold rowR; rw [if_pos (by rw [← ha0.out]; exact hia)]
        rw [h1]
        unfold rowT
        rw [← hxC.out, show rowP x = p1 by unfold rowP; rw [← hxP.out]; exact zp1, show rowU x = u1 by unfold rowU; rw [← hxU.out]; exact zu1, ← hch.out, if_pos hu0]
        exact E9, y9⟩
   case rest =>
    obtain ⟨C8, e8⟩ := hcut
    have R8 := Row.of_cut C8
    clear C8 kA7 D7 e27 cell7 eW
    have e9 : Below wc.heap.size wc (wc.alloc (.cells (rowR x i).cells.toArray 125)) := (Below.refl _ _).alloc (Nat.le_refl _) _
    have own9 := row_below (row_below own e8) e9
    have hs9 : B ≤ (wc.alloc (.cells (rowR x i).cells.toArray 125)).heap.size := Nat.le_trans (Nat.le_trans hsz e8.size) e9.size
    go_wp2_with (first
     | ((with_reducible refine wpList_load_mid ?_ 125 (.tmp 7) ?_ g7 0 ?_ (rowR x i).cells _ R8.rng Tryz.underlying125 ?_ (sz_rungR _) ?_); (· rfl); (· rfl); (· rfl); (· rfl))
     | (refine wpList_build_rung rfl (.tmp 57) rfl (rowR x i) rfl ?_)
     | (at_builtin; refine wpList_append_R rfl (.tmp 56) (.tmp 58) 123 rfl B 125 (.agg #[.string ⟨#[]⟩, .int .u8 0, .bool false, .bool false, .int .i64 0, .int .i64 0]) 6 40 Tryz.underlying123 info_rung rfl (by decide) u4 i (rungCells ((List.range i).map (rowR x))) rfl own9 (some ⟨wc.heap.size, 0, none⟩) 1 1 (rowR x i).cells rfl rfl (.inr ⟨wc.heap.size, 0, rfl, row_new _⟩) (rungR_one _) (by omega) (by decide) hs9 ?_; intro v10 w10 o10 gr10))
    have e10 : Below B w0 w10 := ((er.trans (e8.mono hsz)).trans (e9.mono (Nat.le_trans hsz e8.size))).grown gr10 hs9 (fun j hj => (own9.lt j hj).1)
    have o10' : w10.ownsRow B 125 6 v10 (i + 1) (rungCells ((List.range (i + 1)).map (rowR x))) := by
     rw [List.range_succ, List.map_append, List.map_cons, List.map_nil, rungCells_snoc]
     exact o10
    go_roundw
    case rel => exact ⟨i + 1, by go_num, by omega, o10', e10⟩
    case measure =>
     simp [intOf]
     omega
  ·have z2 : ¬ (i : Int) < (n : Int) := by omega
   obtain rfl : i = n := by omega
   obtain ⟨A4, c4, rfl, n4, m4, F4⟩ := own_form own
   obtain ⟨g4, rfl, hg4, R4⟩ := F4.resolve_left (by omega)
   clear own F4 z1 z2
   have hlL : (rowL x).length = i := by unfold rowL; rw [List.length_map, List.length_range]; exact hn.out.symm
   replace R4 : Row wr g4 0 (rungCells (rowL x)) := by
    have e : rowL x = (List.range i).map (rowR x) := by unfold rowL; rw [← hn.out]
    rw [e]
    exact R4
   go_upto_region 16 with fail
   obtain ⟨wk, hwk⟩ : ∃ u, u = wr.alloc (.cells #[.int .u8 1] 5) := ⟨_, rfl⟩
   have rk : Sl.ok wk ⟨some ⟨wr.heap.size, 0, none⟩, 1, [1]⟩ := by rw [hwk]; exact rd_1 wr
   have ek : Below wr.heap.size wr wk := by rw [hwk]; exact (Below.refl _ _).alloc (Nat.le_refl _) _
   have hq := HL g4 0 c4 (some ⟨g4, 0, none⟩) (some ⟨wr.heap.size, 0, none⟩) wk rfl (R4.below ek) rk
   rw [hlL] at hq
   go_wp2_with fail
   rw [← hwk]
   refine Calls.mono hq ?_
   clear hq rk R4 hwk
   rintro e6 w6 ⟨cs, v, rfl, own, hl, hsay, hok, -, b6⟩
   rw [hlL] at hl
   have hsz : B ≤ wk.heap.size := by rw [hB.out]; exact Nat.le_trans er.size ek.size
   replace er := (er.trans (ek.mono (by rw [hB.out]; exact er.size))).trans (b6.mono hsz)
   clear ek b6 hsz
   obtain ⟨A5, c5, rfl, n5, m5, C5⟩ := own_crs (by rw [hlL, hl]) own
   clear own
   obtain ⟨g5, o5, rfl, R5⟩ := C5.resolve_left (by rintro rfl; simp at hl; omega)
   obtain ⟨lf, hlf⟩ : ∃ c, cs[0]? = some c := ⟨_, List.getElem?_eq_getElem (by omega)⟩
   obtain ⟨B3, hB3⟩ : ∃ b, b = w6.heap.size := ⟨_, rfl⟩
   have o6 : w6.ownsRow B3 30 24 (.slice none 0 0) 0 (crtCells []) := World.ownsRow_nil w6 B3 30 24
   have e6 : Below B3 w6 w6 := Below.refl _ _
   replace hB3 := Lib.hid hB3
   replace hlL := Lib.hid hlL
   replace hl := Lib.hid hl
   go_upto_region 19 with fail
   go_loopw [9, 10, 11] (fun t9 t10 t11 wr => ∃ j : Nat, t10 = .int .i64 (j : Int) ∧ j ≤ i - 1 ∧ wr.ownsRow B3 30 24 t9 j (crtCells (rowPool x cs lf j)) ∧ Below B3 w6 wr) (fun _ t _ _ => i - 1 - (intOf t).toNat)
   case atStart => exact ⟨0, rfl, Nat.zero_le _, o6, e6⟩
   case round =>
    obtain ⟨j, rfl, hj, own, ez⟩ := hrel
    have z1 : (j : Int) ≤ 10 := by omega
    have ex : Below B w0 wr := er.trans (ez.mono (by rw [hB.out, hB3.out]; exact er.size))
    by_cases hlt : j < i - 1
    ·have z2 : (j : Int) < (i : Int) - 1 := by omega
     have cellx : ∀ (k : Nat) (v : Value), w0.cell? ⟨g0, k, none⟩ = some v → wr.cell? ⟨g0, k, none⟩ = some v := fun k v hv => (ex.cell (p := ⟨g0, k, none⟩) hg0B).trans hv
     have kYx := cellx 6 _ kY
     have kBx := cellx 5 _ kB
     obtain ⟨k0, hk0⟩ : ∃ k, k = (j + xY) % (i - 1) := ⟨_, rfl⟩
     have hk0l : k0 < i - 1 := by rw [hk0]; exact Nat.mod_lt _ (by omega)
     have r1 : ((j : Int) + (xY : Int)) % ((i : Int) - 1) = (k0 : Int) := by
      rw [hk0, show (i : Int) - 1 = ((i - 1 : Nat) : Int) by omega]
      norm_cast
     have r2 : ((j : Int) + (xY : Int)).tmod ((i : Int) - 1) = (k0 : Int) := by rw [Int.tmod_eq_emod_of_nonneg (by omega)]; exact r1
     have hz1 : ¬ (i : Int) - 1 = 0 := by omega
     have zk0 : (k0 : Int) ≤ 10 := by omega
     have zk1 : (k0 : Int) < (i : Int) - 1 := by omega
     replace hk0 := Lib.hid hk0
     cases xB
     case false =>
      have hkx : rowK x j = k0 := by
       unfold rowK
       rw [← hxB.out, ← hxY.out, ← hn.out, ← hk0.out]
       rfl
      have hkl : 1 + k0 < i := by omega
      obtain ⟨d, hd⟩ : ∃ d, d = cAt cs lf (1 + k0) := ⟨_, rfl⟩
      have hdc : cs[1 + k0]? = some d := by rw [hd]; exact cAt_lt (by rw [hl.out]; exact hkl)
      have hps : rowPool x cs lf (j + 1) = rowPool x cs lf j ++ [d] := by unfold rowPool; rw [List.range_succ, List.map_append, List.map_cons, List.map_nil, hkx, ← hd]
      replace hps := Lib.hid hps
      replace hd := Lib.hid hd
      replace hkx := Lib.hid hkx
      have sz3 : B3 ≤ wr.heap.size := by rw [hB3.out]; exact ez.size
      have Rd' := (crt_row R5 hdc).below (by rw [← hB3.out]; exact ez : Below w6.heap.size w6 wr)
      have zi : 1 + (k0 : Int) = ((1 + k0 : Nat) : Int) := by omega
      have zl : ((1 + k0 : Nat) : Int) < (cs.length : Int) := by rw [hl.out]; omega
      obtain ⟨kx, hkk⟩ : ∃ k, k = 1 + k0 := ⟨_, rfl⟩
      rw [← hkk] at zi zl Rd'
      replace hkk := Lib.hid hkk
      go_wp2_with (first
       | ((with_reducible refine wpList_load_mid ?_ 30 (.tmp 88) ?_ g5 (o5 + kx * 24) ?_ d.cells _ Rd'.rng Tryz.underlying30 ?_ (sz_crt _) ?_); (· rfl); (· rfl); (· rfl); (· rfl))
       | (refine wpList_build_certV rfl (.tmp 89) rfl d rfl ?_; intro gN wN hgN RN eN)
       | (at_builtin; refine wpList_append_crs rfl (.tmp 84) (.tmp 90) rfl B3 u9 (rowPool x cs lf j) j rfl (row_below own eN) (some ⟨gN, 0, none⟩) 1 1 [d] rfl rfl (.inr ⟨gN, 0, rfl, by simpa [crtCells] using RN⟩) (by omega) (Nat.le_trans sz3 eN.size) ?_; intro v12 w12 o12 h12))
      have e12 := h12 w6 (ez.trans (eN.mono sz3))
      rw [← hps.out] at o12
      go_roundw
      case rel => exact ⟨j + 1, by go_num, by omega, o12, e12⟩
      case measure =>
       simp [intOf]
       omega
     case true =>
      have hkx : rowK x j = (i - 2 - k0) := by
       unfold rowK
       rw [← hxB.out, ← hxY.out, ← hn.out, ← hk0.out]
       rfl
      have hkl : 1 + (i - 2 - k0) < i := by omega
      obtain ⟨d, hd⟩ : ∃ d, d = cAt cs lf (1 + (i - 2 - k0)) := ⟨_, rfl⟩
      have hdc : cs[1 + (i - 2 - k0)]? = some d := by rw [hd]; exact cAt_lt (by rw [hl.out]; exact hkl)
      have hps : rowPool x cs lf (j + 1) = rowPool x cs lf j ++ [d] := by unfold rowPool; rw [List.range_succ, List.map_append, List.map_cons, List.map_nil, hkx, ← hd]
      replace hps := Lib.hid hps
      replace hd := Lib.hid hd
      replace hkx := Lib.hid hkx
      have sz3 : B3 ≤ wr.heap.size := by rw [hB3.out]; exact ez.size
      have Rd' := (crt_row R5 hdc).below (by rw [← hB3.out]; exact ez : Below w6.heap.size w6 wr)
      have zi : 1 + ((i : Int) - 2 - (k0 : Int)) = ((1 + (i - 2 - k0) : Nat) : Int) := by omega
      have zl : ((1 + (i - 2 - k0) : Nat) : Int) < (cs.length : Int) := by rw [hl.out]; omega
      obtain ⟨kx, hkk⟩ : ∃ k, k = 1 + (i - 2 - k0) := ⟨_, rfl⟩
      rw [← hkk] at zi zl Rd'
      replace hkk := Lib.hid hkk
      go_wp2_with (first
       | ((with_reducible refine wpList_load_mid ?_ 30 (.tmp 88) ?_ g5 (o5 + kx * 24) ?_ d.cells _ Rd'.rng Tryz.underlying30 ?_ (sz_crt _) ?_); (· rfl); (· rfl); (· rfl); (· rfl))
       | (refine wpList_build_certV rfl (.tmp 89) rfl d rfl ?_; intro gN wN hgN RN eN)
       | (at_builtin; refine wpList_append_crs rfl (.tmp 84) (.tmp 90) rfl B3 u9 (rowPool x cs lf j) j rfl (row_below own eN) (some ⟨gN, 0, none⟩) 1 1 [d] rfl rfl (.inr ⟨gN, 0, rfl, by simpa [crtCells] using RN⟩) (by omega) (Nat.le_trans sz3 eN.size) ?_; intro v12 w12 o12 h12))
      have e12 := h12 w6 (ez.trans (eN.mono sz3))
      rw [← hps.out] at o12
      go_roundw
      case rel => exact ⟨j + 1, by go_num, by omega, o12, e12⟩
      case measure =>
       simp [intOf]
       omega
    ·have z2 : ¬ (j : Int) < (i : Int) - 1 := by omega
     obtain rfl : j = i - 1 := by omega
     obtain ⟨A9, c9, rfl, n9, m9, C9⟩ := own_crs (by simp [rowPool]) own
     have hjl : (rowPool x cs lf (rowN x - 1)).length = i - 1 := by simp [rowPool, ← hn.out]
     go_wp2_with fail
     go_ret2
     refine ⟨cs, lf, some ⟨g5, o5, none⟩, A9, c5, c9, ?_, hlf, by rw [hl.out]; exact hn.out, n5, m5, ?_, m9, .inr ⟨g5, o5, rfl, R5.below (by rw [← hB3.out]; exact ez)⟩, ?_, hsay, fun c hc => (hok c hc).below (by rw [← hB3.out]; exact ez), hE.trans ((by rw [← hB.out]; exact ex : Below w0.heap.size w0 wr).mono hE.size)⟩
     ·rw [← hn.out]; rfl
     ·rw [← hn.out]; exact n9
     ·rw [← hn.out]; exact C9
theorem rowL_len (x : RIn) : (rowL x).length = rowN x := by simp [rowL]
theorem rowL_at {x : RIn} {i : Nat} {r : Rung} (h : (rowL x)[i]? = some r) : i < rowN x ∧ r = rowR x i := by
 have hi : i < rowN x := by rw [← rowL_len x]; exact (List.getElem?_eq_some_iff.1 h).1
 refine ⟨hi, ?_⟩
 unfold rowL at h
 rw [List.getElem?_map, List.getElem?_range hi] at h
 exact (Option.some.inj h).symm
theorem rowL_letters (x : RIn) : Letters (rowL x) := fun i r h => by
 obtain ⟨_, rfl⟩ := rowL_at h
 unfold rowR
 split <;> rfl
theorem rowN_range (x : RIn) : 2 ≤ rowN x ∧ rowN x ≤ 10 := by unfold rowN; omega
theorem turns : ((List.range 10).all fun m => (List.range m).all fun r => ((List.range m).map fun i => (i + r) % m).isPerm (List.range m) && ((List.range m).map fun i => m - 1 - (i + r) % m).isPerm (List.range m)) = true := by decide +kernel
theorem rowK_perm (x : RIn) : ((List.range (rowN x - 1)).map (rowK x)).Perm (List.range (rowN x - 1)) := by
 have hn := rowN_range x
 obtain ⟨m, hm⟩ : ∃ m, m = rowN x - 1 := ⟨_, rfl⟩
 have hm0 : 0 < m := by omega
 have h1 := List.all_eq_true.1 turns m (List.mem_range.2 (by omega))
 have h2 := List.all_eq_true.1 h1 (x.2.2.2.2.2.2 % m) (List.mem_range.2 (Nat.mod_lt _ hm0))
 rw [Bool.and_eq_true] at h2
 rw [← hm]
 have e : ∀ i, (i + x.2.2.2.2.2.2 % m) % m = (i + x.2.2.2.2.2.2) % m := fun i => Nat.add_mod_mod _ _ _
 cases hb : x.2.2.2.2.2.1 with
 | false =>
  refine List.Perm.trans (List.Perm.of_eq (List.map_congr_left fun i _ => ?_)) (List.isPerm_iff.1 h2.1)
  unfold rowK
  rw [hb, ← hm, e]
  rfl
 | true =>
  refine List.Perm.trans (List.Perm.of_eq (List.map_congr_left fun i _ => ?_)) (List.isPerm_iff.1 h2.2)
  unfold rowK
  rw [hb, ← hm, e, if_pos rfl]
  omega
theorem pool_perm {x : RIn} {cs : List Crt} {lf : Crt} (hl : cs.length = rowN x) : (rowPool x cs lf (rowN x - 1)).Perm (cs.drop 1) := by
 have h := (rowK_perm x).map fun k => cAt cs lf (k + 1)
 rw [List.map_map] at h
 rw [drop_map (lf := lf), hl]
 refine List.Perm.trans (List.Perm.of_eq (List.map_congr_left fun i _ => ?_)) h
 show cAt cs lf (1 + rowK x i) = cAt cs lf (rowK x i + 1)
 rw [Nat.add_comm]
def nearN (n : Nat) (xs : List Nat) : Nat := xs.foldl (fun m x => min m (x % n)) n
theorem near_fold (n : Nat) : ∀ (xs : List Nat) (a : Nat), xs.foldl (fun m x => min m (x % n)) a ≤ a ∧ (∀ x ∈ xs, xs.foldl (fun m x => min m (x % n)) a ≤ x % n) ∧ (xs.foldl (fun m x => min m (x % n)) a = a ∨ ∃ x ∈ xs, x % n = xs.foldl (fun m x => min m (x % n)) a)
 | [], a => ⟨Nat.le_refl _, fun x h => by simp at h, .inl rfl⟩
 | y :: ys, a => by
  obtain ⟨h1, h2, h3⟩ := near_fold n ys (min a (y % n))
  refine ⟨Nat.le_trans h1 (Nat.min_le_left _ _), fun x hx => ?_, ?_⟩
  ·rcases List.mem_cons.1 hx with rfl | hx
   ·exact Nat.le_trans h1 (Nat.min_le_right _ _)
   ·exact h2 x hx
  ·rcases h3 with h3 | ⟨x, hx, h⟩
   ·rcases Nat.le_total a (y % n) with h | h
    ·left
     show ys.foldl _ (min a (y % n)) = a
     rw [h3, Nat.min_eq_left h]
    ·right
     refine ⟨y, by simp, ?_⟩
     show y % n = ys.foldl _ (min a (y % n))
     rw [h3, Nat.min_eq_right h]
   ·exact .inr ⟨x, List.mem_cons_of_mem _ hx, h⟩
theorem near_succ {n j y : Nat} {xs : List Nat} (h : xs[j]? = some y) : nearN n (xs.take (j + 1)) = min (nearN n (xs.take j)) (y % n) := by
 unfold nearN
 rw [List.take_add_one, h, List.foldl_append]
 rfl
def nearT (cs : List Crt) (lf : Crt) (xs : List Nat) : List Sl := xs.map fun y => (cAt cs lf (y % cs.length)).raw
theorem near_find {l : List Rung} {cs pool : List Crt} {lf : Crt} {xs : List Nat} (hs : cs.map Crt.say = ladderB l [1] 3) (hn : Letters l) (hO : ∀ r ∈ l, RungOk r) (hc : ∀ r ∈ l, r.ca = true) (h0 : cs[0]? = some lf) (hp : pool.Perm (cs.drop 1)) :
  (hse lf pool).find (trB (nearT cs lf xs)) = if nearN cs.length xs < min cs.length 8 then some (cs.take (nearN cs.length xs + 1)) else none := by
 have hk : ([1] : List Nat) ≠ [] := by simp
 have hn0 : 0 < cs.length := (List.getElem?_eq_some_iff.1 h0).1
 have hpl : ∀ (j : Nat) (c : Crt), cs[j]? = some c → mayC c = true ∧ fitC c j = true := fun j c h => lad_plain hs (fun r hr => by
  have q := hO r (List.mem_of_getElem? hr)
  exact ⟨hc r (List.mem_of_getElem? hr), by rw [q.path]; decide, by rw [q.usage]; decide⟩) h
 have hsh := lad_short hs hO ⟨by decide, fun x hx => by simp at hx; omega⟩
 have lv := lad_lv (m := cs.length) hs hk hn h0 hp hn0 (Nat.le_refl _) (fun j c _ _ h => hpl j c h) (fun c h => by simp at h)
 have tr : ∀ (i : Nat) (c : Crt), cs[i]? = some c → (trB (nearT cs lf xs) c = true ↔ ∃ y ∈ xs, y % cs.length = i) := fun i c h => by
  unfold trB nearT
  rw [List.any_eq_true]
  constructor
  ·rintro ⟨s, hsm, hse⟩
   obtain ⟨y, hy, rfl⟩ := List.mem_map.1 hsm
   exact ⟨y, hy, lad_raw hs hn (fun c hc => Nat.le_trans (hsh c hc).1 (by decide)) (cAt_lt (Nat.mod_lt _ hn0)) h (of_decide_eq_true hse)⟩
  ·rintro ⟨y, hy, rfl⟩
   refine ⟨_, List.mem_map.2 ⟨y, hy, rfl⟩, ?_⟩
   have e := cAt_lt (cs := cs) (lf := lf) (Nat.mod_lt y hn0)
   rw [e] at h
   obtain rfl := Option.some.inj h
   exact decide_eq_true rfl
 obtain ⟨h1, h2, h3⟩ := near_fold cs.length xs cs.length
 have hno : ∀ (i : Nat) (c : Crt), i < nearN cs.length xs → cs[i]? = some c → trB (nearT cs lf xs) c = false := fun i c hi h => by
  cases e : trB (nearT cs lf xs) c with
  | false => rfl
  | true =>
   obtain ⟨y, hy, hyi⟩ := (tr i c h).1 e
   have := h2 y hy
   unfold nearN at hi
   omega
 by_cases hlt : nearN cs.length xs < min cs.length 8
 ·rw [if_pos hlt]
  refine lad_find lv (Nat.le_refl _) (by omega) (by omega) (fun c h => ?_) hno
  refine (tr _ c h).2 ?_
  rcases h3 with h3 | ⟨y, hy, hyi⟩
  ·unfold nearN at hlt
   omega
  ·exact ⟨y, hy, hyi⟩
 ·rw [if_neg hlt]
  exact lad_none lv (Nat.le_refl _) (fun i c h8 hm h => hno i c (by omega) h)
theorem bs1_sl {o : Oper} {x : Operand} {s : Sl} (ho : o.op = .buildSlice 32 1 #[(0, x)]) (a : Act) (w : World) (hv : a.eval x = s.val) :
  (execOp a.eval o).run Tryz.prog w = .ok (.value (.slice (some ⟨w.heap.size, 0, none⟩) 1 1)) (w.alloc (.cells #[s.val] 22)) := by
 obtain ⟨ie, hie, hzz⟩ := Option.map_eq_some_iff.1 info_mat
 simp only [Prod.mk.injEq] at hzz
 obtain ⟨hz, hs1, hb⟩ := hzz
 have h := run_buildSlice (P := Tryz.prog) w 32 22 1 #[((0 : Nat), s.val)] #[s.val] ie (.slice none 0 0) Tryz.underlying32 hie hz (by rw [hs1]; decide) (by rw [hs1]; decide) (by rw [hs1]; exact Great.fill_flat [s.val] _ (fun v hv => by simp at hv; rw [hv]; rfl) (by simp [Value.cells]))
 unfold execOp
 simp only [ho, List.map_toArray, List.map_cons, List.map_nil, hv, Sem.run_bind, Sem.run_pure, h, Result.andThen_ok]
theorem app_sl {o : Oper} {s x : Operand} {B n g : Nat} {v : Value} {l : List Sl} {c : Sl} (ho : o.op = .call { callee := .builtin .append, args := #[s, x], argTypes := #[32, 32] }) (a : Act) (w : World)
  (hs : a.eval s = v) (hx : a.eval x = .slice (some ⟨g, 0, none⟩) 1 1) (hown : w.ownsRow B 22 1 v n (vals l)) (hR : Row w g 0 [c.val]) (hn : n ≤ 1000) (hB : B ≤ w.heap.size) :
  ∃ v' w', (execOp a.eval o).run Tryz.prog w = .ok (.value v') w' ∧ w'.ownsRow B 22 1 v' (n + 1) (vals (l ++ [c])) ∧ w.grownBy w' v.ownBlock := by
 obtain ⟨i0, hi, hq⟩ := Option.map_eq_some_iff.1 info_mat
 simp only [Prod.mk.injEq] at hq
 obtain ⟨v', w', hr, h2, h3, _, h5⟩ := run_append_own_at (P := Tryz.prog) w B 32 o.type 22 i0 (.slice none 0 0) 1 24 Tryz.underlying32 hi hq.1 hq.2.1 hq.2.2 rfl (by decide) v n (vals l) hown ⟨g, 0, none⟩ 1 1 [c.val] rfl (fun j u hj => by
  rw [addr_addC]
  exact hR.2 j u hj) (vals_one [c]) (by simp only [maxLen]; omega) (by omega) hB
 refine ⟨v', w', ?_, by rw [show vals (l ++ [c]) = vals l ++ [c.val] by simp [vals]]; exact h2, h3⟩
 unfold execOp
 simp only [ho, resolve, invoke, builtin, Sem.run_bind, Sem.run_pure, Result.andThen_ok, List.map_toArray, List.map_cons, List.map_nil, hs, hx, hr]
theorem step_store_mat {o : Oper} {ops : Array Oper} {a : Act} {w : World} {Q : Exit → Act → World → Prop} {K : Act → World → Prop} {E : Prop} (hgd : o.guard = none) (x y : Operand) (ho : o.op = .store 32 x y)
  (g i : Nat) (vs : List Value) (v : Value) (hx : a.eval x = .pointer (some ⟨g, i, none⟩)) (hy : a.eval y = v) (hv : ∃ A n c, v = .slice A n c) (hc : Cut w g 0 vs) (hi : i < vs.length)
  (h : ∀ w', w' = w.setCell ⟨g, i, none⟩ v → Cut w' g 0 (vs.set i v) → K (a.put o.dst undef) w') : if Region.wanted o (yielded ops a.tmps) = true then Oper.wp Tryz.prog o a w K Q else E := by
 obtain ⟨A, n, c, rfl⟩ := hv
 rw [if_pos (wanted_free hgd _)]
 have hu : vs[i]? = some vs[i] := List.getElem?_eq_getElem hi
 have k := hc.cell hu
 have f := hc.frozen hu
 rw [Nat.zero_add] at k f
 have hrun : (Instr.storeAt 32 (.pointer (some ⟨g, i, none⟩)) (.slice A n c)).run Tryz.prog w = .ok () (w.setCell ⟨g, i, none⟩ (.slice A n c)) := by go_simp
 unfold Oper.wp execOp
 simp only [ho, hx, hy, Sem.run_bind, Sem.run_pure, hrun, Result.andThen_ok]
 have hs := hc.set hu (.slice A n c)
 rw [Nat.zero_add] at hs
 exact h _ rfl hs
def neT (V : Value) (g7 g5 o5 n c5 k gz : Nat) (s : Sl) : Nat → Tg
 | 0 => tv (.pointer (some ⟨g7, 0, none⟩))
 | 1 => tv V
 | 2 => tv (.slice (some ⟨g5, o5, none⟩) n c5)
 | 3 => tv (.int .i64 (k : Int))
 | 4 => tv (.pointer (some ⟨g5, o5 + k * 24, none⟩))
 | 5 => tv (.pointer (some ⟨g5, o5 + k * 24, none⟩))
 | 6 => tv s.val
 | 7 => tv (.slice (some ⟨gz, 0, none⟩) 1 1)
 | 9 => tv (.pointer (some ⟨g7, 0, none⟩))
 | _ => fun _ _ => True
theorem stat_ne (V : Value) (g7 g5 o5 n c5 k gz : Nat) (s : Sl) : Static (neT V g7 g5 o5 n c5 k gz s) := fun j x W W' h => by
 unfold neT at *
 split at h <;> exact h
def neG (V : Value) (wb wr : World) (B2 g7 gz j : Nat) (l : List Sl) (s : Sl) (d : Nat → Bool) (v : Nat → Value) (W : World) : Prop := match d 7, d 8, d 10 with
 | false, false, false => Below wr.heap.size wr W ∧ W.heap.size = gz
 | true, false, false => Below wr.heap.size wr W ∧ Row W gz 0 [s.val]
 | true, true, false => Below wb.heap.size wb W ∧ Cut W g7 0 [V] ∧ W.ownsRow B2 22 1 (v 8) (j + 1) (vals (l ++ [s]))
 | true, true, true => Below wb.heap.size wb W ∧ Cut W g7 0 [v 8] ∧ W.ownsRow B2 22 1 (v 8) (j + 1) (vals (l ++ [s]))
 | _, _, _ => False
section
variable {V : Value} {wb wr W : World} {B2 g7 gz j : Nat} {l : List Sl} {s : Sl} {d : Nat → Bool} {v : Nat → Value}
theorem neG_b (hb : Below wb.heap.size wb wr) (h : neG V wb wr B2 g7 gz j l s d v W) : Below wb.heap.size wb W := by
 unfold neG at h
 cases h1 : d 7 <;> cases h2 : d 8 <;> cases h3 : d 10 <;> rw [h1, h2, h3] at h
 ·exact hb.trans (h.1.mono hb.size)
 ·exact h.elim
 ·exact h.elim
 ·exact h.elim
 ·exact hb.trans (h.1.mono hb.size)
 ·exact h.elim
 ·exact h.1
 ·exact h.1
theorem neG_r (h8 : d 8 = false) (h : neG V wb wr B2 g7 gz j l s d v W) : Below wr.heap.size wr W := by
 unfold neG at h
 cases h1 : d 7 <;> cases h3 : d 10 <;> rw [h1, h8, h3] at h
 ·exact h.1
 ·exact h.elim
 ·exact h.1
 ·exact h.elim
end
theorem rg91 : List.range 91 = [0, 1, 2, 3, 4, 5, 6, 7, 8, 9, 10, 11, 12, 13, 14, 15, 16, 17, 18, 19, 20, 21, 22, 23, 24, 25, 26, 27, 28, 29, 30, 31, 32, 33, 34, 35, 36, 37, 38, 39, 40, 41, 42, 43, 44, 45, 46, 47, 48, 49, 50, 51, 52, 53, 54, 55, 56, 57, 58, 59, 60, 61, 62, 63, 64, 65, 66, 67, 68, 69, 70, 71, 72, 73, 74, 75, 76, 77, 78, 79, 80, 81, 82, 83, 84, 85, 86, 87, 88, 89, 90] := rfl
set_option maxRecDepth 100000 in
set_option maxHeartbeats 12800000 in
theorem cnNe_any (x : RIn) (s : Sl) (w : World) (qr : QRow w x) (qs : s.ok w) : Calls Tryz.prog 19 #[.agg (CRow x).toArray, s.val] w (RetW true w) := by
 obtain ⟨sA, sc, xs⟩ := s
 obtain ⟨qrd, qlm, qcap, qmax⟩ := qs
 simp only at qrd qlm qcap qmax
 rw [show (⟨sA, sc, xs⟩ : Sl).val = .slice sA xs.length sc from rfl]
 obtain ⟨L0, hL0⟩ : ∃ L, L = CRow x := ⟨_, rfl⟩
 rw [← hL0]
 obtain ⟨g0, hg0⟩ : ∃ g, g = w.heap.size := ⟨_, rfl⟩
 obtain ⟨w0, hw0⟩ : ∃ u, u = w.alloc (.cells L0.toArray 87) := ⟨_, rfl⟩
 have hE : Below w.heap.size w w0 := by rw [hw0]; exact (Below.refl _ _).alloc (Nat.le_refl _) _
 have D0 : Cut w0 g0 0 L0 := by rw [hw0, hg0]; exact Cut.of_heap (heap_alloc_new _ _) fun i v hv => by simpa using hv
 have g0w : w.heap.size ≤ g0 := by rw [hg0]; exact Nat.le_refl _
 replace hL0 := Lib.hid hL0
 go_enter Tryz.func19, Tryz.ntmps19
 go_upto_region 1 with fail
 refine wp_world hw0 ?_
 rw [← hg0]
 clear hw0
 replace hg0 := Lib.hid hg0
 rw [hL0.out] at D0
 by_cases h20 : xs.length ≤ 20
 case neg =>
  have z20 : (20 : Int) < (xs.length : Int) := by omega
  go_wp2_with fail
  refine (works13_any _).mono ?_
  rintro r w' ⟨rfl, b⟩
  go_wp2_with fail
  go_ret
  exact ⟨rfl, hE.trans (b.mono hE.size)⟩
 have z20 : ¬ (20 : Int) < (xs.length : Int) := by omega
 replace D0 : Cut w0 g0 0 [.int .u8 (x.1 : Int), .int .u8 (x.2.1 : Int), .int .i64 x.2.2.1, .int .i64 x.2.2.2.1, .bool x.2.2.2.2.1, .bool x.2.2.2.2.2.1, .int .u8 (x.2.2.2.2.2.2 : Int)] := D0
 have kc : w0.cell? ⟨g0, 2, none⟩ = some (.int .i64 x.2.2.1) := by have q := D0.cell (i := 2) (v := .int .i64 x.2.2.1) rfl; rwa [Nat.zero_add] at q
 have kf : w0.frozen? ⟨g0, 2, none⟩ = false := by have q := D0.frozen (i := 2) (v := .int .i64 x.2.2.1) rfl; rwa [Nat.zero_add] at q
 go_upto_region 4 with fail
 obtain ⟨y1, hy1⟩ : ∃ u, u = w0.setCell ⟨g0, 2, none⟩ (.int .i64 (-1)) := ⟨_, rfl⟩
 have E1 : Cut y1 g0 0 [.int .u8 (x.1 : Int), .int .u8 (x.2.1 : Int), .int .i64 (-1), .int .i64 x.2.2.2.1, .bool x.2.2.2.2.1, .bool x.2.2.2.2.2.1, .int .u8 (x.2.2.2.2.2.2 : Int)] := by rw [hy1]; have q := D0.set (i := 2) rfl (.int .i64 (-1)); rw [Nat.zero_add] at q; exact q
 replace hE : Below w.heap.size w y1 := by rw [hy1]; exact hE.setCell (p := ⟨g0, 2, none⟩) (by show _ ≤ g0; exact g0w) _
 refine wp_world hy1 ?_
 clear hy1 kc kf D0
 have kc : y1.cell? ⟨g0, 3, none⟩ = some (.int .i64 x.2.2.2.1) := by have q := E1.cell (i := 3) (v := .int .i64 x.2.2.2.1) rfl; rwa [Nat.zero_add] at q
 have kf : y1.frozen? ⟨g0, 3, none⟩ = false := by have q := E1.frozen (i := 3) (v := .int .i64 x.2.2.2.1) rfl; rwa [Nat.zero_add] at q
 go_upto_region 5 with fail
 obtain ⟨y2, hy2⟩ : ∃ u, u = y1.setCell ⟨g0, 3, none⟩ (.int .i64 (-1)) := ⟨_, rfl⟩
 have E2 : Cut y2 g0 0 [.int .u8 (x.1 : Int), .int .u8 (x.2.1 : Int), .int .i64 (-1), .int .i64 (-1), .bool x.2.2.2.2.1, .bool x.2.2.2.2.2.1, .int .u8 (x.2.2.2.2.2.2 : Int)] := by rw [hy2]; have q := E1.set (i := 3) rfl (.int .i64 (-1)); rw [Nat.zero_add] at q; exact q
 replace hE : Below w.heap.size w y2 := by rw [hy2]; exact hE.setCell (p := ⟨g0, 3, none⟩) (by show _ ≤ g0; exact g0w) _
 refine wp_world hy2 ?_
 clear hy2 kc kf E1
 have kc : y2.cell? ⟨g0, 4, none⟩ = some (.bool x.2.2.2.2.1) := by have q := E2.cell (i := 4) (v := .bool x.2.2.2.2.1) rfl; rwa [Nat.zero_add] at q
 have kf : y2.frozen? ⟨g0, 4, none⟩ = false := by have q := E2.frozen (i := 4) (v := .bool x.2.2.2.2.1) rfl; rwa [Nat.zero_add] at q
 go_upto_region 6 with fail
 obtain ⟨y3, hy3⟩ : ∃ u, u = y2.setCell ⟨g0, 4, none⟩ (.bool false) := ⟨_, rfl⟩
 have E3 : Cut y3 g0 0 [.int .u8 (x.1 : Int), .int .u8 (x.2.1 : Int), .int .i64 (-1), .int .i64 (-1), .bool false, .bool x.2.2.2.2.2.1, .int .u8 (x.2.2.2.2.2.2 : Int)] := by rw [hy3]; have q := E2.set (i := 4) rfl (.bool false); rw [Nat.zero_add] at q; exact q
 replace hE : Below w.heap.size w y3 := by rw [hy3]; exact hE.setCell (p := ⟨g0, 4, none⟩) (by show _ ≤ g0; exact g0w) _
 refine wp_world hy3 ?_
 clear hy3 kc kf E2
 obtain ⟨x', hx'⟩ : ∃ y, y = ((x.1, x.2.1, (-1 : Int), (-1 : Int), false, x.2.2.2.2.2.1, x.2.2.2.2.2.2) : RIn) := ⟨_, rfl⟩
 have R0 : Row y3 g0 0 (CRow x') := by rw [hx']; exact Row.of_cut E3
 have qx : QRow y3 x' := by rw [hx']; exact ⟨qr.1, qr.2.1, ⟨by show _ ≤ (-1 : Int); decide, by show (-1 : Int) ≤ _; decide⟩, ⟨by show _ ≤ (-1 : Int); decide, by show (-1 : Int) ≤ _; decide⟩, qr.2.2.2.2⟩
 have hpl : rowL x' = (List.range (rowN x')).map fun i => plainOf (97 + i) := by
  unfold rowL
  refine List.map_congr_left fun i _ => ?_
  unfold rowR
  split
  ·rw [hx']; rfl
  ·rfl
 have hnr := rowN_range x'
 have hO : ∀ r ∈ rowL x', RungOk r := fun r hr => by
  rw [hpl] at hr
  obtain ⟨i, hi, rfl⟩ := List.mem_map.1 hr
  have := List.mem_range.1 hi
  exact ⟨⟨by simp [plainOf], fun y hy => by simp [plainOf] at hy; omega⟩, by show 0 < 256; decide, rfl, rfl, rfl⟩
 have hca : ∀ r ∈ rowL x', r.ca = true := fun r hr => by
  rw [hpl] at hr
  obtain ⟨i, hi, rfl⟩ := List.mem_map.1 hr
  rfl
 have HL : LadOf (rowL x') := fun gl ol lc A kA W hA hR hk => ladder_any gl ol _ lc A (rowL x') kA 1 3 [1] W rfl (by rw [rowL_len]; omega) (.inr hA) hR hO hk (by decide) (by decide)
 clear hpl E3
 replace hx' := Lib.hid hx'
 obtain ⟨L1, hL1⟩ : ∃ L, L = CRow x' := ⟨_, rfl⟩
 have hq := row_made x' y3 qx HL
 rw [← hL1] at hq R0
 have lc : (Tryz.prog.info? 87).map (·.size) = some L1.length := by rw [hL1]; show _ = some 7; kernel_rfl
 replace hL1 := Lib.hid hL1
 go_wp2_with ((with_reducible refine wpList_load_mid ?_ 87 (.tmp 2) ?_ g0 0 ?_ L1 _ R0.rng Tryz.underlying87 ?_ lc ?_); (· rfl); (· rfl); (· rfl); (· rfl))
 refine Calls.mono hq ?_
 rintro e4 w4 ⟨cs, lf, A5, A6, c5, c6, rfl, h0, hln, n5, m5, n6, m6, C5, C6, hsay, hok, b4⟩
 clear hq lc HL R0 qx
 replace hE := hE.trans (b4.mono hE.size)
 have hpm : (rowPool x' cs lf (rowN x' - 1)).Perm (cs.drop 1) := pool_perm hln
 obtain ⟨pl, hpl⟩ : ∃ p, p = rowPool x' cs lf (rowN x' - 1) := ⟨_, rfl⟩
 rw [← hpl] at hpm n6 C6
 rw [← hpl]
 replace hpl := Lib.hid hpl
 have hlet := rowL_letters x'
 have hsh := lad_short hsay hO ⟨by decide, fun y hy => by simp at hy; omega⟩
 obtain ⟨g5, o5, rfl, R5⟩ := C5.resolve_left (by rintro rfl; simp at h0)
 have hn2 : 2 ≤ cs.length ∧ cs.length ≤ 10 := by omega
 have hpll : pl.length = cs.length - 1 := by rw [hpm.length_eq, List.length_drop]
 have P4 : PoolOk w4 lf pl := by
  have hm : ∀ c ∈ lf :: pl, c ∈ cs := fun c hc => by
   rcases List.mem_cons.1 hc with rfl | hc
   ·exact List.mem_of_getElem? h0
   ·exact List.mem_of_mem_drop (hpm.mem_iff.1 hc)
  exact ⟨Nat.lt_of_le_of_lt (Nat.zero_le _) R5.1, fun c hc => hok c (hm c hc), fun c hc => Nat.le_trans (hsh c (hm c hc)).1 (by decide), fun c hc => Nat.le_trans (hsh c (hm c hc)).2 (by decide), by omega⟩
 clear b4 hsh
 replace hln := Lib.hid hln
 replace hpll := Lib.hid hpll
 go_upto_region 8 with fail
 obtain ⟨g7, hg7⟩ : ∃ g, g = w4.heap.size := ⟨_, rfl⟩
 obtain ⟨w5, hw5⟩ : ∃ u, u = w4.alloc (.cells #[.slice none 0 0] 34) := ⟨_, rfl⟩
 have e5 : Below w4.heap.size w4 w5 := by rw [hw5]; exact (Below.refl _ _).alloc (Nat.le_refl _) _
 have z5w : w5.heap.size = g7 + 1 := by rw [hw5, hg7]; simp
 have T5 : Cut w5 g7 0 [.slice none 0 0] := by rw [hw5, hg7]; exact Cut.of_heap (heap_alloc_new _ _) fun i v hv => by simpa using hv
 refine wp_world hw5 ?_
 rw [← hg7]
 clear hw5
 obtain ⟨B2, hB2⟩ : ∃ b, b = w5.heap.size := ⟨_, rfl⟩
 have hgB : g7 < B2 := by omega
 have q0 : w5.ownsRow B2 22 1 (.slice none 0 0) 0 [] := World.ownsRow_nil w5 B2 22 1
 replace hg7 := Lib.hid hg7
 replace z5w := Lib.hid z5w
 replace hB2 := Lib.hid hB2
 go_upto_region 10 with fail
 go_loopw [8, 9, 10] (fun t8 t9 t10 wr => ∃ (j : Nat) (V : Value), t9 = .int .i64 (j : Int) ∧ j ≤ xs.length ∧ t8 = .int .i64 ((nearN cs.length (xs.take j) : Nat) : Int) ∧ Cut wr g7 0 [V] ∧ wr.ownsRow B2 22 1 V j (vals (nearT cs lf (xs.take j))) ∧ Below w4.heap.size w4 wr) (fun _ t _ _ => xs.length - (intOf t).toNat)
 case atStart => exact ⟨0, _, rfl, Nat.zero_le _, rfl, T5, q0, e5⟩
 case round =>
  obtain ⟨j, V, rfl, hj, rfl, T, own, er⟩ := hrel
  have z1 : (j : Int) ≤ 20 := by omega
  by_cases hlt : j < xs.length
  ·have z2 : (j : Int) < (xs.length : Int) := by omega
   obtain ⟨y, hy⟩ : ∃ y, xs[j]? = some y := ⟨_, List.getElem?_eq_getElem hlt⟩
   have hy256 : y < 256 := qlm.get hy
   obtain ⟨bs, os, rfl, hbs, hcell⟩ := (qrd.below (hE.trans (er.mono hE.size))).pos hy
   have ky := hcell j y hy
   clear hcell
   obtain ⟨k, hk⟩ : ∃ k, k = y % cs.length := ⟨_, rfl⟩
   have hkl : k < cs.length := by rw [hk]; exact Nat.mod_lt _ (by omega)
   have r1 : (y : Int) % (cs.length : Int) = (k : Int) := by rw [hk]; norm_cast
   have r2 : (y : Int).tmod (cs.length : Int) = (k : Int) := by rw [Int.tmod_eq_emod_of_nonneg (by omega)]; exact r1
   have hz1 : ¬ (cs.length : Int) = 0 := by omega
   have hz2 : ¬ cs.length = 0 := by omega
   have zy : (y : Int) < 256 := by omega
   obtain ⟨m, hm⟩ : ∃ m, m = nearN cs.length (xs.take j) := ⟨_, rfl⟩
   obtain ⟨m', hm'⟩ : ∃ m, m = nearN cs.length (xs.take (j + 1)) := ⟨_, rfl⟩
   have zmn : m' = min m k := by rw [hm', hm, hk]; exact near_succ hy
   have zmin : min (m : Int) (k : Int) = (m' : Int) := by omega
   obtain ⟨d, hd⟩ : ∃ d, d = cAt cs lf k := ⟨_, rfl⟩
   have hdc : cs[k]? = some d := by rw [hd]; exact cAt_lt hkl
   obtain ⟨l, hl⟩ : ∃ l, l = nearT cs lf (xs.take j) := ⟨_, rfl⟩
   have hls : nearT cs lf (xs.take (j + 1)) = l ++ [d.raw] := by
    rw [hl, hd, hk]
    unfold nearT
    rw [List.take_add_one, hy, List.map_append]
    rfl
   rw [← hm]
   rw [← hl] at own
   have Rd' := (crt_row R5 hdc).below er
   obtain ⟨gz, hgz⟩ : ∃ g, g = wr.heap.size := ⟨_, rfl⟩
   have hsz : B2 ≤ wr.heap.size := by rw [hB2.out, z5w.out]; exact T.1
   replace hk := Lib.hid hk
   replace r1 := Lib.hid r1
   replace hm := Lib.hid hm
   replace hm' := Lib.hid hm'
   replace zmn := Lib.hid zmn
   replace hd := Lib.hid hd
   replace hl := Lib.hid hl
   replace hls := Lib.hid hls
   replace hgz := Lib.hid hgz
   go_upto_region 13 with fail
   refine wp_region_eff (by kernel_rfl) (fun i => i == 7 || i == 8 || i == 10) (fun i => i == 10) (fun i => if i = 10 then 1010 else 42 + i) (neT V g7 g5 o5 cs.length c5 k gz d.raw) (neG V w4 wr B2 g7 gz j l d.raw) (by kernel_rfl) (by kernel_rfl) ?hno ?inj ?hEs ?hGe ?hG ⟨?s0, ?s1, ?s2, ?s3, ?s4, ?s5, ?s6, ?s7, ?s8, ?s9, ?s10, trivial⟩ ?fin
   case hno =>
    intro i h v W
    have h : (i == 10) = true := h
    simp at h
    subst h; trivial
   case inj =>
    intro i j hi hj h
    have h40 : i < 11 ∧ j < 11 := ⟨hi, hj⟩
    have h : (if i = 10 then 1010 else 42 + i) = (if j = 10 then 1010 else 42 + j) := h
    (repeat' split at h) <;> omega
   case hEs =>
    intro j h
    have h : (j == 7 || j == 8 || j == 10) = true := h
    show j < 11
    simp at h
    omega
   case hGe => exact fun d d' x x' U h h6 hg => by unfold neG at *; rw [← h 7 rfl, ← h 8 rfl, ← h 10 rfl, ← h6 8 rfl]; exact hg
   case hG => exact fun x => ⟨below_drewN (Below.refl _ _) 1, hgz.out.symm⟩
   case s0 => exact fun d_ v_ hd_ hc_ => (st_field rfl rfl rfl (src_base (fun i hi => by have hi : i < 11 := hi; show (if i = 10 then 1010 else 42 + i) ≠ 7; (repeat' split) <;> omega) rfl) (fun W => fa_trust0 g7 0 W))
   case s1 => exact fun d_ v_ hd_ hc_ => (st_run rfl (fun a U hba hd hg => by
     have u1 : a.eval (.tmp 42) = .pointer (some ⟨g7, 0, none⟩) := (hd ⟨0, .data⟩ (by simp) rfl).now
     have h8 : d_ 8 = false := by
      cases h8 : d_ 8 with
      | false => rfl
      | true =>
       have := hc_ 8 _ rfl h8 ⟨1, .data⟩ (by simp) rfl
       rw [hd_] at this
       exact Bool.noConfusion this
     have k1 : U.cell? ⟨g7, 0, none⟩ = some V := by
      have q := (T.below (neG_r h8 hg)).cell (i := 0) (v := V) rfl
      rwa [Nat.zero_add] at q
     refine ⟨V, U, ?_, Sub.refl U, hg, Sp.tv rfl⟩
     unfold execOp
     simp only [u1, Sem.run_bind, Sem.run_pure, ld_mat _ _ U k1, Result.andThen_ok]))
   case s2 => exact fun d_ v_ hd_ hc_ => (st_move rfl (.inl rfl) (src_base (fun i hi => by have hi : i < 11 := hi; show (if i = 10 then 1010 else 42 + i) ≠ 5; (repeat' split) <;> omega) rfl))
   case s3 => exact fun d_ v_ hd_ hc_ => (st_move rfl (.inl rfl) (src_base (fun i hi => by have hi : i < 11 := hi; show (if i = 10 then 1010 else 42 + i) ≠ 10; (repeat' split) <;> omega) rfl))
   case s4 => exact fun d_ v_ hd_ hc_ => (st_index rfl rfl rfl (src_dep (j := 2) (e := ⟨2, .data⟩) (by simp) rfl rfl rfl) (src_dep (j := 3) (e := ⟨3, .data⟩) (by simp) rfl rfl rfl) (fun W => ia_cert g5 o5 cs.length c5 k hkl W))
   case s5 => exact fun d_ v_ hd_ hc_ => (st_field rfl rfl rfl (src_dep (j := 4) (e := ⟨4, .data⟩) (by simp) rfl rfl rfl) (fun W => fa_cert0 g5 (o5 + k * 24) W))
   case s6 => exact fun d_ v_ hd_ hc_ => (st_load rfl rfl rfl (src_dep (j := 5) (e := ⟨5, .data⟩) (by simp) rfl rfl rfl) (ld_u8s _ _) (fun W h => ((crt_row R5 hdc).below (neG_b er h)).cell (i := 0) rfl))
   case s7 =>
    refine eff_run rfl fun d_ a U hd hba hdp hal hG => ?_
    have u1 : a.eval (.tmp 48) = d.raw.val := (hdp ⟨6, .data⟩ (by simp) rfl).now
    unfold neG at hG
    rw [hd] at hG
    cases h8 : d_ 8 with
    | true => rw [h8] at hG; cases h10 : d_ 10 <;> rw [h10] at hG <;> exact hG.elim
    | false =>
     rw [h8] at hG
     cases h10 : d_ 10 with
     | true => rw [h10] at hG; exact hG.elim
     | false =>
      rw [h10] at hG
      obtain ⟨q1, q2⟩ : Below wr.heap.size wr U ∧ U.heap.size = gz := hG
      refine ⟨_, _, bs1_sl rfl a U u1, (stat_ne _ _ _ _ _ _ _ _ _).sp (by rw [q2]; rfl), (stat_ne _ _ _ _ _ _ _ _ _).keep 7, fun v' hw _ => ?_⟩
      unfold neG
      rw [show done1 d_ 7 7 = true from rfl, show done1 d_ 7 8 = false from h8, show done1 d_ 7 10 = false from h10]
      refine ⟨q1.alloc q1.size _, ?_⟩
      rw [← q2]
      exact row_new _
   case s8 =>
    refine eff_run rfl fun d_ a U hd hba hdp hal hG => ?_
    have d7 : d_ 7 = true := hal ⟨7, .data⟩ (by simp) rfl
    have u1 : a.eval (.tmp 43) = V := (hdp ⟨1, .data⟩ (by simp) rfl).now
    have u2 : a.eval (.tmp 49) = .slice (some ⟨gz, 0, none⟩) 1 1 := (hdp ⟨7, .data⟩ (by simp) rfl).now
    unfold neG at hG
    rw [hd, d7] at hG
    cases h10 : d_ 10 with
    | true => rw [h10] at hG; exact hG.elim
    | false =>
     rw [h10] at hG
     obtain ⟨q1, q2⟩ : Below wr.heap.size wr U ∧ Row U gz 0 [d.raw.val] := hG
     have ownU := row_below own q1
     have hBU : B2 ≤ U.heap.size := Nat.le_trans hsz q1.size
     refine (app_sl (by rfl) a U u1 u2 ownU q2 (by omega) hBU).elim fun v' hh => hh.elim fun U' hh => ⟨v', U', hh.1, (stat_ne _ _ _ _ _ _ _ _ _).sp trivial, (stat_ne _ _ _ _ _ _ _ _ _).keep 8, fun vv _ hv => ?_⟩
     obtain ⟨_, p1, p2⟩ := hh
     unfold neG
     rw [show done1 d_ 8 7 = true from d7, show done1 d_ 8 8 = true from rfl, show done1 d_ 8 10 = false from h10, hv (by simp)]
     exact ⟨(er.trans (q1.mono er.size)).grown p2 (Nat.le_trans er.size q1.size) (fun i hi => by have := (ownU.lt i hi).1; have := hg7.out; omega), (T.below q1).grown p2 (fun e => by have := (ownU.lt _ e).1; omega), p1⟩
   case s9 => exact fun d_ v_ hd_ hc_ => (st_field rfl rfl rfl (src_base (fun i hi => by have hi : i < 11 := hi; show (if i = 10 then 1010 else 42 + i) ≠ 7; (repeat' split) <;> omega) rfl) (fun W => fa_trust0 g7 0 W))
   case s10 =>
    intro d_ a U hd hba hdp hal hG K hK
    have d7 : d_ 7 = true := hal ⟨7, .phase⟩ (by simp) rfl
    have d8 : d_ 8 = true := hal ⟨8, .data⟩ (by simp) rfl
    have u1 : a.eval (.tmp 51) = .pointer (some ⟨g7, 0, none⟩) := (hdp ⟨9, .data⟩ (by simp) rfl).now
    unfold neG at hG
    rw [hd, d7, d8] at hG
    obtain ⟨q1, q2, q3⟩ := hG
    have q3 : U.ownsRow B2 22 1 (a.tmps.getD 50 undef) (j + 1) (vals (l ++ [d.raw])) := q3
    have hsl : ∃ A n c, a.tmps.getD 50 undef = .slice A n c := by obtain ⟨A, c, h, _⟩ := own_form q3; exact ⟨A, _, c, h⟩
    refine step_store_mat rfl (.tmp 51) (.tmp 50) rfl g7 0 [V] (a.tmps.getD 50 undef) u1 rfl hsl q2 (by simp) (fun w' hw' hcut => hK undef w' (fun _ _ => trivial) ((stat_ne _ _ _ _ _ _ _ _ _).keep 10) (fun v' hv _ => ?_))
    unfold neG
    rw [show done1 d_ 10 7 = true from d7, show done1 d_ 10 8 = true from d8, show done1 d_ 10 10 = true from rfl, hv 8 (by omega) rfl]
    refine ⟨by rw [hw']; exact q1.setCell (p := ⟨g7, 0, none⟩) (by show _ ≤ g7; rw [hg7.out]; exact Nat.le_refl _) _, hcut, by rw [hw']; exact row_keep q3 fun i hi => Below.heap_setCell _ _ _ _ (by have := (q3.lt i hi).1; show i ≠ g7; omega)⟩
   case fin =>
    intro a wz h1 h2 h3 h4 h5
    obtain ⟨q1, q2, q3⟩ := h5
    obtain ⟨v50, b50⟩ : ∃ v, a.tmps.getD 50 undef = v := ⟨_, rfl⟩
    replace q2 : Cut wz g7 0 [a.tmps.getD 50 undef] := q2
    replace q3 : wz.ownsRow B2 22 1 (a.tmps.getD 50 undef) (j + 1) (vals (l ++ [d.raw])) := q3
    rw [b50] at q2 q3
    rw [← hls.out] at q3
    have hz : a.tmps.size = 91 := h2
    have hdf : a.defers = [] := h1
    have hb := fun (k : Nat) (hk : (k < 42 ∨ 51 < k) ∧ k < 1000) => h3 k (fun i (h : i < 11) => by show (if i = 10 then 1010 else 42 + i) ≠ k; (repeat' split) <;> omega)
    rw [act_eq hz hdf]
    simp only [rg91, List.map_cons, List.map_nil, b50, hb 0 (by decide), hb 1 (by decide), hb 2 (by decide), hb 3 (by decide), hb 4 (by decide), hb 5 (by decide), hb 6 (by decide), hb 7 (by decide), hb 8 (by decide), hb 9 (by decide), hb 10 (by decide), hb 11 (by decide), hb 12 (by decide), hb 13 (by decide), hb 14 (by decide), hb 15 (by decide), hb 16 (by decide), hb 17 (by decide), hb 18 (by decide), hb 19 (by decide), hb 20 (by decide), hb 21 (by decide), hb 22 (by decide), hb 23 (by decide), hb 24 (by decide), hb 25 (by decide), hb 26 (by decide), hb 27 (by decide), hb 28 (by decide), hb 29 (by decide), hb 30 (by decide), hb 31 (by decide), hb 32 (by decide), hb 33 (by decide), hb 34 (by decide), hb 35 (by decide), hb 36 (by decide), hb 37 (by decide), hb 38 (by decide), hb 39 (by decide), hb 40 (by decide), hb 41 (by decide), hb 52 (by decide), hb 53 (by decide), hb 54 (by decide), hb 55 (by decide), hb 56 (by decide), hb 57 (by decide), hb 58 (by decide), hb 59 (by decide), hb 60 (by decide), hb 61 (by decide), hb 62 (by decide), hb 63 (by decide), hb 64 (by decide), hb 65 (by decide), hb 66 (by decide), hb 67 (by decide), hb 68 (by decide), hb 69 (by decide), hb 70 (by decide), hb 71 (by decide), hb 72 (by decide), hb 73 (by decide), hb 74 (by decide), hb 75 (by decide), hb 76 (by decide), hb 77 (by decide), hb 78 (by decide), hb 79 (by decide), hb 80 (by decide), hb 81 (by decide), hb 82 (by decide), hb 83 (by decide), hb 84 (by decide), hb 85 (by decide), hb 86 (by decide), hb 87 (by decide), hb 88 (by decide), hb 89 (by decide), hb 90 (by decide)]
    simp only [Array.getD_eq_getD_getElem?, List.getElem?_toArray, List.getElem?_cons_succ, List.getElem?_cons_zero, Option.getD_some]
    clear b50
    clear hb hz hdf h1 h2 h3 h4
    go_wp2_with fail
    go_roundw
    case rel => exact ⟨j + 1, v50, by go_num, by omega, by rw [hm'.out], q2, q3, q1⟩
    case measure =>
     simp [intOf]
     omega
  ·have z2 : ¬ (j : Int) < (xs.length : Int) := by omega
   obtain rfl : j = xs.length := by omega
   rw [List.take_length] at own ⊢
   have hfind := near_find (xs := xs) hsay hlet hO hca h0 hpm
   obtain ⟨m, hm⟩ : ∃ m, m = nearN cs.length xs := ⟨_, rfl⟩
   have hmn : m ≤ cs.length := by rw [hm]; exact (near_fold cs.length xs cs.length).1
   rw [← hm] at hfind ⊢
   replace hm := Lib.hid hm
   obtain ⟨A7, c7, rfl, n7, m7, F7⟩ := own_form own
   have k7 : wr.cell? ⟨g7, 0, none⟩ = some (.slice A7 xs.length c7) := by
    have q := T.cell (i := 0) (v := .slice A7 xs.length c7) rfl
    rwa [Nat.zero_add] at q
   obtain ⟨tt, htt⟩ : ∃ t, t = nearT cs lf xs := ⟨_, rfl⟩
   rw [← htt] at hfind F7
   have htl : tt.length = xs.length := by rw [htt]; simp [nearT]
   have AN : Anc wr 24 #[.pointer (some ⟨g7, 0, none⟩)] (trB tt) := anc_is (t := ⟨A7, c7, tt⟩) (by rw [k7, ← htl]; rfl) ⟨by show tt.length ≤ c7; rw [htl]; exact n7, m7, by
    rcases F7 with h | ⟨g, h1, _, h2⟩
    ·left
     exact List.eq_nil_of_length_eq_zero (by rw [htl]; exact h)
    ·exact .inr ⟨g, 0, h1, h2⟩, fun s hs => by
    rw [htt] at hs
    obtain ⟨y, hy, rfl⟩ := List.mem_map.1 hs
    exact ((hok _ (List.mem_of_getElem? (cAt_lt (Nat.mod_lt _ (by omega))))).raw).below er⟩
   replace htt := Lib.hid htt
   replace htl := Lib.hid htl
   clear own F7 k7 T
   have C6r := C6.below er
   have R5r := R5.below er
   have okr : ∀ c ∈ cs, c.ok wr := fun c hc => (hok c hc).below er
   have Rlf := crt_row R5r h0
   rw [Nat.zero_mul, Nat.add_zero] at Rlf
   have hff := find_go (P4.below er) C6r (pc := c6) AN
   unfold FndP at hff
   unfold Crt.val at hff
   replace hE := hE.trans (er.mono hE.size)
   clear R5 C6 hok er
   have zm10 : (m : Int) ≤ 10 := by omega
   have zc10 : (cs.length : Int) ≤ 10 := by omega
   have zc0 : (0 : Int) < (cs.length : Int) := by omega
   obtain ⟨mm, hmm⟩ : ∃ k, k = min cs.length 8 := ⟨_, rfl⟩
   have zmm : min (cs.length : Int) 8 = (mm : Int) := by omega
   rw [← hmm] at hfind
   replace hmm := Lib.hid hmm
   by_cases hlt : m < mm
   case neg =>
    rw [if_neg hlt] at hfind
    simp only [hfind] at hff
    have zlt : (mm : Int) ≤ (m : Int) := by omega
    go_wp2_with ((with_reducible refine wpList_load_mid ?_ 30 (.tmp 57) ?_ g5 o5 ?_ lf.cells _ Rlf.rng Tryz.underlying30 ?_ (sz_crt _) ?_); (· rfl); (· rfl); (· rfl); (· rfl))
    refine hff.mono ?_
    rintro e8 w8 ⟨b8, A8, c8, rfl, n8, m8, C8⟩
    replace hE := hE.trans (b8.mono hE.size)
    clear hff C8 b8
    simp only [Option.getD_none, List.length_nil, Option.isSome_none]
    go_wp2_with fail
    refine (works13_any _).mono ?_
    rintro r9 w9 ⟨rfl, b9⟩
    go_wp2_with fail
    go_ret
    exact ⟨rfl, hE.trans (b9.mono hE.size)⟩
   case pos =>
    rw [if_pos hlt] at hfind
    simp only [hfind] at hff
    have zlt : ¬ (mm : Int) ≤ (m : Int) := by omega
    have hml : m + 1 ≤ cs.length := by have := hmm.out; omega
    have htk : (cs.take (m + 1)).length = m + 1 := by rw [List.length_take]; omega
    go_wp2_with ((with_reducible refine wpList_load_mid ?_ 30 (.tmp 57) ?_ g5 o5 ?_ lf.cells _ Rlf.rng Tryz.underlying30 ?_ (sz_crt _) ?_); (· rfl); (· rfl); (· rfl); (· rfl))
    refine hff.mono ?_
    rintro e8 w8 ⟨b8, A8, c8, rfl, n8, m8, C8⟩
    replace hE := hE.trans (b8.mono hE.size)
    clear hff
    replace R5r := R5r.below b8
    have okr8 : ∀ c ∈ cs, c.ok w8 := fun c hc => (okr c hc).below b8
    clear b8
    simp only [Option.getD_some, Option.isSome_some] at n8 C8 ⊢
    obtain ⟨AT, hTr, CT⟩ := crs_take (k := m + 1) (.inr ⟨g5, o5, rfl, R5r⟩ : Crs w8 (some ⟨g5, o5, none⟩) cs) hml n5 m5
    have hTw := hTr ((m : Int) + 1) w8 (by omega)
    rw [htk]
    have hsq := same13_any (cA := c8) (cB := c5) C8 CT (fun c hc => okr8 c (List.mem_of_mem_take hc)) (fun c hc => okr8 c (List.mem_of_mem_take hc)) (by omega)
    rw [htk, decide_eq_true rfl] at hsq
    clear htk hTr
    go_wp2_with fail
    refine hsq.mono ?_
    rintro e9 w9 ⟨rfl, b9⟩
    replace hE := hE.trans (b9.mono hE.size)
    clear hsq b9 hTw
    go_wp2_with fail
    refine (works13_any _).mono ?_
    rintro r10 w10 ⟨rfl, b10⟩
    go_wp2_with fail
    go_ret
    exact ⟨rfl, hE.trans (b10.mono hE.size)⟩
end Go.Proofs.YtchaahnhpeoomaaGreat
