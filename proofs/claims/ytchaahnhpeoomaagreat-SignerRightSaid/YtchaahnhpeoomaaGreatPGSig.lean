/-
 Sets: The body of a set of two elements (lintelref10.Sets), and signed attributes (lintelref14.Attrs). Holds for every two elements.
-/
import Derived.Test.YtchaahnhpeoomaaGreatPGReg
import Derived.Test.YtchaahnhpeoomaaGreatPGRsa
import Derived.WalkLawsBesides
import Derived.BigQuiet
import Derived.Deep.DeepCutAuto
import Derived.Deep.CutRange
import Derived.Test.YtchaahnhpeoomaaGreatPGDer
import Derived.BigRegion
import Derived.Test.YtchaahnhpeoomaaGreatPGShB
import Derived.Laws.OwnMore
import Derived.Deep.DeepAppendWide
import Derived.Laws.Bits64
import Derived.Deep.RegionHeld3
namespace Go.Proofs.YtchaahnhpeoomaaGreat
set_option linter.unusedVariables false
set_option linter.unusedSimpArgs false
set_option maxRecDepth 20000
open Go.RowKit
def lessB (a b : List Nat) : Bool := Op.bytesLess (bstr a).toList (bstr b).toList
theorem ahead_any2 (A B : Option Addr) (n m c d : Nat) (xs ys : List Nat) (w : World) (hn : n = xs.length) (hm : m = ys.length) (hx : Rd .u8 w A xs) (hy : Rd .u8 w B ys) :
  Calls Tryz.prog 126 #[.slice A n c, .slice B m d] w (RetB (lessB xs ys) w) := by
 have h1 := conv_str A n c xs w hn hx
 have h2 := conv_str B m d ys w hm hy
 have h3 := Lib.hid (show lessB xs ys = Op.bytesLess (bstr xs).toList (bstr ys).toList from rfl)
 generalize bstr xs = X at *
 generalize bstr ys = Y at *
 clear hn hm
 go_enter Tryz.func126, Tryz.ntmps126
 go_wp2_with fail
 go_ret
 exact ⟨ret_bool h3.out.symm, rfl⟩
theorem info_u8s : (Tryz.prog.info? 22).map (fun i => (i.zero, i.size, i.bytes)) = some (some (.slice none 0 0), 1, 24) := by kernel_rfl
def sets2 (a b : List Nat) : List Nat := if lessB b a then b ++ a else a ++ b
set_option maxRecDepth 100000 in
set_option maxHeartbeats 1600000 in
theorem sets_any (g : Nat) (s1 s2 : Sl) (w : World) (h0 : w.cell? ⟨g, 0, none⟩ = some s1.val) (h1 : w.cell? ⟨g, 1, none⟩ = some s2.val) (r1 : Rd .u8 w s1.A s1.xs) (r2 : Rd .u8 w s2.A s2.xs) (l1 : s1.xs.length ≤ 100000) (l2 : s2.xs.length ≤ 100000) :
  Calls Tryz.prog 96 #[.slice (some ⟨g, 0, none⟩) 2 2] w (Gives .u8 (sets2 s1.xs s2.xs) w) := by
 have hg : g < w.heap.size := World.block_lt_of_cell? _ _ h0
 have i22 := info_u8s
 have own0 : (w.alloc (.cells #[s1.val] 22)).ownsRow w.heap.size 22 1 (.slice none 0 0) 0 [] := World.ownsRow_nil _ _ _ _
 unfold Sl.val at *
 go_enter Tryz.func96, Tryz.ntmps96
 go_wp2_with fail
 refine wp_loop_rounds 3 ?_
 rw [rounds_succ]
 go_upto_region 7 with (at_builtin; (refine wpList_append_V rfl (.tmp 16) (.tmp 21) _ rfl w.heap.size 22 (.slice none 0 0) 1 24 Tryz.underlying32 info_u8s rfl (by decide) _ 0 [] rfl own0 ⟨w.heap.size, 0, none⟩ 1 1 [.slice s1.A s1.xs.length s1.c] rfl rfl (new_at (vs := [.slice s1.A s1.xs.length s1.c])) (fun u hu => by simp at hu; subst hu; rfl) (by simp [maxLen]) (by decide) (by simp) ?_; intro v1 W1 own1 gr1 _))
 have own1 : W1.ownsRow w.heap.size 22 1 v1 1 [.slice s1.A s1.xs.length s1.c] := own1
 have gr1 : (w.alloc (.cells #[.slice s1.A s1.xs.length s1.c] 22)).grownBy W1 none := gr1
 have e1 : Below w.heap.size w W1 := ((Below.refl _ _).alloc (Nat.le_refl _) _).grown gr1 (by simp) (fun j e => by cases e)
 obtain ⟨g1, cap1, cur1, hv1, hB1, hh1, -, -, hcs1, htk1⟩ := own1.2.resolve_left (by rintro ⟨_, h⟩; cases h)
 subst hv1
 have C1 : Cut W1 g1 0 [.slice s1.A s1.xs.length s1.c] := Cut.of_heap hh1 fun i v hv => by
  rw [← htk1, List.getElem?_take] at hv
  split at hv
  ·simpa using hv
  ·cases hv
 clear gr1 hh1 hcs1 htk1 own0
 refine wp_loop_rounds 1 ?_
 rw [rounds_succ]
 go_wp2_with fail
 go_quiet (fail)
 have C2 := C1.drewN nq
 have own2 : (W1.drewN nq).ownsRow w.heap.size 22 1 (.slice (some ⟨g1, 0, none⟩) 1 cap1) 1 [.slice s1.A s1.xs.length s1.c] := own1
 have e2 := below_drewN e1 nq
 go_upto_region 10 with fail
 generalize W1.drewN nq = W2 at *
 clear C1 own1 e1
 have k0 : W2.cell? ⟨g, 0, none⟩ = some (.slice s1.A s1.xs.length s1.c) := (e2.cell (p := ⟨g, 0, none⟩) hg).trans h0
 have k1 : W2.cell? ⟨g, 1, none⟩ = some (.slice s2.A s2.xs.length s2.c) := (e2.cell (p := ⟨g, 1, none⟩) hg).trans h1
 have k2 : W2.cell? ⟨g1, 0, none⟩ = some (.slice s1.A s1.xs.length s1.c) := C2.cell (i := 0) rfl
 have k3 : W2.frozen? ⟨g1, 0, none⟩ = false := C2.frozen (i := 0) rfl
 have own3 := own2.stored 0 (.slice s1.A s1.xs.length s1.c)
 have e3 : Below w.heap.size w (W2.setCell ⟨g1, 0, none⟩ (.slice s1.A s1.xs.length s1.c)) := e2.setCell hB1 _
 have hg1 : g1 < W2.heap.size := C2.lt
 go_upto_region 5 with fail
 generalize W2.setCell ⟨g1, 0, none⟩ (.slice s1.A s1.xs.length s1.c) = W3 at *
 have own3 : W3.ownsRow w.heap.size 22 1 (.slice (some ⟨g1, 0, none⟩) 1 cap1) 1 [.slice s1.A s1.xs.length s1.c] := own3.1
 clear k0 k1 k2 k3 own2 C2 e2
 have k1 : W3.cell? ⟨g, 1, none⟩ = some (.slice s2.A s2.xs.length s2.c) := (e3.cell (p := ⟨g, 1, none⟩) hg).trans h1
 have own4 := own3.alloc (.cells #[.slice s2.A s2.xs.length s2.c] 22)
 have e4 := e3.alloc e3.size (.cells #[.slice s2.A s2.xs.length s2.c] 22)
 rw [rounds_succ]
 go_upto_region 7 with (at_builtin; (refine wpList_append_V rfl (.tmp 16) (.tmp 21) _ rfl w.heap.size 22 (.slice none 0 0) 1 24 Tryz.underlying32 info_u8s rfl (by decide) _ 1 [.slice s1.A s1.xs.length s1.c] rfl own4 ⟨W3.heap.size, 0, none⟩ 1 1 [.slice s2.A s2.xs.length s2.c] rfl rfl (new_at (vs := [.slice s2.A s2.xs.length s2.c])) (fun u hu => by simp at hu; subst hu; rfl) (by simp [maxLen]) (by decide) e4.size ?_; intro v5 W5 own5 gr5 _))
 have own5 : W5.ownsRow w.heap.size 22 1 v5 2 [.slice s1.A s1.xs.length s1.c, .slice s2.A s2.xs.length s2.c] := own5
 have gr5 : (W3.alloc (.cells #[.slice s2.A s2.xs.length s2.c] 22)).grownBy W5 (some g1) := gr5
 have e5 : Below w.heap.size w W5 := e4.grown gr5 e4.size (fun j e => by cases e; exact hB1)
 obtain ⟨g5, cap5, cur5, hv5, hB5, hh5, hc5, -, hcs5, htk5⟩ := own5.2.resolve_left (by rintro ⟨_, h⟩; cases h)
 subst hv5
 have C5 : Cut W5 g5 0 [.slice s1.A s1.xs.length s1.c, .slice s2.A s2.xs.length s2.c] := Cut.of_heap hh5 fun i v hv => by
  rw [← htk5, List.getElem?_take] at hv
  split at hv
  ·simpa using hv
  ·cases hv
 have hc5' : (2 : Int) ≤ (cap5 : Int) := by omega
 clear gr5 own5 hh5 hcs5 htk5 own3 own4 e4 k1
 have k1 : W5.cell? ⟨g, 1, none⟩ = some (.slice s2.A s2.xs.length s2.c) := (e5.cell (p := ⟨g, 1, none⟩) hg).trans h1
 have k2 : W5.cell? ⟨g5, 0, none⟩ = some (.slice s1.A s1.xs.length s1.c) := C5.cell (i := 0) rfl
 have r15 := r1.below e5
 have r25 := r2.below e5
 have hA : Hid (∀ n, Calls Tryz.prog 126 #[.slice s2.A s2.xs.length s2.c, .slice s1.A s1.xs.length s1.c] (W5.drewN n) fun e w' => e = .returned (.bool (lessB s2.xs s1.xs)) ∧ w' = W5.drewN n) := fun n => (ahead_any2 s2.A s1.A s2.xs.length s1.xs.length s2.c s1.c s2.xs s1.xs (W5.drewN n) rfl rfl (r25.drewN n) (r15.drewN n)).mono fun _ _ h => ⟨h.1, h.2.symm⟩
 have hg5 : g5 < W5.heap.size := C5.lt
 have hgg : g ≠ g5 := by omega
 cases hb : lessB s2.xs s1.xs with
 | true =>
  have HB := Lib.hid (show sets2 s1.xs s2.xs = s2.xs ++ s1.xs by unfold sets2; rw [hb]; rfl)
  rw [hb] at hA
  clear hb
  refine wp_loop_rounds 2 ?_
  rw [rounds_succ]
  go_wp2_with fail
  go_quiet ((go_at_call 126; exact Calls.quiet_of_same (hA.out _)))
  go_upto_region 8 with fail
  have C6 := C5.drewN nq
  have e6 := below_drewN e5 nq
  generalize W5.drewN nq = W6 at *
  have k2 : W6.cell? ⟨g5, 0, none⟩ = some (.slice s1.A s1.xs.length s1.c) := C6.cell (i := 0) rfl
  have k3 : W6.cell? ⟨g5, 1, none⟩ = some (.slice s2.A s2.xs.length s2.c) := C6.cell (i := 1) rfl
  have f3 : W6.frozen? ⟨g5, 1, none⟩ = false := C6.frozen (i := 1) rfl
  have e7 : Below w.heap.size w (W6.setCell ⟨g5, 1, none⟩ (.slice s1.A s1.xs.length s1.c)) := e6.setCell hB5 _
  have C7 : Cut (W6.setCell ⟨g5, 1, none⟩ (.slice s1.A s1.xs.length s1.c)) g5 0 [.slice s1.A s1.xs.length s1.c, .slice s1.A s1.xs.length s1.c] := C6.set (i := 1) rfl _
  go_upto_region 9 with fail
  generalize W6.setCell ⟨g5, 1, none⟩ (.slice s1.A s1.xs.length s1.c) = W7 at *
  clear C5 e5 C6 e6 k1 k2 k3 f3 hA
  go_wp2_with fail
  rw [rounds_succ]
  go_wp2_with fail
  go_quiet (fail)
  go_upto_region 10 with fail
  have C7 := C7.drewN nq
  have e7 := below_drewN e7 nq
  generalize W7.drewN nq = W6 at *
  have k1 : W6.cell? ⟨g, 1, none⟩ = some (.slice s2.A s2.xs.length s2.c) := (e7.cell (p := ⟨g, 1, none⟩) hg).trans h1
  have k3 : W6.cell? ⟨g5, 0, none⟩ = some (.slice s1.A s1.xs.length s1.c) := C7.cell (i := 0) rfl
  have f3 : W6.frozen? ⟨g5, 0, none⟩ = false := C7.frozen (i := 0) rfl
  have e8 : Below w.heap.size w (W6.setCell ⟨g5, 0, none⟩ (.slice s2.A s2.xs.length s2.c)) := e7.setCell hB5 _
  have C8 : Cut (W6.setCell ⟨g5, 0, none⟩ (.slice s2.A s2.xs.length s2.c)) g5 0 [.slice s2.A s2.xs.length s2.c, .slice s1.A s1.xs.length s1.c] := C7.set (i := 0) rfl _
  go_upto_region 5 with fail
  generalize W6.setCell ⟨g5, 0, none⟩ (.slice s2.A s2.xs.length s2.c) = W8 at *
  clear C7 e7 k1 k3 f3
  have r1 := r1.below e8
  have r2 := r2.below e8
  clear r15 r25
  rw [rounds_succ]
  go_wp2_with fail
  refine wp_loop_rounds 3 ?_
  rw [rounds_succ]
  have ownN : W8.ownsRow w.heap.size 5 1 (.slice none 0 0) 0 (ints .u8 []) := World.ownsRow_nil _ _ _ _
  have ka : W8.cell? ⟨g5, 0, none⟩ = some (.slice s2.A s2.xs.length s2.c) := C8.cell (i := 0) rfl
  go_wp2_with (at_builtin; (refine wpList_append_W _ rfl (.tmp 60) (.tmp 64) _ rfl w.heap.size 5 .u8 1 Tryz.underlying22 info_u8 (.slice none 0 0) 0 [] rfl ownN s2.A s2.xs.length s2.c s2.xs rfl rfl r2 (by simp only [maxLen]; omega) (by omega) e8.size ?_; intro A9 c9 W9 own9 gr9 _))
  have e9 := grow_step e8 e8.size ownN gr9
  have r19 := r1.grown gr9 (fun g h => by cases h)
  have kb : W9.cell? ⟨g5, 1, none⟩ = some (.slice s1.A s1.xs.length s1.c) := (C8.grown gr9 (by simp [Value.ownBlock])).cell (i := 1) rfl
  rw [Nat.zero_add, List.nil_append] at own9
  rw [rounds_succ]
  go_wp2_with (at_builtin; (refine wpList_append_W _ rfl (.tmp 60) (.tmp 64) _ rfl w.heap.size 5 .u8 1 Tryz.underlying22 info_u8 (.slice A9 s2.xs.length c9) s2.xs.length s2.xs rfl own9 s1.A s1.xs.length s1.c s1.xs rfl rfl r19 (by simp only [maxLen]; omega) (by omega) e9.size ?_; intro A10 c10 W10 own10 gr10 _))
  have e10 := grow_step e9 e9.size own9 gr10
  rw [rounds_succ]
  go_wp2_with fail
  go_ret
  rw [HB.out]
  exact gives_of_row own10 rfl e10
 | false =>
  have HB := Lib.hid (show sets2 s1.xs s2.xs = s1.xs ++ s2.xs by unfold sets2; rw [hb]; rfl)
  rw [hb] at hA
  clear hb
  refine wp_loop_rounds 2 ?_
  rw [rounds_succ]
  go_wp2_with fail
  go_quiet ((go_at_call 126; exact Calls.quiet_of_same (hA.out _)))
  go_upto_region 10 with fail
  have C6 := C5.drewN nq
  have e6 := below_drewN e5 nq
  generalize W5.drewN nq = W6 at *
  have k1 : W6.cell? ⟨g, 1, none⟩ = some (.slice s2.A s2.xs.length s2.c) := (e6.cell (p := ⟨g, 1, none⟩) hg).trans h1
  have k3 : W6.cell? ⟨g5, 1, none⟩ = some (.slice s2.A s2.xs.length s2.c) := C6.cell (i := 1) rfl
  have f3 : W6.frozen? ⟨g5, 1, none⟩ = false := C6.frozen (i := 1) rfl
  have e8 : Below w.heap.size w (W6.setCell ⟨g5, 1, none⟩ (.slice s2.A s2.xs.length s2.c)) := e6.setCell hB5 _
  have C8 : Cut (W6.setCell ⟨g5, 1, none⟩ (.slice s2.A s2.xs.length s2.c)) g5 0 [.slice s1.A s1.xs.length s1.c, .slice s2.A s2.xs.length s2.c] := C6.set (i := 1) rfl _
  go_upto_region 5 with fail
  generalize W6.setCell ⟨g5, 1, none⟩ (.slice s2.A s2.xs.length s2.c) = W8 at *
  clear C5 e5 C6 e6 k1 k2 k3 f3 hA
  have r1 := r1.below e8
  have r2 := r2.below e8
  clear r15 r25
  rw [rounds_succ]
  go_wp2_with fail
  refine wp_loop_rounds 3 ?_
  rw [rounds_succ]
  have ownN : W8.ownsRow w.heap.size 5 1 (.slice none 0 0) 0 (ints .u8 []) := World.ownsRow_nil _ _ _ _
  have ka : W8.cell? ⟨g5, 0, none⟩ = some (.slice s1.A s1.xs.length s1.c) := C8.cell (i := 0) rfl
  go_wp2_with (at_builtin; (refine wpList_append_W _ rfl (.tmp 60) (.tmp 64) _ rfl w.heap.size 5 .u8 1 Tryz.underlying22 info_u8 (.slice none 0 0) 0 [] rfl ownN s1.A s1.xs.length s1.c s1.xs rfl rfl r1 (by simp only [maxLen]; omega) (by omega) e8.size ?_; intro A9 c9 W9 own9 gr9 _))
  have e9 := grow_step e8 e8.size ownN gr9
  have r29 := r2.grown gr9 (fun g h => by cases h)
  have kb : W9.cell? ⟨g5, 1, none⟩ = some (.slice s2.A s2.xs.length s2.c) := (C8.grown gr9 (by simp [Value.ownBlock])).cell (i := 1) rfl
  rw [Nat.zero_add, List.nil_append] at own9
  rw [rounds_succ]
  go_wp2_with (at_builtin; (refine wpList_append_W _ rfl (.tmp 60) (.tmp 64) _ rfl w.heap.size 5 .u8 1 Tryz.underlying22 info_u8 (.slice A9 s1.xs.length c9) s1.xs.length s1.xs rfl own9 s2.A s2.xs.length s2.c s2.xs rfl rfl r29 (by simp only [maxLen]; omega) (by omega) e9.size ?_; intro A10 c10 W10 own10 gr10 _))
  have e10 := grow_step e9 e9.size own9 gr10
  rw [rounds_succ]
  go_wp2_with fail
  go_ret
  rw [HB.out]
  exact gives_of_row own10 rfl e10
end Go.Proofs.YtchaahnhpeoomaaGreat
namespace Go.Proofs.YtchaahnhpeoomaaGreat
set_option linter.unusedVariables false
set_option linter.unusedSimpArgs false
set_option maxRecDepth 20000
open Go.RowKit
def kindOidB : List Nat := [42, 134, 72, 134, 247, 13, 1, 9, 3]
def digOidB : List Nat := [42, 134, 72, 134, 247, 13, 1, 9, 4]
def attrsB (k sum : List Nat) : List Nat := wr 49 (sets2 (seqB [wr 6 kindOidB, wr 49 (wr 6 k)]) (seqB [wr 6 digOidB, wr 49 (wr 4 sum)]))
theorem sets2_len (a b : List Nat) : (sets2 a b).length = a.length + b.length := by
 unfold sets2
 split <;> simp
 omega
theorem sets2_lim {a b : List Nat} (ha : Lim 256 a) (hb : Lim 256 b) : Lim 256 (sets2 a b) := by
 unfold sets2
 split
 ·exact hb.append ha
 ·exact ha.append hb
theorem attrsB_ok {k sum : List Nat} (lk : Lim 256 k) (ls : Lim 256 sum) (hk : k.length ≤ 1000) (hs : sum.length = 32) : (attrsB k sum).length ≤ 5000 ∧ Lim 256 (attrsB k sum) ∧ 0 < (attrsB k sum).length := by
 have a1 : (wr 6 kindOidB).length ≤ 15 := wr_len (by decide)
 have a2 : (wr 6 digOidB).length ≤ 15 := wr_len (by decide)
 have a3 : (wr 6 k).length ≤ 1006 := Nat.le_trans (wr_len (by omega)) (by omega)
 have a4 : (wr 4 sum).length ≤ 38 := Nat.le_trans (wr_len (by omega)) (by omega)
 have a5 : (wr 49 (wr 6 k)).length ≤ 1012 := Nat.le_trans (wr_len (by omega)) (by omega)
 have a6 : (wr 49 (wr 4 sum)).length ≤ 44 := Nat.le_trans (wr_len (by omega)) (by omega)
 have a7 : (seqB [wr 6 kindOidB, wr 49 (wr 6 k)]).length ≤ 1033 := Nat.le_trans (seqB_len (n := 1027) (by simp; omega) (by omega)) (by omega)
 have a8 : (seqB [wr 6 digOidB, wr 49 (wr 4 sum)]).length ≤ 65 := Nat.le_trans (seqB_len (n := 59) (by simp; omega) (by omega)) (by omega)
 have b1 : Lim 256 (seqB [wr 6 kindOidB, wr 49 (wr 6 k)]) := seqB_lim (fun x hx => by
  simp at hx
  rcases hx with rfl | rfl
  ·exact wr_lim (by decide) (lim_c (by decide)) (by decide)
  ·exact wr_lim (by decide) (wr_lim (by decide) lk (by omega)) (by omega)) (by simp; omega)
 have b2 : Lim 256 (seqB [wr 6 digOidB, wr 49 (wr 4 sum)]) := seqB_lim (fun x hx => by
  simp at hx
  rcases hx with rfl | rfl
  ·exact wr_lim (by decide) (lim_c (by decide)) (by decide)
  ·exact wr_lim (by decide) (wr_lim (by decide) ls (by omega)) (by omega)) (by simp; omega)
 have c1 := sets2_len (seqB [wr 6 kindOidB, wr 49 (wr 6 k)]) (seqB [wr 6 digOidB, wr 49 (wr 4 sum)])
 exact ⟨Nat.le_trans (wr_len (by omega)) (by omega), wr_lim (by decide) (sets2_lim b1 b2) (by omega), wr_pos _ _⟩
set_option maxRecDepth 100000 in
set_option maxHeartbeats 3200000 in
theorem attrs_any (k sum : Sl) (w : World) (hk : k.ok w) (hs : sum.ok w) (lk : k.xs.length ≤ 1000) (ls : sum.xs.length = 32) :
  Calls Tryz.prog 66 #[k.val, sum.val] w (Gives .u8 (attrsB k.xs sum.xs) w) := by
 have kc := conv_const
 have HA := Lib.hid (show attrsB k.xs sum.xs = wr 49 (sets2 (seqB [wr 6 kindOidB, wr 49 (wr 6 k.xs)]) (seqB [wr 6 digOidB, wr 49 (wr 4 sum.xs)])) from rfl)
 have HL := Lib.hid ls
 have R1 : ∀ W : World, Rd .u8 (W.alloc (.cells #[.int .u8 42, .int .u8 134, .int .u8 72, .int .u8 134, .int .u8 247, .int .u8 13, .int .u8 1, .int .u8 9, .int .u8 3] 5 (9, 10))) (some ⟨W.heap.size, 0, none⟩) kindOidB := fun W => rd_mark9 W kindOidB _ rfl
 have R2 : ∀ W : World, Rd .u8 (W.alloc (.cells #[.int .u8 42, .int .u8 134, .int .u8 72, .int .u8 134, .int .u8 247, .int .u8 13, .int .u8 1, .int .u8 9, .int .u8 4] 5 (9, 10))) (some ⟨W.heap.size, 0, none⟩) digOidB := fun W => rd_mark9 W digOidB _ rfl
 have HK := Lib.hid (show kindOidB.length = 9 from rfl)
 have HD := Lib.hid (show digOidB.length = 9 from rfl)
 generalize attrsB k.xs sum.xs = AT at *
 generalize kindOidB = ko at *
 generalize digOidB = dg at *
 unfold Sl.val
 clear ls
 go_enter Tryz.func66, Tryz.ntmps66
 go_wp2_with fail
 have BB1 : Below w.heap.size w w := Below.refl _ _
 have e10 : Below w.heap.size w (w.alloc (.cells #[.int .u8 42, .int .u8 134, .int .u8 72, .int .u8 134, .int .u8 247, .int .u8 13, .int .u8 1, .int .u8 9, .int .u8 3] 5 (9, 10))) := (Below.refl _ _).alloc (Nat.le_refl _) _
 have q10 : Rd .u8 (w.alloc (.cells #[.int .u8 42, .int .u8 134, .int .u8 72, .int .u8 134, .int .u8 247, .int .u8 13, .int .u8 1, .int .u8 9, .int .u8 3] 5 (9, 10))) (some ⟨w.heap.size, 0, none⟩) ko := R1 w
 have e10 := BB1.trans (e10.mono BB1.size)
 generalize w.alloc (.cells #[.int .u8 42, .int .u8 134, .int .u8 72, .int .u8 134, .int .u8 247, .int .u8 13, .int .u8 1, .int .u8 9, .int .u8 3] 5 (9, 10)) = V10 at *
 refine (refWrite_any 6 (some ⟨w.heap.size, 0, none⟩) 9 9 ko V10 (by omega) HK.out.symm (by omega) q10).mono ?_
 rintro r V11 ⟨A11, c11, rfl, -, -, o11, f11⟩
 have o11 := o11.rd
 have e11 := e10.trans (f11.mono e10.size)
 go_wp2_with fail
 refine (refWrite_any 6 k.A k.xs.length k.c k.xs V11 (by omega) rfl (by omega) ((hk.below e11).rd)).mono ?_
 rintro r V12 ⟨A12, c12, rfl, -, -, o12, f12⟩
 have o11 := o11.below f12
 have o12 := o12.rd
 have e12 := e11.trans (f12.mono e11.size)
 have l12 : (wr 6 k.xs).length ≤ 1006 := Nat.le_trans (wr_len (by omega)) (by omega)
 go_wp2_with fail
 refine (refWrite_any 49 A12 _ c12 (wr 6 k.xs) V12 (by omega) rfl (by omega) o12).mono ?_
 rintro r V13 ⟨A13, c13, rfl, -, -, o13, f13⟩
 have o11 := o11.below f13
 have o13 := o13.rd
 have e13 := e12.trans (f13.mono e12.size)
 have l13 : (wr 49 (wr 6 k.xs)).length ≤ 1012 := Nat.le_trans (wr_len (by omega)) (by omega)
 have l11 : (wr 6 ko).length ≤ 15 := by have := wr_len (tag := 6) (b := ko) (by rw [HK.out]; omega); rw [HK.out] at this; exact this
 go_wp2_with fail
 have hq := refSeq_any (some ⟨V13.heap.size, 0, none⟩) 2 2 [⟨A11, c11, wr 6 ko⟩, ⟨A13, c13, wr 49 (wr 6 k.xs)⟩] (V13.alloc (.cells #[.slice A11 (wr 6 ko).length c11, .slice A13 (wr 49 (wr 6 k.xs)).length c13] 22)) rfl (by omega) (by simp [joinS]; omega) (sls_lit _ rfl (all2 o11 o13))
 refine hq.mono ?_
 clear hq
 have e14 := e13.alloc e13.size (.cells #[.slice A11 (wr 6 ko).length c11, .slice A13 (wr 49 (wr 6 k.xs)).length c13] 22)
 rintro r V15 ⟨A15, c15, rfl, -, -, o15, f15⟩
 have e15 := e14.trans (f15.mono e14.size)
 have o15 := o15.rd
 have l15 : (seqB [wr 6 ko, wr 49 (wr 6 k.xs)]).length ≤ 1033 := Nat.le_trans (seqB_len (n := 1027) (by simp; omega) (by omega)) (by omega)
 clear o11 o12 o13 f11 f12 f13 e11 e12 e13 e14
 go_wp2_with fail
 have BB2 := e15
 have e20 : Below V15.heap.size V15 (V15.alloc (.cells #[.int .u8 42, .int .u8 134, .int .u8 72, .int .u8 134, .int .u8 247, .int .u8 13, .int .u8 1, .int .u8 9, .int .u8 4] 5 (9, 10))) := (Below.refl _ _).alloc (Nat.le_refl _) _
 have q20 : Rd .u8 (V15.alloc (.cells #[.int .u8 42, .int .u8 134, .int .u8 72, .int .u8 134, .int .u8 247, .int .u8 13, .int .u8 1, .int .u8 9, .int .u8 4] 5 (9, 10))) (some ⟨V15.heap.size, 0, none⟩) dg := R2 V15
 have e20 := BB2.trans (e20.mono BB2.size)
 have o15x := o15.alloc (.cells #[.int .u8 42, .int .u8 134, .int .u8 72, .int .u8 134, .int .u8 247, .int .u8 13, .int .u8 1, .int .u8 9, .int .u8 4] 5 (9, 10))
 generalize V15.alloc (.cells #[.int .u8 42, .int .u8 134, .int .u8 72, .int .u8 134, .int .u8 247, .int .u8 13, .int .u8 1, .int .u8 9, .int .u8 4] 5 (9, 10)) = V20 at *
 refine (refWrite_any 6 (some ⟨V15.heap.size, 0, none⟩) 9 9 dg V20 (by omega) HD.out.symm (by omega) q20).mono ?_
 rintro r V21 ⟨A21, c21, rfl, -, -, o21, f21⟩
 have o21 := o21.rd
 have e21 := e20.trans (f21.mono e20.size)
 go_wp2_with fail
 refine (refWrite_any 4 sum.A sum.xs.length sum.c sum.xs V21 (by omega) rfl (by rw [HL.out]; omega) ((hs.below e21).rd)).mono ?_
 rintro r V22 ⟨A22, c22, rfl, -, -, o22, f22⟩
 have o21 := o21.below f22
 have o22 := o22.rd
 have e22 := e21.trans (f22.mono e21.size)
 have l22 : (wr 4 sum.xs).length ≤ 1006 := Nat.le_trans (wr_len (by rw [HL.out]; omega)) (by rw [HL.out]; omega)
 go_wp2_with fail
 refine (refWrite_any 49 A22 _ c22 (wr 4 sum.xs) V22 (by omega) rfl (by omega) o22).mono ?_
 rintro r V23 ⟨A23, c23, rfl, -, -, o23, f23⟩
 have o21 := o21.below f23
 have o23 := o23.rd
 have e23 := e22.trans (f23.mono e22.size)
 have l23 : (wr 49 (wr 4 sum.xs)).length ≤ 1012 := Nat.le_trans (wr_len (by omega)) (by omega)
 have l21 : (wr 6 dg).length ≤ 15 := by have := wr_len (tag := 6) (b := dg) (by rw [HD.out]; omega); rw [HD.out] at this; exact this
 go_wp2_with fail
 have hq := refSeq_any (some ⟨V23.heap.size, 0, none⟩) 2 2 [⟨A21, c21, wr 6 dg⟩, ⟨A23, c23, wr 49 (wr 4 sum.xs)⟩] (V23.alloc (.cells #[.slice A21 (wr 6 dg).length c21, .slice A23 (wr 49 (wr 4 sum.xs)).length c23] 22)) rfl (by omega) (by simp [joinS]; omega) (sls_lit _ rfl (all2 o21 o23))
 refine hq.mono ?_
 clear hq
 have e24 := e23.alloc e23.size (.cells #[.slice A21 (wr 6 dg).length c21, .slice A23 (wr 49 (wr 4 sum.xs)).length c23] 22)
 rintro r V25 ⟨A25, c25, rfl, -, -, o25, f25⟩
 have e25 := e24.trans (f25.mono e24.size)
 have o15y := ((((o15x.below f21).below f22).below f23).alloc (.cells #[.slice A21 (wr 6 dg).length c21, .slice A23 (wr 49 (wr 4 sum.xs)).length c23] 22)).below f25
 have o25 := o25.rd
 have l25 : (seqB [wr 6 dg, wr 49 (wr 4 sum.xs)]).length ≤ 1033 := Nat.le_trans (seqB_len (n := 1027) (by simp; omega) (by omega)) (by omega)
 clear o21 o22 o23 f21 f22 f23 e21 e22 e23 e24
 go_wp2_with fail
 have e6 := e25.alloc e25.size (.cells #[.slice A15 (seqB [wr 6 ko, wr 49 (wr 6 k.xs)]).length c15, .slice A25 (seqB [wr 6 dg, wr 49 (wr 4 sum.xs)]).length c25] 22)
 have hq := sets_any V25.heap.size ⟨A15, c15, seqB [wr 6 ko, wr 49 (wr 6 k.xs)]⟩ ⟨A25, c25, seqB [wr 6 dg, wr 49 (wr 4 sum.xs)]⟩ (V25.alloc (.cells #[.slice A15 (seqB [wr 6 ko, wr 49 (wr 6 k.xs)]).length c15, .slice A25 (seqB [wr 6 dg, wr 49 (wr 4 sum.xs)]).length c25] 22)) (by simp [Sl.val]) (by simp [Sl.val]) (o15y.alloc _) (o25.alloc _) (by show (seqB _).length ≤ _; omega) (by show (seqB _).length ≤ _; omega)
 refine hq.mono ?_
 clear hq
 rintro r V7 ⟨A7, c7, rfl, -, -, o7, f7⟩
 have e7 := e6.trans (f7.mono e6.size)
 have o7 := o7.rd
 have l7 : (sets2 (seqB [wr 6 ko, wr 49 (wr 6 k.xs)]) (seqB [wr 6 dg, wr 49 (wr 4 sum.xs)])).length ≤ 2200 := by rw [sets2_len]; omega
 dsimp only at o7 HA
 dsimp only
 generalize sets2 (seqB [wr 6 ko, wr 49 (wr 6 k.xs)]) (seqB [wr 6 dg, wr 49 (wr 4 sum.xs)]) = st at *
 go_wp2_with fail
 refine (refWrite_any 49 A7 st.length c7 st V7 (by omega) rfl (by omega) o7).mono ?_
 rintro r V8 ⟨A8, c8, rfl, n8, m8, o8, f8⟩
 go_wp2_with fail
 go_ret
 rw [HA.out]
 exact ⟨A8, c8, rfl, n8, m8, o8.mono e7.size, e7.trans (f8.mono e7.size)⟩
end Go.Proofs.YtchaahnhpeoomaaGreat
namespace Go.Proofs.YtchaahnhpeoomaaGreat
set_option linter.unusedVariables false
set_option linter.unusedSimpArgs false
set_option maxRecDepth 20000
open Go.RowKit
theorem size_elem : (Tryz.prog.info? 118).map (·.size) = some 3 := by kernel_rfl
def ElemPost (xs : List Nat) (w : World) (e : Ending) (w' : World) : Prop :=
 Below w.heap.size w w' ∧ match elemB xs with
  | some (f, m) => ∃ (t : Nat) (A1 : Option Addr) (c1 : Nat) (A2 : Option Addr) (c2 : Nat) (A3 : Option Addr) (c3 : Nat),
   e = .returned (.tuple #[.agg #[.int .u8 (t : Int), .slice A1 m c1, .slice A2 (f + m) c2], .slice A3 (xs.length - (f + m)) c3, .bool true]) ∧ t < 256 ∧ (m ≤ c1 ∧ c1 ≤ maxLen ∧ f + m ≤ c2 ∧ c2 ≤ maxLen) ∧
    Rd .u8 w' A1 ((xs.drop f).take m) ∧ Rd .u8 w' A2 (xs.take (f + m)) ∧ Rd .u8 w' A3 (xs.drop (f + m))
  | none => e = .returned (.tuple #[.agg #[.int .u8 0, .slice none 0 0, .slice none 0 0], .slice none 0 0, .bool false])
theorem Rd.part {k : IntKind} {w : World} {b o : Nat} {xs : List Nat} (h : Rd k w (some ⟨b, o, none⟩) xs) (f m : Nat) : Rd k w (some ⟨b, o + f, none⟩) ((xs.drop f).take m) := by
 rcases h with rfl | ⟨b', o', e, hb, hc⟩
 ·exact Or.inl (by simp)
 ·cases e
  refine Or.inr ⟨b, o + f, rfl, hb, fun i x hx => ?_⟩
  rw [List.getElem?_take] at hx
  split at hx
  ·rw [List.getElem?_drop] at hx
   rw [Nat.add_assoc]
   exact hc _ _ hx
  ·cases hx
theorem Rd.rest {k : IntKind} {w : World} {b o : Nat} {xs : List Nat} (h : Rd k w (some ⟨b, o, none⟩) xs) (f : Nat) : Rd k w (some ⟨b, o + f, none⟩) (xs.drop f) := by
 have := h.part f (xs.drop f).length
 rwa [List.take_length] at this
set_option maxRecDepth 100000 in
set_option maxHeartbeats 1600000 in
theorem elem_any (A : Option Addr) (n c : Nat) (xs : List Nat) (w : World) (hn : n = xs.length) (hc : n ≤ c) (hm : c ≤ 9223372036854775807) (hx : Rd .u8 w A xs) (lx : Lim 256 xs) :
  Calls Tryz.prog 91 #[.slice A n c] w (ElemPost xs w) := by
 subst hn
 obtain ⟨w1, hw1⟩ : ∃ w1, w1 = w.alloc (.cells #[.int .u8 0, .slice none 0 0, .slice none 0 0] 118) := ⟨_, rfl⟩
 have e1 : Below w.heap.size w w1 := by rw [hw1]; exact (Below.refl _ _).alloc (Nat.le_refl _) _
 have hx1 := hx.below e1
 have K : Cut w1 w.heap.size 0 [.int .u8 0, .slice none 0 0, .slice none 0 0] := by rw [hw1]; exact Cut.of_heap (heap_alloc_new _ _) fun i v hv => by simpa using hv
 have hH := head_any A xs.length c xs w1 rfl hc hx1 lx
 have hE : ∃ E, E = elemB xs := ⟨_, rfl⟩
 go_enter Tryz.func91, Tryz.ntmps91
 go_wp2_with fail
 rw [← hw1]
 clear hw1
 refine hH.mono ?_
 rintro r w2 ⟨f, m, b, q, rfl, rfl, hp⟩
 have K := K.drewN q
 have hx2 := hx1.drewN q
 have e2 := below_drewN e1 q
 generalize w1.drewN q = w2 at *
 have k0 : w2.cell? ⟨w.heap.size, 0, none⟩ = some (.int .u8 0) := K.cell (i := 0) rfl
 have k1 : w2.cell? ⟨w.heap.size, 1, none⟩ = some (.slice none 0 0) := K.cell (i := 1) rfl
 have k2 : w2.cell? ⟨w.heap.size, 2, none⟩ = some (.slice none 0 0) := K.cell (i := 2) rfl
 have f0 : w2.frozen? ⟨w.heap.size, 0, none⟩ = false := K.frozen (i := 0) rfl
 have f1 : w2.frozen? ⟨w.heap.size, 1, none⟩ = false := K.frozen (i := 1) rfl
 have f2 : w2.frozen? ⟨w.heap.size, 2, none⟩ = false := K.frozen (i := 2) rfl
 clear hH hx1 e1 hE
 cases hh : headB xs with
 | none =>
  rw [hh] at hp
  obtain rfl : b = false := hp
  have he : elemB xs = none := by unfold elemB; rw [hh]
  have HE := Lib.hid he
  clear he hh
  go_wp2
  have hc : Cut ((((w2.setCell ⟨w.heap.size, 0, none⟩ (.int .u8 0)).setCell ⟨w.heap.size, 1, none⟩ (.slice none 0 0)).setCell ⟨w.heap.size, 2, none⟩ (.slice none 0 0))) w.heap.size 0 [.int .u8 0, .slice none 0 0, .slice none 0 0] := (((K.set (i := 0) rfl _).set (i := 1) rfl _).set (i := 2) rfl _)
  refine bodyPost_ret (results_row_tmp2 rfl _ _ w.heap.size 0 [.int .u8 0, .slice none 0 0, .slice none 0 0] _ rfl hc.range Tryz.underlying118 rfl size_elem) rfl ?_
  refine ⟨((e2.setCell (Nat.le_refl _) _).setCell (Nat.le_refl _) _).setCell (Nat.le_refl _) _, ?_⟩
  rw [HE.out]
  rfl
 | some p =>
  obtain ⟨f', m'⟩ := p
  rw [hh] at hp
  obtain ⟨rfl, rfl, rfl⟩ := hp
  dsimp only
  obtain ⟨hf1, hf2, hne⟩ := headB_le hh
  have hlt := headB_lt lx hh
  by_cases hle : f + m ≤ xs.length
  ·have he : elemB xs = some (f, m) := elemB_some.2 ⟨hh, hle⟩
   have HE := Lib.hid he
   have z1 : decide ((xs.length : Int) - (f : Int) < (m : Int)) = false := decide_eq_false (by omega)
   obtain ⟨t, hxt⟩ := get_of_lt (xs := xs) (i := 0) (by omega)
   have htb := lx.get hxt
   obtain ⟨b, o, rfl, hb, hcl⟩ := hx2.pos hxt
   have ct : w2.cell? ⟨b, o, none⟩ = some (.int .u8 (t : Int)) := hcl 0 t hxt
   have hbw : b ≠ w.heap.size := by
    rcases hx with h0 | ⟨b', o', h1, h2, _⟩
    ·subst h0
     simp at hxt
    ·cases h1
     omega
   have wr1 : IntKind.i64.wrap ((f : Int) + (m : Int)) = (f : Int) + (m : Int) := IntWalk.i64_in _ (by omega)
   have q1 : (f : Int) ≤ (f : Int) + (m : Int) := by omega
   have q2 : (f : Int) + (m : Int) ≤ (c : Int) := by omega
   have q3 : (f : Int) + (m : Int) ≤ (xs.length : Int) := by omega
   have q4 : (0 : Int) < (xs.length : Int) := by omega
   clear he hh hcl hxt
   by_cases hcf : c = f + m
   ·subst hcf
    by_cases hm0 : m = 0
    ·subst hm0
     rw [Nat.add_zero] at *
     go_wp2
     go_region
     go_wp2
     have hc3 := (((K.set (i := 0) rfl (.int .u8 (t : Int))).set (i := 1) rfl (.slice (some ⟨b, o, none⟩) 0 (0))).set (i := 2) rfl (.slice (some ⟨b, o, none⟩) f f))
     have hx3 := ((hx2.setCell (p := ⟨w.heap.size, 0, none⟩) (Off.of_ne hbw) (.int .u8 (t : Int))).setCell (p := ⟨w.heap.size, 0 + 1, none⟩) (Off.of_ne hbw) (.slice (some ⟨b, o, none⟩) 0 (0))).setCell (p := ⟨w.heap.size, 0 + 2, none⟩) (Off.of_ne hbw) (.slice (some ⟨b, o, none⟩) f f)
     refine bodyPost_ret (results_row_tmp2 rfl _ _ w.heap.size 0 [.int .u8 (t : Int), .slice (some ⟨b, o, none⟩) 0 (0), .slice (some ⟨b, o, none⟩) f f] _ rfl hc3.range Tryz.underlying118 rfl size_elem) rfl ?_
     refine ⟨below_drewN (((e2.setCell (Nat.le_refl _) _).setCell (Nat.le_refl _) _).setCell (Nat.le_refl _) _) 1, ?_⟩
     rw [HE.out]
     dsimp only
     rw [show xs.length - (f + 0) = 0 by omega]
     exact ⟨t, _, _, _, _, _, _, by rfl, htb, by simp only [maxLen]; omega, by rw [List.take_zero]; exact Rd.nil _ _ _, hx3.take _, by rw [List.drop_eq_nil_of_le (by omega)]; exact Rd.nil _ _ _⟩
    ·have hcf' : ¬ f + m = f := by omega
     clear hm0
     go_wp2
     go_region
     go_wp2
     have hc3 := (((K.set (i := 0) rfl (.int .u8 (t : Int))).set (i := 1) rfl (.slice (some ⟨b, o + f, none⟩) m m)).set (i := 2) rfl (.slice (some ⟨b, o, none⟩) (f + m) (f + m)))
     have hx3 := ((hx2.setCell (p := ⟨w.heap.size, 0, none⟩) (Off.of_ne hbw) (.int .u8 (t : Int))).setCell (p := ⟨w.heap.size, 0 + 1, none⟩) (Off.of_ne hbw) (.slice (some ⟨b, o + f, none⟩) m m)).setCell (p := ⟨w.heap.size, 0 + 2, none⟩) (Off.of_ne hbw) (.slice (some ⟨b, o, none⟩) (f + m) (f + m))
     refine bodyPost_ret (results_row_tmp2 rfl _ _ w.heap.size 0 [.int .u8 (t : Int), .slice (some ⟨b, o + f, none⟩) m m, .slice (some ⟨b, o, none⟩) (f + m) (f + m)] _ rfl hc3.range Tryz.underlying118 rfl size_elem) rfl ?_
     refine ⟨below_drewN (((e2.setCell (Nat.le_refl _) _).setCell (Nat.le_refl _) _).setCell (Nat.le_refl _) _) 1, ?_⟩
     rw [HE.out]
     exact ⟨t, _, _, _, _, _, _, by rfl, htb, by simp only [maxLen]; omega, hx3.part f m, hx3.take _, by rw [List.drop_eq_nil_of_le (by omega)]; exact Rd.nil _ _ _⟩
   ·have hcf' : ¬ c = f := by omega
    go_wp2
    go_region
    go_wp2
    have hc3 := (((K.set (i := 0) rfl (.int .u8 (t : Int))).set (i := 1) rfl (.slice (some ⟨b, o + f, none⟩) m (c - f))).set (i := 2) rfl (.slice (some ⟨b, o, none⟩) (f + m) c))
    have hx3 := ((hx2.setCell (p := ⟨w.heap.size, 0, none⟩) (Off.of_ne hbw) (.int .u8 (t : Int))).setCell (p := ⟨w.heap.size, 0 + 1, none⟩) (Off.of_ne hbw) (.slice (some ⟨b, o + f, none⟩) m (c - f))).setCell (p := ⟨w.heap.size, 0 + 2, none⟩) (Off.of_ne hbw) (.slice (some ⟨b, o, none⟩) (f + m) c)
    refine bodyPost_ret (results_row_tmp2 rfl _ _ w.heap.size 0 [.int .u8 (t : Int), .slice (some ⟨b, o + f, none⟩) m (c - f), .slice (some ⟨b, o, none⟩) (f + m) c] _ rfl hc3.range Tryz.underlying118 rfl size_elem) rfl ?_
    refine ⟨below_drewN (((e2.setCell (Nat.le_refl _) _).setCell (Nat.le_refl _) _).setCell (Nat.le_refl _) _) 1, ?_⟩
    rw [HE.out]
    exact ⟨t, _, _, _, _, _, _, by rfl, htb, by simp only [maxLen]; omega, hx3.part f m, hx3.take _, hx3.rest (f + m)⟩
  ·have he : elemB xs = none := by
    cases h : elemB xs with
    | none => rfl
    | some p =>
     obtain ⟨h1, h2⟩ := elemB_some.1 h
     rw [hh] at h1
     cases h1
     exact absurd h2 hle
   have HE := Lib.hid he
   have z1 : decide ((xs.length : Int) - (f : Int) < (m : Int)) = true := decide_eq_true (by omega)
   clear he hh hle
   go_wp2
   have hc : Cut ((((w2.setCell ⟨w.heap.size, 0, none⟩ (.int .u8 0)).setCell ⟨w.heap.size, 1, none⟩ (.slice none 0 0)).setCell ⟨w.heap.size, 2, none⟩ (.slice none 0 0))) w.heap.size 0 [.int .u8 0, .slice none 0 0, .slice none 0 0] := (((K.set (i := 0) rfl _).set (i := 1) rfl _).set (i := 2) rfl _)
   refine bodyPost_ret (results_row_tmp2 rfl _ _ w.heap.size 0 [.int .u8 0, .slice none 0 0, .slice none 0 0] _ rfl hc.range Tryz.underlying118 rfl size_elem) rfl ?_
   refine ⟨((e2.setCell (Nat.le_refl _) _).setCell (Nat.le_refl _) _).setCell (Nat.le_refl _) _, ?_⟩
   rw [HE.out]
   rfl
end Go.Proofs.YtchaahnhpeoomaaGreat
namespace Go.Proofs.YtchaahnhpeoomaaGreat
set_option linter.unusedVariables false
set_option linter.unusedSimpArgs false
set_option maxRecDepth 20000
open Go.RowKit
theorem clone_gives {xs : List Nat} {w w' : World} {e : Ending} (h : ClonePost xs w e w') : Gives .u8 xs w e w' := by
 obtain ⟨A, c, h1, h2, h3⟩ := h
 exact gives_of_row h2 rfl h3 |> fun q => by rw [h1]; exact q
def OwnPost (t : Nat) (b1 b2 : List Nat) (w : World) (e : Ending) (w' : World) : Prop :=
 ∃ A1 c1 A2 c2, e = .returned (.agg #[.int .u8 (t : Int), .slice A1 b1.length c1, .slice A2 b2.length c2]) ∧ Rd .u8 w' A1 b1 ∧ Rd .u8 w' A2 b2 ∧ Below w.heap.size w w' ∧ ∀ g, g < w.heap.size → Off A1 b1 g
def ownT (t g B : Nat) (s1 s2 : Sl) : Nat → Tg
 | 0 => tv (.pointer (some ⟨g, 0, none⟩))
 | 1 => tv (.int .u8 (t : Int))
 | 2 => tv (.pointer (some ⟨g, 1, none⟩))
 | 3 => tsl s1.xs
 | 4 => tnew B s1.xs
 | 5 => tv (.pointer (some ⟨g, 2, none⟩))
 | 6 => tsl s2.xs
 | 7 => tnew B s2.xs
 | _ => fun v W => ∃ A1 c1 A2 c2, v = .agg #[.int .u8 (t : Int), .slice A1 s1.xs.length c1, .slice A2 s2.xs.length c2] ∧ Rd .u8 W A1 s1.xs ∧ Rd .u8 W A2 s2.xs ∧ (∀ g, g < B → Off A1 s1.xs g) ∧ ∀ g, g < B → Off A2 s2.xs g
set_option maxRecDepth 100000 in
set_option maxHeartbeats 1600000 in
theorem own_any (t : Nat) (s1 s2 : Sl) (w : World) (r1 : Rd .u8 w s1.A s1.xs) (r2 : Rd .u8 w s2.A s2.xs) (h1 : s1.xs.length ≤ 1000000) (h2 : s2.xs.length ≤ 1000000) (c1 : s1.xs.length ≤ s1.c) (c2 : s2.xs.length ≤ s2.c) (m1 : s1.c ≤ maxLen) (m2 : s2.c ≤ maxLen) :
  Calls Tryz.prog 92 #[.agg #[.int .u8 (t : Int), s1.val, s2.val]] w (OwnPost t s1.xs s2.xs w) := by
 have K : Cut (w.alloc (.cells #[.int .u8 (t : Int), s1.val, s2.val] 118)) w.heap.size 0 [.int .u8 (t : Int), s1.val, s2.val] := Cut.of_heap (heap_alloc_new _ _) fun i v hv => by simpa using hv
 have e1 : Below w.heap.size w (w.alloc (.cells #[.int .u8 (t : Int), s1.val, s2.val] 118)) := (Below.refl _ _).alloc (Nat.le_refl _) _
 have s1' : (w.alloc (.cells #[.int .u8 (t : Int), s1.val, s2.val] 118)).heap.size = w.heap.size + 1 := by simp
 obtain ⟨w2, hw2⟩ : ∃ w2, w2 = (w.alloc (.cells #[.int .u8 (t : Int), s1.val, s2.val] 118)).alloc (.cells #[.int .u8 0, .slice none 0 0, .slice none 0 0] 118) := ⟨_, rfl⟩
 have e2 : Below w.heap.size w w2 := by rw [hw2]; exact e1.alloc e1.size _
 have K2 : Cut w2 w.heap.size 0 [.int .u8 (t : Int), s1.val, s2.val] := by rw [hw2]; exact K.alloc _
 have Z2 : Cut w2 (w.heap.size + 1) 0 [.int .u8 0, .slice none 0 0, .slice none 0 0] := by rw [hw2, ← s1']; exact Cut.of_heap (heap_alloc_new _ _) fun i v hv => by simpa using hv
 have r1 := r1.below e2
 have r2 := r2.below e2
 unfold Sl.val at *
 go_enter Tryz.func92, Tryz.ntmps92
 go_wp2_with fail
 rw [← hw2]
 clear hw2 s1' e1 K
 have hd0 : Below w2.heap.size w2 w2.drew := below_drewN (Below.refl _ _) 1
 refine wp_region_last (by kernel_rfl) (fun i => 3 + i) (fun i v W => Sp (ownT t w.heap.size w2.heap.size s1 s2 i) v W) (fun W => Below w2.heap.size w2 W) (Nat.succ_pos _) (by kernel_rfl) (by kernel_rfl) (by kernel_rfl) (fun i j hi hj h => by omega) (fun i hi => ?lt) (fun i v W W' h hs => h.mono hs) hd0 ⟨?s0, ?s1, ?s2, ?s3, ?s4, ?s5, ?s6, ?s7, ?s8, trivial⟩ ?fin
 case lt =>
  have h9 : i < 9 := hi
  show 3 + i < 12
  omega
 case s0 => exact st_field rfl rfl rfl (src_base (fun i _ => by show 3 + i ≠ 1; omega) rfl) (fun W => fa_elem0 _ 0 W)
 case s1 => exact st_load rfl rfl rfl (src_dep (j := 0) (e := ⟨0, .data⟩) (by simp) rfl rfl rfl) (ld_u8 _ _) (fun W h => (K2.below h).cell (i := 0) rfl)
 case s2 => exact st_field rfl rfl rfl (src_base (fun i _ => by show 3 + i ≠ 1; omega) rfl) (fun W => fa_elem1 _ 0 W)
 case s3 => exact st_loads rfl rfl rfl (src_dep (j := 2) (e := ⟨2, .data⟩) (by simp) rfl rfl rfl) (ld_u8s _ _) c1 m1 (fun W h => ⟨(K2.below h).cell (i := 1) rfl, r1.below h⟩)
 case s4 => exact st_call_sl (pre := []) (pv := []) rfl rfl (fun a W => run_call rfl cf_clone a W) (fun _ => rfl) (src_dep (j := 3) (e := ⟨3, .data⟩) (by simp) rfl rfl rfl) (fun A c W _ _ hr => (clone_any A s1.xs.length c s1.xs W rfl (by omega) hr).mono fun _ _ q => clone_gives q)
 case s5 => exact st_field rfl rfl rfl (src_base (fun i _ => by show 3 + i ≠ 1; omega) rfl) (fun W => fa_elem2 _ 0 W)
 case s6 => exact st_loads rfl rfl rfl (src_dep (j := 5) (e := ⟨5, .data⟩) (by simp) rfl rfl rfl) (ld_u8s _ _) c2 m2 (fun W h => ⟨(K2.below h).cell (i := 2) rfl, r2.below h⟩)
 case s7 => exact st_call_sl (pre := []) (pv := []) rfl rfl (fun a W => run_call rfl cf_clone a W) (fun _ => rfl) (src_dep (j := 6) (e := ⟨6, .data⟩) (by simp) rfl rfl rfl) (fun A c W _ _ hr => (clone_any A s2.xs.length c s2.xs W rfl (by omega) hr).mono fun _ _ q => clone_gives q)
 case s8 => exact st_build rfl rfl (fun a W hb hd hg => by
  have q1 := (hd ⟨1, .data⟩ (by simp) rfl)
  have q2 := (hd ⟨4, .data⟩ (by simp) rfl)
  have q3 := (hd ⟨7, .data⟩ (by simp) rfl)
  obtain ⟨A1, c1, v1, -, -, u1, x1⟩ := q2.now
  obtain ⟨A2, c2, v2, -, -, u2, x2⟩ := q3.now
  have v0 : a.eval (.tmp 4) = .int .u8 (t : Int) := q1.now
  have v1 : a.eval (.tmp 7) = _ := v1
  have v2 : a.eval (.tmp 10) = _ := v2
  refine ⟨#[.int .u8 (t : Int), .slice A1 s1.xs.length c1, .slice A2 s2.xs.length c2], ?_, fun w' hs => ⟨A1, c1, A2, c2, rfl, u1.sub hs, u2.sub hs, x1, x2⟩⟩
  simp only [List.map_toArray, List.map_cons, List.map_nil, v0, v1, v2]
  kernel_rfl)
 case fin =>
  intro o ho a W h1 h2 h3 h4 h5 K hK
  obtain ⟨A1, c1, A2, c2, hv, u1, u2, x1, x2⟩ := (h4 8 (by show 8 < 9; omega)).now
  cases (Option.some.inj (show some _ = some o from ho))
  have k1 : a.eval (.tmp 2) = .pointer (some ⟨w.heap.size + 1, 0, none⟩) := (h3 2 (fun i _ => by show 3 + i ≠ 2; omega)).trans rfl
  have k2 : a.eval (.tmp 11) = _ := hv
  refine step_store_cut rfl 118 (.tmp 2) (.tmp 11) rfl (w.heap.size + 1) 0 [.int .u8 (t : Int), .slice A1 s1.xs.length c1, .slice A2 s2.xs.length c2] _ k1 k2 (Z2.below h5) rfl size_elem (fun v hv => by simp at hv; rcases hv with rfl | rfl | rfl <;> rfl) (fun w' hst => hK a w' ?_)
  have hc := hst.2.2.1
  have e3 := below_only (e2.trans (h5.mono e2.size)) hst.1 (e2.trans (h5.mono e2.size)).size (show w.heap.size ≤ w.heap.size + 1 by omega)
  have u1' := u1.grown hst.1 (fun g hg => by cases hg; exact x1 _ Z2.lt)
  have u2' := u2.grown hst.1 (fun g hg => by cases hg; exact x2 _ Z2.lt)
  have hz : a.tmps.size = 12 := h2
  have hdf : a.defers = [] := h1
  rw [act_eq hz hdf]
  simp only [show List.range 12 = [0, 1, 2, 3, 4, 5, 6, 7, 8, 9, 10, 11] from rfl, List.map_cons, List.map_nil, show a.tmps.getD 2 undef = .pointer (some ⟨w.heap.size + 1, 0, none⟩) from k1]
  clear hst h4 h3 hv
  go_wp2
  refine bodyPost_ret (results_row rfl _ _ (w.heap.size + 1) 0 _ _ rfl hc.range Tryz.underlying118 rfl size_elem) rfl ?_
  exact ⟨A1, c1, A2, c2, rfl, u1', u2', e3, fun g hg => x1 g (Nat.lt_of_lt_of_le hg e2.size)⟩
def ParsePost (xs : List Nat) (w : World) (e : Ending) (w' : World) : Prop :=
 Below w.heap.size w w' ∧ match elemB xs with
  | some (f, m) => ∃ (t : Nat) (A1 : Option Addr) (c1 : Nat) (A2 : Option Addr) (c2 : Nat) (A3 : Option Addr) (c3 : Nat),
   e = .returned (.tuple #[.agg #[.int .u8 (t : Int), .slice A1 m c1, .slice A2 (f + m) c2], .slice A3 (xs.length - (f + m)) c3, .int .i64 0]) ∧ t < 256 ∧ Rd .u8 w' A1 ((xs.drop f).take m)
  | none => e = .returned (.tuple #[.agg #[.int .u8 0, .slice none 0 0, .slice none 0 0], .slice none 0 0, .int .i64 9])
set_option maxRecDepth 100000 in
set_option maxHeartbeats 1600000 in
theorem derParse_any (A : Option Addr) (n c : Nat) (xs : List Nat) (w : World) (hn : n = xs.length) (hl : n ≤ 1000000) (hc : n ≤ c) (hm : c ≤ 9223372036854775807) (hx : Rd .u8 w A xs) (lx : Lim 256 xs) :
  Calls Tryz.prog 64 #[.slice A n c] w (ParsePost xs w) := by
 subst hn
 obtain ⟨w1, hw1⟩ : ∃ w1, w1 = w.alloc (.cells #[.int .u8 0, .slice none 0 0, .slice none 0 0] 118) := ⟨_, rfl⟩
 have e1 : Below w.heap.size w w1 := by rw [hw1]; exact (Below.refl _ _).alloc (Nat.le_refl _) _
 have hx1 := hx.below e1
 have K : Cut w1 w.heap.size 0 [.int .u8 0, .slice none 0 0, .slice none 0 0] := by rw [hw1]; exact Cut.of_heap (heap_alloc_new _ _) fun i v hv => by simpa using hv
 have hE := elem_any A xs.length c xs w1 rfl hc hm hx1 lx
 go_enter Tryz.func64, Tryz.ntmps64
 go_wp2_with fail
 rw [← hw1]
 clear hw1
 refine hE.mono ?_
 rintro r w2 ⟨e2, hp⟩
 have K2 := K.below e2
 have hx2 := hx1.below e2
 have e2 := e1.trans (e2.mono e1.size)
 clear hE K hx1 e1
 cases hh : elemB xs with
 | none =>
  have HE := Lib.hid hh
  rw [hh] at hp
  obtain rfl := hp
  clear hh
  go_wp2_with (refine wpList_store_cut rfl 118 (.tmp 2) (.tmp 16) rfl w.heap.size 0 [.int .u8 0, .slice none 0 0, .slice none 0 0] _ rfl rfl (K2.alloc _) rfl size_elem (fun v hv => by simp at hv; rcases hv with rfl | rfl <;> rfl) ?_; intro w4 hst)
  refine bodyPost_ret (results_row_tmp2 rfl _ _ w.heap.size 0 _ _ rfl hst.2.2.1.range Tryz.underlying118 rfl size_elem) rfl ?_
  refine ⟨below_only (e2.alloc e2.size _) hst.1 (e2.alloc e2.size _).size (Nat.le_refl _), ?_⟩
  rw [HE.out]
  rfl
 | some p =>
  obtain ⟨f, m⟩ := p
  have HE := Lib.hid hh
  obtain ⟨-, hfm⟩ := elemB_some.1 hh
  rw [hh] at hp
  obtain ⟨t, A1, c1, A2, c2, A3, c3, rfl, ht, ⟨q1, q2, q3, q4⟩, r1, r2, r3⟩ := hp
  clear hh
  have hl1 : ((xs.drop f).take m).length = m := by simp; omega
  have hl2 : (xs.take (f + m)).length = f + m := by simp; omega
  have hl3 : (xs.drop (f + m)).length = xs.length - (f + m) := by simp
  have H1 := Lib.hid hl1
  have H2 := Lib.hid hl2
  have H3 := Lib.hid hl3
  clear hl1 hl2 hl3
  have K3 := K2.alloc (.cells #[.int .u8 (t : Int), .slice A1 m c1, .slice A2 (f + m) c2] 118)
  have e3 := e2.alloc e2.size (.cells #[.int .u8 (t : Int), .slice A1 m c1, .slice A2 (f + m) c2] 118)
  have r1 := r1.alloc (.cells #[.int .u8 (t : Int), .slice A1 m c1, .slice A2 (f + m) c2] 118)
  have r2 := r2.alloc (.cells #[.int .u8 (t : Int), .slice A1 m c1, .slice A2 (f + m) c2] 118)
  have r3 := r3.alloc (.cells #[.int .u8 (t : Int), .slice A1 m c1, .slice A2 (f + m) c2] 118)
  have hr : (w2.alloc (.cells #[.int .u8 (t : Int), .slice A1 m c1, .slice A2 (f + m) c2] 118)).rangeAt w2.heap.size 0 [.int .u8 (t : Int), .slice A1 m c1, .slice A2 (f + m) c2] := (Cut.of_heap (heap_alloc_new _ _) fun i v hv => by simpa using hv).range
  go_wp2_with (refine wpList_load_mid rfl 118 (.tmp 5) rfl w2.heap.size 0 rfl [.int .u8 (t : Int), .slice A1 m c1, .slice A2 (f + m) c2] _ hr Tryz.underlying118 rfl size_elem ?_)
  generalize w2.alloc (.cells #[.int .u8 (t : Int), .slice A1 m c1, .slice A2 (f + m) c2] 118) = w3 at *
  clear hr hx2 K2 e2
  have hq := own_any t ⟨A1, c1, (xs.drop f).take m⟩ ⟨A2, c2, xs.take (f + m)⟩ w3 r1 r2 (by rw [H1.out]; omega) (by rw [H2.out]; omega) (by rw [H1.out]; exact q1) (by rw [H2.out]; exact q3) q2 q4
  unfold Sl.val OwnPost at hq
  dsimp only at hq
  rw [H1.out, H2.out] at hq
  refine hq.mono ?_
  clear hq
  rintro r w4 ⟨A4, c4, A5, c5, rfl, r4, r5, e4, x4⟩
  have K4 := K3.below e4
  have r3 := r3.below e4
  have e4 := e3.trans (e4.mono e3.size)
  clear e3 r1 r2
  go_wp2_with fail
  have hq := clone_any A3 (xs.length - (f + m)) c3 (xs.drop (f + m)) w4 H3.out.symm (by omega) r3
  refine hq.mono ?_
  clear hq
  rintro r w5 ⟨A6, c6, rfl, o6, e5⟩
  rw [H3.out]
  have K5 := K4.below e5
  have r4 := r4.below e5
  have e5 := e4.trans (e5.mono e4.size)
  have hoff : Off A4 ((xs.drop f).take m) w.heap.size := x4 _ K3.lt
  clear x4 K3
  clear K4 e4 r3 o6
  go_wp2_with (refine wpList_store_cut rfl 118 (.tmp 2) (.tmp 18) rfl w.heap.size 0 [.int .u8 (t : Int), .slice A4 m c4, .slice A5 (f + m) c5] _ rfl rfl K5 rfl size_elem (fun v hv => by simp at hv; rcases hv with rfl | rfl | rfl <;> rfl) ?_; intro w6 hst)
  refine bodyPost_ret (results_row_tmp2 rfl _ _ w.heap.size 0 _ _ rfl hst.2.2.1.range Tryz.underlying118 rfl size_elem) rfl ?_
  refine ⟨below_only e5 hst.1 e5.size (Nat.le_refl _), ?_⟩
  rw [HE.out]
  exact ⟨t, A4, c4, A5, c5, A6, c6, rfl, ht, r4.grown hst.1 (fun g hg => by cases hg; exact hoff)⟩
theorem wpList_build_at {P : Program} {ops : Array Oper} {rest : List Oper} {o : Oper} {a : Act} {w : World} {Q : Exit → Act → World → Prop} (hg : o.guard = none) (t : TypeId) (parts : Array (Nat × Operand)) (ho : o.op = .build t parts)
  (cs : List Value) (hf : P.built t (parts.map fun (i, x) => (i, a.eval x)).toList = some cs.toArray)
  (h : wpList P ops Q rest (a.put o.dst (.agg cs.toArray)) w) : wpList P ops Q (o :: rest) a w :=
 wpList_build hg t parts ho (by rw [hf]; rfl) (by rw [hf]; exact h)
theorem built_z32 : Tryz.prog.built 49 [] = some (ints .u8 z32).toArray := by kernel_rfl
structure Sgd where
 kind : Sl
 content : Sl
 CA : Option Addr
 cn : Nat
 cc : Nat
 SA : Option Addr
 sn : Nat
 sc : Nat
def Sgd.cells (s : Sgd) : List Value := [s.kind.val, s.content.val, .slice s.CA s.cn s.cc, .slice s.SA s.sn s.sc]
def Sgd.val (s : Sgd) : Value := .agg s.cells.toArray
def OfPost (xs : List Nat) (w : World) (e : Ending) (w' : World) : Prop :=
 Below w.heap.size w w' ∧ match bodyB xs with
  | some b => e = .returned (.tuple #[.agg (ints .u8 (digest b)).toArray, .bool true])
  | none => e = .returned (.tuple #[.agg (ints .u8 (List.replicate 32 0)).toArray, .bool false])
theorem bodyB_lim {xs b : List Nat} (lx : Lim 256 xs) (h : bodyB xs = some b) : Lim 256 b := by
 unfold bodyB at h
 split at h
 ·split at h
  ·cases h
   exact (lx.drop _).take _
  ·cases h
 ·cases h
set_option maxRecDepth 100000 in
set_option maxHeartbeats 1600000 in
theorem sOf_any (s : Sgd) (w : World) (hc : s.content.ok w) (hl : s.content.xs.length ≤ 1000000) : Calls Tryz.prog 32 #[s.val] w (OfPost s.content.xs w) := by
 obtain ⟨w1, hw1⟩ : ∃ w1, w1 = w.alloc (.cells s.cells.toArray 48) := ⟨_, rfl⟩
 have e1 : Below w.heap.size w w1 := by rw [hw1]; exact (Below.refl _ _).alloc (Nat.le_refl _) _
 have z1 : w1.heap.size = w.heap.size + 1 := by rw [hw1]; simp
 have R1 : Row w1 w.heap.size 0 s.cells := by rw [hw1]; exact row_new _
 unfold Sgd.val
 go_enter Tryz.func32, Tryz.ntmps32
 go_wp2_with (refine wpList_alloc_arr rfl 49 rfl .u8 32 zero_32u8 ?_; rw [← hw1]; intro g w2 hg (hw2 : Whl .u8 49 w2 g z32) hs2 e2; have k1 : w2.cell? ⟨w.heap.size, 1, none⟩ = some s.content.val := (R1.below e2).cell (i := 1) rfl)
 have hc2 := (hc.below e1).below e2
 have e2 := e1.trans (e2.mono e1.size)
 have hgw : w.heap.size ≤ g := by rw [hg.out, z1]; omega
 clear R1 k1 e1 hc
 unfold Sl.val
 have hq := derParse_any s.content.A s.content.xs.length s.content.c s.content.xs w2 rfl hl hc2.cap hc2.max hc2.rd hc2.lim
 refine hq.mono ?_
 clear hq
 rintro r w3 ⟨e3, hp⟩
 have hw3 := hw2.below e3
 have e3 := e2.trans (e3.mono e2.size)
 have hbl : ∀ b, bodyB s.content.xs = some b → Lim 256 b := fun b h => bodyB_lim hc2.lim h
 clear hw2 e2 hc2
 cases hh : elemB s.content.xs with
 | none =>
  rw [hh] at hp
  obtain rfl := hp
  have hb : bodyB s.content.xs = none := by unfold bodyB; rw [hh]
  have HB := Lib.hid hb
  have hw4 := hw3.blk
  clear hh hb hbl
  go_wp2_with (first
   | (refine wpList_build_at rfl 49 #[] rfl (ints .u8 z32) (by exact built_z32) ?_)
   | (refine wpList_store_whl rfl 49 (.tmp 2) (.tmp 21) rfl g .u8 _ z32 z32 rfl rfl (hw3.below ((Below.refl _ _).alloc (Nat.le_refl _) _)) rfl (by exact size_32u8) ?_; intro w5 hw5 hg5 hs5))
  refine bodyPost_ret (results_row_tmp rfl _ _ g 0 (ints .u8 z32) _ rfl (Cut.of_blk hw5.blk).range Tryz.underlying49 rfl size_32u8) rfl ?_
  have e4 := e3.alloc e3.size (.cells #[.int .u8 0, .slice none 0 0, .slice none 0 0] 118)
  refine ⟨below_only e4 hg5 e4.size hgw, ?_⟩
  rw [HB.out]
  rfl
 | some p =>
  obtain ⟨f, m⟩ := p
  obtain ⟨-, hfm⟩ := elemB_some.1 hh
  have hb : bodyB s.content.xs = if s.content.xs.length = f + m then some ((s.content.xs.drop f).take m) else none := by unfold bodyB; rw [hh]
  rw [hh] at hp
  obtain ⟨t, A1, c1, A2, c2, A3, c3, rfl, ht, r1⟩ := hp
  have e4 := e3.alloc e3.size (.cells #[.int .u8 (t : Int), .slice A1 m c1, .slice A2 (f + m) c2] 118)
  have hw4 := hw3.below ((Below.refl _ _).alloc (Nat.le_refl _) (.cells #[.int .u8 (t : Int), .slice A1 m c1, .slice A2 (f + m) c2] 118))
  have r1 := r1.alloc (.cells #[.int .u8 (t : Int), .slice A1 m c1, .slice A2 (f + m) c2] 118)
  clear hh hw3 e3
  by_cases hlen : s.content.xs.length = f + m
  ·rw [if_pos hlen] at hb
   have HB := Lib.hid hb
   have z0 : s.content.xs.length - (f + m) = 0 := by omega
   have hm1 : m ≤ 1000000 := by omega
   have hbody := hbl _ hb
   have hbl1 : ((s.content.xs.drop f).take m).length = m := by simp; omega
   have HL := Lib.hid hbl1
   clear hb hlen hbl hbl1
   go_wp2_with fail
   have hq := shaSum_any A1 m c1 ((s.content.xs.drop f).take m) _ HL.out.symm (by omega) r1 hbody
   refine hq.mono ?_
   clear hq
   rintro r w5 ⟨rfl, e5⟩
   have hw5 := hw4.below e5
   have e5 := e4.trans (e5.mono e4.size)
   have hd := Lib.hid (digest_length ((s.content.xs.drop f).take m))
   generalize hdg : digest ((s.content.xs.drop f).take m) = dg at *
   have HD := Lib.hid hdg
   clear hdg
   clear e4 hw4 r1
   go_wp2_with (refine wpList_store_whl rfl 49 (.tmp 2) (.tmp 24) rfl g .u8 _ z32 dg rfl rfl hw5 (by rw [hd.out]; rfl) (by exact size_32u8) ?_; intro w6 hw6 hg6 hs6)
   refine bodyPost_ret (results_row_tmp rfl _ _ g 0 (ints .u8 dg) _ rfl (Cut.of_blk hw6.blk).range Tryz.underlying49 rfl (by rw [ints_length, hd.out]; exact size_32u8)) rfl ?_
   refine ⟨below_only e5 hg6 e5.size hgw, ?_⟩
   rw [HB.out]
   dsimp only
   rw [HD.out]
   rfl
  ·rw [if_neg hlen] at hb
   have HB := Lib.hid hb
   have z0 : f + m < s.content.xs.length := by omega
   clear hb hlen hbl
   go_wp2_with (first
    | (refine wpList_build_at rfl 49 #[] rfl (ints .u8 z32) (by exact built_z32) ?_)
    | (refine wpList_store_whl rfl 49 (.tmp 2) (.tmp 21) rfl g .u8 _ z32 z32 rfl rfl hw4 rfl (by exact size_32u8) ?_; intro w5 hw5 hg5 hs5))
   refine bodyPost_ret (results_row_tmp rfl _ _ g 0 (ints .u8 z32) _ rfl (Cut.of_blk hw5.blk).range Tryz.underlying49 rfl size_32u8) rfl ?_
   refine ⟨below_only e4 hg5 e4.size hgw, ?_⟩
   rw [HB.out]
   rfl
end Go.Proofs.YtchaahnhpeoomaaGreat
namespace Go.Proofs.YtchaahnhpeoomaaGreat
set_option linter.unusedVariables false
set_option linter.unusedSimpArgs false
set_option maxRecDepth 20000
open Go.RowKit
theorem zero_sgd : (Tryz.prog.info? 48).map (fun i => i.zero) = some (some (.agg #[.slice none 0 0, .slice none 0 0, .slice none 0 0, .slice none 0 0])) := by kernel_rfl
def caseCells (KA : Option Addr) (kn kc : Nat) (ds : List Nat) (at_ : Bool) (oth : Nat) : List Value := [.slice KA kn kc] ++ ints .u8 ds ++ [.bool at_, .int .u8 (oth : Int)]
theorem rd_of_case {w : World} {g kn kc oth : Nat} {KA : Option Addr} {ds : List Nat} {at_ : Bool} (h : Cut w g 0 (caseCells KA kn kc ds at_ oth)) (hd : ds.length = 32) : Rd .u8 w (some ⟨g, 1, none⟩) ds := by
 refine Or.inr ⟨g, 1, rfl, h.lt, fun i x hx => ?_⟩
 have hi : i < ds.length := (List.getElem?_eq_some_iff.1 hx).1
 have := h.cell (i := 1 + i) (v := .int .u8 (x : Int)) (by
  unfold caseCells
  rw [List.append_assoc, List.getElem?_append_right (by simp), List.getElem?_append_left (by simp [ints]; omega)]
  simpa using ints_get hx)
 rwa [Nat.zero_add] at this
theorem cut_mid {w : World} {g o : Nat} {a b c : List Value} (h : Cut w g o (a ++ b ++ c)) : Cut w g (o + a.length) b := ⟨h.1, fun i v hv => by
 have := h.2 (a.length + i) v (by rw [List.append_assoc, List.getElem?_append_right (by omega), List.getElem?_append_left (by have := (List.getElem?_eq_some_iff.1 hv).1; omega)]; simpa using hv)
 rw [← Nat.add_assoc] at this
 exact this⟩
structure Sgn where
 issuer : Sl
 serial : Sl
 attrs : Sl
 kind : Sl
 digest : Sl
 sig : Sl
def Sgn.cells (s : Sgn) : List Value := [s.issuer.val, s.serial.val, s.attrs.val, s.kind.val, s.digest.val, s.sig.val]
structure Sgn.ok (w : World) (s : Sgn) : Prop where
 issuer : s.issuer.ok w
 serial : s.serial.ok w
 attrs : s.attrs.ok w
 kind : s.kind.ok w
 digest : s.digest.ok w
 sig : s.sig.ok w
def Sl.offs (g2 g3 g4 g5 : Nat) (s : Sl) : Prop := ∀ g, g = g2 ∨ g = g3 ∨ g = g4 ∨ g = g5 → Off s.A s.xs g
structure Mid (w : World) (cc : List Value) (g3 g4 g5 : Nat) (L3 L4 : List Value) (SS : List Sl) (sum : List Nat) (wx : World) : Prop where
 below : Below w.heap.size w wx
 case_ : Cut wx w.heap.size 0 cc
 res : Cut wx (w.heap.size + 1) 0 [.slice none 0 0, .slice none 0 0, .slice none 0 0, .slice none 0 0]
 sgd : Cut wx g3 0 L3
 sgn : Cut wx g4 0 L4
 dig : Whl .u8 49 wx g5 sum
 oks : ∀ s ∈ SS, s.ok wx
 offs : ∀ s ∈ SS, s.offs (w.heap.size + 1) g3 g4 g5
 geo : w.heap.size + 1 < g3 ∧ g3 < g4 ∧ g4 < g5
theorem case_at (KA : Option Addr) (kn kc oth : Nat) (ds : List Nat) (at_ : Bool) (hd : ds.length = 32) : (caseCells KA kn kc ds at_ oth)[33]? = some (.bool at_) := by
 unfold caseCells
 rw [List.getElem?_append_right (by simp [ints_length]; omega)]
 simp [ints_length, hd]
theorem case_oth (KA : Option Addr) (kn kc oth : Nat) (ds : List Nat) (at_ : Bool) (hd : ds.length = 32) : (caseCells KA kn kc ds at_ oth)[34]? = some (.int .u8 (oth : Int)) := by
 unfold caseCells
 rw [List.getElem?_append_right (by simp [ints_length]; omega)]
 simp [ints_length, hd]
def rungsO (n : Nat) : List Rung := (List.range n).map fun i => ⟨[120, 97 + i], 0, true, true, -1, -1⟩
def rungS : Rung := ⟨[115, 105, 103, 110, 101, 114], 7, false, true, -1, -1⟩
def rungR : Rung := ⟨[114, 111, 111, 116], 0, true, true, -1, -1⟩
structure Buts (L : List Nat) (w w' : World) : Prop where
 size : w.heap.size ≤ w'.heap.size
 block : ∀ j, j < w.heap.size → j ∉ L → w'.heap[j]? = w.heap[j]?
theorem Buts.trans {L : List Nat} {a b c : World} (h : Buts L a b) (k : Buts L b c) : Buts L a c := ⟨Nat.le_trans h.size k.size, fun j hj hl => (k.block j (Nat.lt_of_lt_of_le hj h.size) hl).trans (h.block j hj hl)⟩
theorem Buts.of_below {L : List Nat} {w w' : World} (h : Below w.heap.size w w') : Buts L w w' := ⟨h.size, fun j hj _ => h.block j hj⟩
theorem Buts.of_grown {L : List Nat} {w w' : World} {g : Nat} (h : w.grownBy w' (some g)) (hg : g ∈ L) : Buts L w w' := ⟨h.size, fun j hj hl => h.block j hj (fun e => by cases e; exact hl hg)⟩
theorem Buts.of_set {L : List Nat} (w : World) (g o : Nat) (u : Value) (hg : g ∈ L) : Buts L w (w.setCell ⟨g, o, none⟩ u) := ⟨by simp, fun j _ hl => Below.heap_setCell w _ u j (fun e => by have e : j = g := e; subst e; exact hl hg)⟩
theorem Cut.but {L : List Nat} {w w' : World} {g o : Nat} {vs : List Value} (h : Cut w g o vs) (hb : Buts L w w') (hg : g ∉ L) : Cut w' g o vs := h.keep hb.size (hb.block g h.lt hg)
theorem Whl.but {L : List Nat} {w w' : World} {k : IntKind} {t : TypeId} {g : Nat} {cs : List Nat} (h : Whl k t w g cs) (hb : Buts L w w') (hg : g ∉ L) : Whl k t w' g cs := (hb.block g h.lt hg).trans h
theorem Sl.ok.but {L : List Nat} {w w' : World} {s : Sl} (h : s.ok w) (hb : Buts L w w') (ho : ∀ g, g ∈ L → Off s.A s.xs g) : s.ok w' := by
 refine ⟨h.rd.keep hb.size ?_, h.lim, h.cap, h.max⟩
 by_cases hx : s.xs = []
 ·exact .inl hx
 ·refine .inr fun ad e hl => hb.block _ hl fun hm => ?_
  rcases ho _ hm with h1 | h1
  ·exact hx h1
  ·exact h1 ad e rfl
theorem Off.nil (A : Option Addr) (g : Nat) : Off A [] g := .inl rfl
theorem sl_gives {xs : List Nat} {W W' : World} {A : Option Addr} {c : Nat} (hl : Lim 256 xs) (n : xs.length ≤ c) (m : c ≤ maxLen) (o : Own .u8 W' W.heap.size A xs) : Sl.ok W' ⟨A, c, xs⟩ ∧ ∀ g, g < W.heap.size → Off A xs g :=
 ⟨⟨o.rd, hl, n, by unfold maxLen at m; exact m⟩, fun g hg => off_of_own o hg⟩
section
variable {w wx wy : World} {cc L3 L4 : List Value} {g3 g4 g5 : Nat} {SS : List Sl} {sum : List Nat}
theorem Mid.next (h : Mid w cc g3 g4 g5 L3 L4 SS sum wx) (hb : Below wx.heap.size wx wy) : Mid w cc g3 g4 g5 L3 L4 SS sum wy :=
 ⟨h.below.trans (hb.mono h.below.size), h.case_.below hb, h.res.below hb, h.sgd.below hb, h.sgn.below hb, h.dig.below hb, fun s hs => (h.oks s hs).below hb, h.offs, h.geo⟩
theorem Mid.set3 (h : Mid w cc g3 g4 g5 L3 L4 SS sum wx) {i : Nat} {v : Value} (hx : L3[i]? = some v) (u : Value) : Mid w cc g3 g4 g5 (L3.set i u) L4 SS sum (wx.setCell ⟨g3, i, none⟩ u) := by
 obtain ⟨h1, h2, h3⟩ := h.geo
 have hb : Buts [g3] wx (wx.setCell ⟨g3, i, none⟩ u) := Buts.of_set _ _ _ _ (by simp)
 have q := h.sgd.set hx u
 rw [Nat.zero_add] at q
 exact ⟨h.below.setCell (by show w.heap.size ≤ g3; omega) _, h.case_.but hb (by simp; omega), h.res.but hb (by simp; omega), q, h.sgn.but hb (by simp; omega), h.dig.but hb (by simp; omega), fun s hs => (h.oks s hs).but hb (fun g hg => h.offs s hs g (.inr (.inl (by simpa using hg)))), h.offs, h.geo⟩
theorem Mid.set4 (h : Mid w cc g3 g4 g5 L3 L4 SS sum wx) {i : Nat} {v : Value} (hx : L4[i]? = some v) (u : Value) : Mid w cc g3 g4 g5 L3 (L4.set i u) SS sum (wx.setCell ⟨g4, i, none⟩ u) := by
 obtain ⟨h1, h2, h3⟩ := h.geo
 have hb : Buts [g4] wx (wx.setCell ⟨g4, i, none⟩ u) := Buts.of_set _ _ _ _ (by simp)
 have q := h.sgn.set hx u
 rw [Nat.zero_add] at q
 exact ⟨h.below.setCell (by show w.heap.size ≤ g4; omega) _, h.case_.but hb (by simp; omega), h.res.but hb (by simp; omega), h.sgd.but hb (by simp; omega), q, h.dig.but hb (by simp; omega), fun s hs => (h.oks s hs).but hb (fun g hg => h.offs s hs g (.inr (.inr (.inl (by simpa using hg))))), h.offs, h.geo⟩
theorem Mid.add (h : Mid w cc g3 g4 g5 L3 L4 SS sum wx) {s : Sl} (hs : s.ok wx) (ho : s.offs (w.heap.size + 1) g3 g4 g5) : Mid w cc g3 g4 g5 L3 L4 (s :: SS) sum wx :=
 ⟨h.below, h.case_, h.res, h.sgd, h.sgn, h.dig, fun x hx => by rcases List.mem_cons.1 hx with rfl | hx; exact hs; exact h.oks x hx, fun x hx => by rcases List.mem_cons.1 hx with rfl | hx; exact ho; exact h.offs x hx, h.geo⟩
end
theorem info_rung : (Tryz.prog.info? 125).map (fun i => (i.zero, i.size, i.bytes)) = some (some (.agg #[.string ⟨#[]⟩, .int .u8 0, .bool false, .bool false, .int .i64 0, .int .i64 0]), 6, 40) := by kernel_rfl
theorem fill_rung (c : Rung) (z : Array Value) (hz : z = #[.string ⟨#[]⟩, .int .u8 0, .bool false, .bool false, .int .i64 0, .int .i64 0]) : Instr.fill (fun i => some (i * 6, 6)) ((Array.range (1 * 6)).map (z[· % z.size]!)) [(0, .agg c.cells.toArray)] = some c.cells.toArray := by
 subst hz
 kernel_rfl
theorem fill_rung2 (c d : Rung) (z : Array Value) (hz : z = #[.string ⟨#[]⟩, .int .u8 0, .bool false, .bool false, .int .i64 0, .int .i64 0]) : Instr.fill (fun i => some (i * 6, 6)) ((Array.range (2 * 6)).map (z[· % z.size]!)) [(0, .agg c.cells.toArray), (1, .agg d.cells.toArray)] = some (c.cells ++ d.cells).toArray := by
 subst hz
 kernel_rfl
section
variable {w : World} {ops : Array Oper} {rest : List Oper} {o : Oper} {a : Act} {Q : Exit → Act → World → Prop}
theorem wpList_build_rung (hgd : o.guard = none) (x : Operand) (ho : o.op = .buildSlice 123 1 #[(0, x)]) (c : Rung) (hx : a.eval x = .agg c.cells.toArray)
  (h : wpList Tryz.prog ops Q rest (a.put o.dst (.slice (some ⟨w.heap.size, 0, none⟩) 1 1)) (w.alloc (.cells c.cells.toArray 125))) : wpList Tryz.prog ops Q (o :: rest) a w := by
 obtain ⟨i, hi, hzz⟩ := Option.map_eq_some_iff.1 info_rung
 simp only [Prod.mk.injEq] at hzz
 obtain ⟨hz, hs1, hb⟩ := hzz
 refine wpList_buildSlice hgd 123 125 1 #[(0, x)] ho c.cells.toArray i (.agg #[.string ⟨#[]⟩, .int .u8 0, .bool false, .bool false, .int .i64 0, .int .i64 0]) Tryz.underlying123 hi hz (by rw [hs1]; decide) (by rw [hs1]; decide) ?_ h
 rw [hs1]
 simp only [List.map_toArray, List.map_cons, List.map_nil, hx]
 exact fill_rung c _ rfl
end
theorem rung_one (c : Rung) : ∀ u ∈ c.cells, u.oneCell' = true := by
 intro u hu
 simp only [Rung.cells, List.mem_cons, List.not_mem_nil, or_false] at hu
 rcases hu with rfl | rfl | rfl | rfl | rfl | rfl <;> rfl
theorem rungCells_snoc (l : List Rung) (c : Rung) : rungCells (l ++ [c]) = rungCells l ++ c.cells := by simp [rungCells]
theorem rungsO_succ (n : Nat) : rungsO (n + 1) = rungsO n ++ [⟨[120, 97 + n], 0, true, true, -1, -1⟩] := by simp [rungsO, List.range_succ]
theorem row_own {w : World} {B : Nat} {e : TypeId} {s : Nat} {v : Value} {n : Nat} {xs : List Value} (h : w.ownsRow B e s v n xs) (h0 : 0 < w.heap.size) : ∃ g A c, v = .slice A n c ∧ (n = 0 ∨ A = some ⟨g, 0, none⟩) ∧ Row w g 0 xs ∧ (v.ownBlock = none ∨ v.ownBlock = some g) := by
 rcases h.2 with ⟨rfl, rfl⟩ | ⟨g, cap, cur, rfl, hB, hg, hc, hm, _, ht⟩
 ·have : xs = [] := List.eq_nil_of_length_eq_zero (by rw [h.1]; simp)
  exact ⟨0, none, 0, rfl, .inl rfl, ⟨h0, fun i v hv => by rw [this] at hv; simp at hv⟩, .inl rfl⟩
 ·refine ⟨g, _, cap, rfl, .inr rfl, Row.of_cut (Cut.of_heap hg fun i x hx => ?_), .inr rfl⟩
  rw [← ht, List.getElem?_take] at hx
  split at hx
  ·simpa using hx
  ·cases hx
theorem rungsO_ok (n : Nat) (hn : n ≤ 3) : ∀ r ∈ rungsO n, RungOk r := fun r hr => by
 simp only [rungsO, List.mem_map, List.mem_range] at hr
 obtain ⟨i, hi, rfl⟩ := hr
 exact ⟨⟨show 2 ≤ 100 by decide, fun x hx => by simp at hx; omega⟩, show 0 < 256 by decide, rfl, rfl, rfl⟩
theorem rungsO_len (n : Nat) : (rungsO n).length = n := by simp [rungsO]
theorem rung2_ok : ∀ r ∈ [rungS, rungR], RungOk r := fun r hr => by
 simp only [List.mem_cons, List.not_mem_nil, or_false] at hr
 rcases hr with rfl | rfl <;> exact ⟨⟨by decide, fun x hx => by simp [rungS, rungR] at hx; omega⟩, by decide, rfl, rfl, rfl⟩
theorem rd_xa (wr : World) (i : Nat) : Rd .u8 (wr.alloc (.cells #[.int .u8 120, .int .u8 (97 + (i : Int))] 5)) (some ⟨wr.heap.size, 0, none⟩) [120, 97 + i] := Rd.of_all (blk_lit (k := .u8) (t := 5) wr [120, 97 + i] _ (by simp [ints]))
theorem rd_1 (wr : World) : Sl.ok (wr.alloc (.cells #[.int .u8 1] 5)) ⟨some ⟨wr.heap.size, 0, none⟩, 1, [1]⟩ := ⟨Rd.of_all (blk_lit (k := .u8) (t := 5) wr [1] _ rfl), fun x hx => by simp at hx; omega, Nat.le_refl 1, show 1 ≤ 9223372036854775807 by decide⟩
theorem Row.sub {w w' : World} {g o : Nat} {vs : List Value} (h : Row w g o vs) (hs : Sub w w') : Row w' g o vs := ⟨Nat.lt_of_lt_of_le h.1 hs.size, fun i v hv => hs.cell _ _ (h.2 i v hv)⟩
theorem Sl.ok.sub {w w' : World} {s : Sl} (h : s.ok w) (hs : Sub w w') : s.ok w' := ⟨h.rd.sub hs, h.lim, h.cap, h.max⟩
theorem Crt.ok.sub {w w' : World} {c : Crt} (h : c.ok w) (hs : Sub w w') : c.ok w' := ⟨h.raw.sub hs, h.tbs.sub hs, h.issuer.sub hs, h.subject.sub hs, h.serial.sub hs, h.key.sub hs, h.sig.sub hs, h.frm, h.til, h.e⟩
structure OwnT (N : Nat) (kA : Option Addr) (ks : List Nat) (v : Value) (W : World) (cs : List Crt) (g c : Nat) : Prop where
 val : v = .slice (some ⟨g, 0, none⟩) 2 c
 row : Row W g 0 (crtCells cs)
 len : cs.length = 2
 say : cs.map Crt.say = ladderB [rungS, rungR] ks 3
 ok : ∀ c ∈ cs, c.ok W
 off : ∀ c ∈ cs, ∀ g, g < N → Off kA ks g → CrtOff c g
 new : N ≤ g
theorem OwnT.sub {N : Nat} {kA : Option Addr} {ks : List Nat} {v : Value} {w w' : World} {cs : List Crt} {g c : Nat} (h : OwnT N kA ks v w cs g c) (hs : Sub w w') : OwnT N kA ks v w' cs g c := ⟨h.val, h.row.sub hs, h.len, h.say, fun c hc => (h.ok c hc).sub hs, h.off, h.new⟩
theorem Row.keep {w w' : World} {g o : Nat} {vs : List Value} (h : Row w g o vs) (hs : w.heap.size ≤ w'.heap.size) (hk : w'.heap[g]? = w.heap[g]?) : Row w' g o vs := ⟨Nat.lt_of_lt_of_le h.1 hs, fun i v hv => (World.cell?_of_block (w := w) (a := ⟨g, o + i, none⟩) hk).trans (h.2 i v hv)⟩
theorem Mid.grown {w wx wy : World} {cc L3 L4 : List Value} {g3 g4 g5 : Nat} {SS : List Sl} {sum : List Nat} {row : Option Nat} (h : Mid w cc g3 g4 g5 L3 L4 SS sum wx) (hg : wx.grownBy wy row) (hr : ∀ k, row = some k → g5 < k) (ho : ∀ s ∈ SS, ∀ k, row = some k → Off s.A s.xs k) : Mid w cc g3 g4 g5 L3 L4 SS sum wy := by
 obtain ⟨h1, h2, h3⟩ := h.geo
 have ne : ∀ k, k ≤ g5 → row ≠ some k := fun k hk e => by have := hr k e; omega
 exact ⟨h.below.grown hg h.below.size (fun k e => by have := hr k e; omega), h.case_.grown hg (ne _ (by omega)), h.res.grown hg (ne _ (by omega)), h.sgd.grown hg (ne _ (by omega)), h.sgn.grown hg (ne _ (by omega)), h.dig.grown hg (ne _ (by omega)), fun s hs => (h.oks s hs).grown hg (fun k e => ho s hs k e), h.offs, h.geo⟩
theorem info_sgr : (Tryz.prog.info? 67).map (fun i => (i.zero, i.size, i.bytes)) = some (some (.agg #[.slice none 0 0, .slice none 0 0, .slice none 0 0, .slice none 0 0, .slice none 0 0, .slice none 0 0]), 6, 144) := by kernel_rfl
theorem fill_sgr (c : Sgn) (z : Array Value) (hz : z = #[.slice none 0 0, .slice none 0 0, .slice none 0 0, .slice none 0 0, .slice none 0 0, .slice none 0 0]) : Instr.fill (fun i => some (i * 6, 6)) ((Array.range (1 * 6)).map (z[· % z.size]!)) [(0, .agg c.cells.toArray)] = some c.cells.toArray := by
 subst hz
 kernel_rfl
section
variable {w : World} {ops : Array Oper} {rest : List Oper} {o : Oper} {a : Act} {Q : Exit → Act → World → Prop}
theorem wpList_build_sgr (hgd : o.guard = none) (x : Operand) (ho : o.op = .buildSlice 46 1 #[(0, x)]) (c : Sgn) (hx : a.eval x = .agg c.cells.toArray)
  (h : wpList Tryz.prog ops Q rest (a.put o.dst (.slice (some ⟨w.heap.size, 0, none⟩) 1 1)) (w.alloc (.cells c.cells.toArray 67))) : wpList Tryz.prog ops Q (o :: rest) a w := by
 obtain ⟨i, hi, hzz⟩ := Option.map_eq_some_iff.1 info_sgr
 simp only [Prod.mk.injEq] at hzz
 obtain ⟨hz, hs1, hb⟩ := hzz
 refine wpList_buildSlice hgd 46 67 1 #[(0, x)] ho c.cells.toArray i (.agg #[.slice none 0 0, .slice none 0 0, .slice none 0 0, .slice none 0 0, .slice none 0 0, .slice none 0 0]) Tryz.underlying46 hi hz (by rw [hs1]; decide) (by rw [hs1]; decide) ?_ h
 rw [hs1]
 simp only [List.map_toArray, List.map_cons, List.map_nil, hx]
 exact fill_sgr c _ rfl
end
theorem crtCells_append (a b : List Crt) : crtCells (a ++ b) = crtCells a ++ crtCells b := by simp [crtCells]
theorem crtCells_one (l : List Crt) : ∀ u ∈ crtCells l, u.oneCell' = true := fun u hu => by
 simp only [crtCells, List.mem_flatten, List.mem_map] at hu
 obtain ⟨x, ⟨c, _, rfl⟩, hu⟩ := hu
 exact crt_one c u hu
theorem row_own2 {w : World} {B : Nat} {e : TypeId} {s : Nat} {v : Value} {n : Nat} {xs : List Value} (h : w.ownsRow B e s v n xs) (hn : 0 < n) : ∃ g c, v = .slice (some ⟨g, 0, none⟩) n c ∧ n ≤ c ∧ c ≤ maxLen ∧ Row w g 0 xs ∧ B ≤ g := by
 rcases h.2 with ⟨rfl, rfl⟩ | ⟨g, cap, cur, rfl, hB, hg, hc, hm, _, ht⟩
 ·omega
 ·refine ⟨g, cap, rfl, hc, hm, Row.of_cut (Cut.of_heap hg fun i x hx => ?_), hB⟩
  rw [← ht, List.getElem?_take] at hx
  split at hx
  ·simpa using hx
  ·cases hx
structure Tail (w : World) (cc : List Value) (g3 g4 g5 : Nat) (L3 L4 : List Value) (SS : List Sl) (sum : List Nat) (gA gr : Nat) (CC own : List Crt) (wx : World) : Prop where
 mid : Mid w cc g3 g4 g5 L3 L4 SS sum wx
 ok : ∀ c ∈ CC, c.ok wx
 co : ∀ c ∈ CC, ∀ g, g = w.heap.size + 1 ∨ g = g3 ∨ g = g4 → CrtOff c g
 row : Row wx gA 0 (crtCells CC)
 rown : Row wx gr 0 (crtCells own)
 gA : g5 < gA
 gr : g5 < gr
section
variable {w wx wy : World} {cc L3 L4 : List Value} {g3 g4 g5 gA gr : Nat} {SS : List Sl} {sum : List Nat} {CC own : List Crt}
theorem Tail.next (h : Tail w cc g3 g4 g5 L3 L4 SS sum gA gr CC own wx) (hb : Below wx.heap.size wx wy) : Tail w cc g3 g4 g5 L3 L4 SS sum gA gr CC own wy :=
 ⟨h.mid.next hb, fun c hc => (h.ok c hc).below hb, h.co, h.row.below hb, h.rown.below hb, h.gA, h.gr⟩
theorem Tail.set3 (h : Tail w cc g3 g4 g5 L3 L4 SS sum gA gr CC own wx) {i : Nat} {v : Value} (hx : L3[i]? = some v) (u : Value) : Tail w cc g3 g4 g5 (L3.set i u) L4 SS sum gA gr CC own (wx.setCell ⟨g3, i, none⟩ u) := by
 obtain ⟨h1, h2, h3⟩ := h.mid.geo
 have hA := h.gA
 have hr := h.gr
 exact ⟨h.mid.set3 hx u, fun c hc => (h.ok c hc).grown (grown_setCells g3 [u] i wx) (fun k e => Option.some.inj e ▸ h.co c hc g3 (.inr (.inl rfl))), h.co, h.row.keep (by simp) (Below.heap_setCell _ _ _ _ (by show gA ≠ g3; omega)), h.rown.keep (by simp) (Below.heap_setCell _ _ _ _ (by show gr ≠ g3; omega)), hA, hr⟩
theorem Tail.set4 (h : Tail w cc g3 g4 g5 L3 L4 SS sum gA gr CC own wx) {i : Nat} {v : Value} (hx : L4[i]? = some v) (u : Value) : Tail w cc g3 g4 g5 L3 (L4.set i u) SS sum gA gr CC own (wx.setCell ⟨g4, i, none⟩ u) := by
 obtain ⟨h1, h2, h3⟩ := h.mid.geo
 have hA := h.gA
 have hr := h.gr
 exact ⟨h.mid.set4 hx u, fun c hc => (h.ok c hc).grown (grown_setCells g4 [u] i wx) (fun k e => Option.some.inj e ▸ h.co c hc g4 (.inr (.inr rfl))), h.co, h.row.keep (by simp) (Below.heap_setCell _ _ _ _ (by show gA ≠ g4; omega)), h.rown.keep (by simp) (Below.heap_setCell _ _ _ _ (by show gr ≠ g4; omega)), hA, hr⟩
theorem Tail.k3 (h : Tail w cc g3 g4 g5 L3 L4 SS sum gA gr CC own wx) {i : Nat} {v : Value} (hx : L3[i]? = some v) : wx.cell? ⟨g3, i, none⟩ = some v ∧ wx.frozen? ⟨g3, i, none⟩ = false := by
 have := h.mid.sgd.2 i v hx
 rwa [Nat.zero_add] at this
theorem Tail.k4 (h : Tail w cc g3 g4 g5 L3 L4 SS sum gA gr CC own wx) {i : Nat} {v : Value} (hx : L4[i]? = some v) : wx.cell? ⟨g4, i, none⟩ = some v ∧ wx.frozen? ⟨g4, i, none⟩ = false := by
 have := h.mid.sgn.2 i v hx
 rwa [Nat.zero_add] at this
theorem Tail.kr (h : Tail w cc g3 g4 g5 L3 L4 SS sum gA gr CC own wx) {i : Nat} {v : Value} (hx : (crtCells own)[i]? = some v) : wx.cell? ⟨gr, i, none⟩ = some v := by
 have := h.rown.cell hx
 rwa [Nat.zero_add] at this
end
theorem two_of_len {α : Type} {l : List α} (h : l.length = 2) : ∃ p q, l = [p, q] := by
 match l, h with
 | [p, q], _ => exact ⟨p, q, rfl⟩
def SMadePost (ds kb : List Nat) (at_ : Bool) (oth : Nat) (w : World) (e : Ending) (w' : World) : Prop :=
 ∃ (sk sc : Sl) (gA cA gz : Nat) (cs : List Crt) (s : Sgn) (sum : List Nat), e = .returned (.agg [sk.val, sc.val, .slice (some ⟨gA, 0, none⟩) cs.length cA, .slice (some ⟨gz, 0, none⟩) 1 1].toArray) ∧
  sk.ok w' ∧ sc.ok w' ∧ sk.xs = kb ∧ sc.xs = wr 4 ds ∧ cs.length ≤ cA ∧ cA ≤ maxLen ∧ Row w' gA 0 (crtCells cs) ∧ (∀ c ∈ cs, c.ok w') ∧ cs.map Crt.say = ladderB (rungsO (oth % 3)) [1] 3 ++ ladderB [rungS, rungR] (forKey sum) 3 ∧ cs.length = oth % 3 + 2 ∧
  Row w' gz 0 s.cells ∧ s.ok w' ∧ (∃ c, cs[oth % 3]? = some c ∧ s.issuer = c.issuer ∧ s.serial = c.serial) ∧ s.attrs.xs = (if at_ then attrsB kb ds else []) ∧ s.kind.xs = (if at_ then kb else []) ∧ s.digest.xs = (if at_ then ds else []) ∧
  s.sig.xs = forSig sum ∧ sum = (if at_ then digest (attrsB kb ds) else ds) ∧ sum.length = 32 ∧ Lim 256 sum ∧ Below w.heap.size w w'
end Go.Proofs.YtchaahnhpeoomaaGreat
namespace Go.Proofs.YtchaahnhpeoomaaGreat
set_option linter.unusedVariables false
set_option linter.unusedSimpArgs false
set_option maxRecDepth 20000
open Go.RowKit
def madU (N g6 : Nat) (kA : Option Addr) (kc : Nat) (ks : List Nat) : Nat → Tg
 | 0 => tv (.agg rungS.cells.toArray)
 | 1 => tv (.agg rungR.cells.toArray)
 | 2 => fun v W => ∃ g, v = .slice (some ⟨g, 0, none⟩) 2 2 ∧ Row W g 0 (rungCells [rungS, rungR])
 | 3 => tv (.agg [.slice kA 256 kc, .int .u64 3].toArray)
 | _ => fun v W => ∃ cs g c, OwnT N kA ks v W cs g c
def madT (gc B : Nat) (KA : Option Addr) (kn kc : Nat) (kb ds : List Nat) : Nat → Tg
 | 0 => tv (.pointer (some ⟨gc, 0, none⟩))
 | 1 => tv (.slice KA kn kc)
 | 2 => tnew B kb
 | 3 => tv (.pointer (some ⟨gc, 1, none⟩))
 | 4 => tsl ds
 | 5 => tnew B (wr 4 ds)
 | 6 => fun v W => ∃ k c : Sl, v = .agg #[k.val, c.val, .slice none 0 0, .slice none 0 0] ∧ k.xs = kb ∧ c.xs = wr 4 ds ∧ SlN B W k ∧ SlN B W c
 | _ => tptr B (Value.agg #[.slice none 0 0, .slice none 0 0, .slice none 0 0, .slice none 0 0]).cells 48
set_option maxRecDepth 100000 in
set_option maxHeartbeats 12800000 in
theorem sMade_any (KA : Option Addr) (kn kc oth : Nat) (ds kb : List Nat) (at_ : Bool) (w : World) (hds : ds.length = 32) (ld : Lim 256 ds) (ho : oth < 256) (hkl : Lim 256 kb) (hkn : kb.length ≤ 1000) (hk0 : 0 < kb.length)
  (hKind : ∀ W, Below w.heap.size w W → Calls Tryz.prog 36 #[.slice KA kn kc] W (Gives .u8 kb W)) :
  Calls Tryz.prog 35 #[.agg (caseCells KA kn kc ds at_ oth).toArray] w (SMadePost ds kb at_ oth w) := by
 obtain ⟨w1, hw1⟩ : ∃ w1, w1 = w.alloc (.cells (caseCells KA kn kc ds at_ oth).toArray 61) := ⟨_, rfl⟩
 have e1 : Below w.heap.size w w1 := by rw [hw1]; exact (Below.refl _ _).alloc (Nat.le_refl _) _
 have C0 : Cut w1 w.heap.size 0 (caseCells KA kn kc ds at_ oth) := by rw [hw1]; exact Cut.of_heap (heap_alloc_new _ _) fun i v hv => by simpa using hv
 have z1 : w1.heap.size = w.heap.size + 1 := by rw [hw1]; simp
 have hcl : Lim 256 (wr 4 ds) := wr_lim (by decide) ld (by omega)
 have hds' := Lib.hid hds
 go_enter Tryz.func35, Tryz.ntmps35
 go_wp2_with fail
 rw [← hw1]
 have Z2 : Cut (w1.alloc (.cells #[.slice none 0 0, .slice none 0 0, .slice none 0 0, .slice none 0 0] 48)) (w.heap.size + 1) 0 [.slice none 0 0, .slice none 0 0, .slice none 0 0, .slice none 0 0] := by rw [← z1]; exact Cut.of_heap (heap_alloc_new _ _) fun i v hv => by simpa using hv
 have f1 : Below w1.heap.size w1 (w1.alloc (.cells #[.slice none 0 0, .slice none 0 0, .slice none 0 0, .slice none 0 0] 48)) := (Below.refl _ _).alloc (Nat.le_refl _) _
 have C1 := C0.below f1
 have e1 := e1.trans (f1.mono e1.size)
 have z2 : (w1.alloc (.cells #[.slice none 0 0, .slice none 0 0, .slice none 0 0, .slice none 0 0] 48)).heap.size = w.heap.size + 2 := by simp [z1]
 clear hw1 C0 f1 z1
 generalize w1.alloc (.cells #[.slice none 0 0, .slice none 0 0, .slice none 0 0, .slice none 0 0] 48) = w2 at *
 have hd0 : Below w2.heap.size w2 w2.drew := below_drewN (Below.refl _ _) 1
 refine wp_region_last (by kernel_rfl) (fun i => if i = 7 then 3 else 11 + i) (fun k v W => Sp (madT w.heap.size w2.heap.size KA kn kc kb ds k) v W) (fun W => Below w2.heap.size w2 W) (Nat.succ_pos _) (by kernel_rfl) (by kernel_rfl) (by kernel_rfl) ?inj ?lt (fun i v W W' h hs => h.mono hs) hd0 ⟨?s0, ?s1, ?s2, ?s3, ?s4, ?s5, ?s6, ?s7, trivial⟩ ?fin
 case inj =>
  intro i j hi hj h
  have h40 : i < 8 ∧ j < 8 := ⟨hi, hj⟩
  have h : (if i = 7 then 3 else 11 + i) = (if j = 7 then 3 else 11 + j) := h
  split at h <;> split at h <;> omega
 case lt =>
  intro i hi
  have h40 : i < 8 := hi
  show (if i = 7 then 3 else 11 + i) < 93
  split <;> omega
 case s0 => exact st_field rfl rfl rfl (src_base (fun i _ => by show (if i = 7 then 3 else 11 + i) ≠ 1; split <;> omega) rfl) (fun W => fa_case0 _ 0 W)
 case s1 => exact st_load rfl rfl rfl (src_dep (j := 0) (e := ⟨0, .data⟩) (by simp) rfl rfl rfl) (ld_u64s _ _) (fun W h => (C1.below h).cell (i := 0) rfl)
 case s2 => exact st_call rfl (fun a W => run_call rfl cf_kind a W) (fun a W hb hd hg => by
   have h1 : a.eval (.tmp 12) = .slice KA kn kc := (hd ⟨1, .data⟩ (by simp) rfl).now
   simp only [List.map_toArray, List.map_cons, List.map_nil, h1]
   exact (hKind W (e1.trans (hg.mono e1.size))).mono fun _ _ h => h.sp hg.size)
 case s3 => exact st_field rfl rfl rfl (src_base (fun i _ => by show (if i = 7 then 3 else 11 + i) ≠ 1; split <;> omega) rfl) (fun W => fa_case1 _ 0 W)
 case s4 => exact st_pure (U := .slice (some ⟨w.heap.size, 1, none⟩) 32 32) rfl (src_dep (j := 3) (e := ⟨3, .data⟩) (by simp) rfl rfl rfl) (fun a h W => by
   have h : a.eval (.tmp 14) = .pointer (some ⟨w.heap.size, 1, none⟩) := h
   unfold execOp
   simp only [Option.map_none, h, sl_arr, Sem.run_bind, Sem.run_pure, Result.andThen_ok]) (fun W hg => by
   have q := Sp.tsl (xs := ds) (A := some ⟨w.heap.size, 1, none⟩) (c := 32) (w := W) (by omega) (by decide) (rd_of_case (C1.below hg) hds)
   rw [hds] at q
   exact q)
 case s5 => exact st_call_sl (pre := [.const (.int .u8 4)]) (pv := [.int .u8 4]) rfl rfl (fun a W => run_call rfl cf_write a W) (fun _ => rfl) (src_dep (j := 4) (e := ⟨4, .data⟩) (by simp) rfl rfl rfl) (fun A cc W _ _ hr => refWrite_any 4 A ds.length cc ds W (by omega) rfl (by omega) hr)
 case s6 => exact st_build rfl rfl (fun a W hb hd hg => by
   obtain ⟨A2, c2, v2, n2, m2, q2, x2⟩ := (hd ⟨2, .data⟩ (by simp) rfl).now
   obtain ⟨A3, c3, v3, n3, m3, q3, x3⟩ := (hd ⟨5, .data⟩ (by simp) rfl).now
   have v2 : a.eval (.tmp 13) = _ := v2
   have v3 : a.eval (.tmp 16) = _ := v3
   refine ⟨#[.slice A2 kb.length c2, .slice A3 (wr 4 ds).length c3, .slice none 0 0, .slice none 0 0], ?_, fun w' hs => ⟨⟨A2, c2, kb⟩, ⟨A3, c3, wr 4 ds⟩, rfl, rfl, rfl, ⟨⟨q2.sub hs, hkl, n2, m2⟩, x2⟩, ⟨⟨q3.sub hs, hcl, n3, m3⟩, x3⟩⟩⟩
   simp only [List.map_toArray, List.map_cons, List.map_nil, v2, v3]
   kernel_rfl)
 case s7 => exact st_alloc rfl rfl rfl (z := .agg #[.slice none 0 0, .slice none 0 0, .slice none 0 0, .slice none 0 0]) zero_sgd (by decide)
 case fin =>
  intro o ho' a W h1 h2 h3 h4 h5 K hK
  clear hds
  obtain ⟨sk, sc, hv, hk1, hc1, hn1, hn2⟩ := (h4 6 (by show 6 < 8; omega)).now
  obtain ⟨g3, hg3, hB3, hh3⟩ := (h4 7 (by show 7 < 8; omega)).now
  cases (Option.some.inj (show some _ = some o from ho'))
  have k1 : a.eval (.tmp 3) = .pointer (some ⟨g3, 0, none⟩) := hg3
  have k2 : a.eval (.tmp 17) = .agg [sk.val, sc.val, .slice none 0 0, .slice none 0 0].toArray := hv
  have C3 : Cut W g3 0 [.slice none 0 0, .slice none 0 0, .slice none 0 0, .slice none 0 0] := Cut.of_heap hh3 fun i v hv => by simpa [Value.cells] using hv
  refine step_store_cut rfl 48 (.tmp 3) (.tmp 17) rfl g3 0 _ _ k1 k2 C3 rfl sz_sgd (fun v hv => by simp at hv; rcases hv with rfl | rfl | rfl <;> rfl) (fun W2 hst => hK a W2 ?_)
  have hz : a.tmps.size = 93 := h2
  have hdf : a.defers = [] := h1
  have b0 := h3 0 (fun i hi => by
   have h8 : i < 8 := hi
   show (if i = 7 then 3 else 11 + i) ≠ 0
   split <;> omega)
  have b0 : a.tmps.getD 0 undef = .agg (caseCells KA kn kc ds at_ oth).toArray := b0
  have b1 := h3 1 (fun i hi => by
   have h8 : i < 8 := hi
   show (if i = 7 then 3 else 11 + i) ≠ 1
   split <;> omega)
  have b1 : a.tmps.getD 1 undef = .pointer (some ⟨w.heap.size, 0, none⟩) := b1
  have b2 := h3 2 (fun i hi => by
   have h8 : i < 8 := hi
   show (if i = 7 then 3 else 11 + i) ≠ 2
   split <;> omega)
  have b2 : a.tmps.getD 2 undef = .pointer (some ⟨w.heap.size + 1, 0, none⟩) := b2
  have b3 : a.tmps.getD 3 undef = .pointer (some ⟨g3, 0, none⟩) := k1
  rw [act_eq hz hdf]
  simp only [show List.range 93 = [0, 1, 2, 3, 4, 5, 6, 7, 8, 9, 10, 11, 12, 13, 14, 15, 16, 17, 18, 19, 20, 21, 22, 23, 24, 25, 26, 27, 28, 29, 30, 31, 32, 33, 34, 35, 36, 37, 38, 39, 40, 41, 42, 43, 44, 45, 46, 47, 48, 49, 50, 51, 52, 53, 54, 55, 56, 57, 58, 59, 60, 61, 62, 63, 64, 65, 66, 67, 68, 69, 70, 71, 72, 73, 74, 75, 76, 77, 78, 79, 80, 81, 82, 83, 84, 85, 86, 87, 88, 89, 90, 91, 92] from rfl, List.map_cons, List.map_nil, b0, b1, b2, b3]
  have S2 : Cut W2 g3 0 [sk.val, sc.val, .slice none 0 0, .slice none 0 0] := hst.2.2.1
  have oz : ∀ (A : Option Addr) (xs : List Nat) (x : Nat), Rd .u8 W A xs → xs[0]? = some x → Off A xs g3 := fun A xs x hr hx => by
   obtain ⟨b, o, rfl, hb, hc⟩ := hr.pos hx
   refine Off.of_ne ?_
   rintro rfl
   have h1 := hc 0 x hx
   rw [Nat.add_zero, cell_of_row W b o _ _ (0, 0) hh3] at h1
   rcases o with _ | _ | _ | _ | o <;> simp [Value.cells] at h1
  obtain ⟨xk, hxk⟩ := get_of_lt (xs := kb) (i := 0) hk0
  have ok1 : sk.ok W2 := hn1.ok.grown hst.1 (fun g e => by cases e; exact oz _ _ xk hn1.ok.rd (by rw [hk1]; exact hxk))
  have ok2 : sc.ok W2 := hn2.ok.grown hst.1 (fun g e => by cases e; exact oz _ _ 4 hn2.ok.rd (by rw [hc1]; rfl))
  have e2 : Below w2.heap.size w2 W2 := below_only h5 hst.1 h5.size hB3
  have C2 := C1.below e2
  have Z2 := Z2.below e2
  have e2' := e2.size
  have e2 := e1.trans (e2.mono e1.size)
  have hg3n : w2.heap.size ≤ g3 := hB3
  have offk : ∀ g, g < w2.heap.size → Off sk.A sk.xs g := hn1.off
  have offc : ∀ g, g < w2.heap.size → Off sc.A sc.xs g := hn2.off
  have offk3 : Off sk.A sk.xs g3 := oz _ _ xk hn1.ok.rd (by rw [hk1]; exact hxk)
  have offc3 : Off sc.A sc.xs g3 := oz _ _ 4 hn2.ok.rd (by rw [hc1]; rfl)
  have HK := Lib.hid (And.intro hk1 hc1)
  clear hk1 hc1 hst oz hn1 hn2 h5 h3 h4 hv b0 b1 b2 b3 k1 k2 C3 hh3 hz hdf h1 h2 hd0
  obtain ⟨g4, hg4⟩ : ∃ g4, g4 = W2.heap.size := ⟨_, rfl⟩
  have f4 : Below W2.heap.size W2 (W2.alloc (.cells #[.slice none 0 0, .slice none 0 0, .slice none 0 0, .slice none 0 0, .slice none 0 0, .slice none 0 0] 67)) := (Below.refl _ _).alloc (Nat.le_refl _) _
  have z4 : (W2.alloc (.cells #[.slice none 0 0, .slice none 0 0, .slice none 0 0, .slice none 0 0, .slice none 0 0, .slice none 0 0] 67)).heap.size = g4 + 1 := by simp [hg4]
  have CD4 : Cut (W2.alloc (.cells #[.slice none 0 0, .slice none 0 0, .slice none 0 0, .slice none 0 0, .slice none 0 0, .slice none 0 0] 67)) w.heap.size 1 (ints .u8 ds) := by simpa using cut_mid (a := [.slice KA kn kc]) (C2.below f4)
  have G4 : Cut (W2.alloc (.cells #[.slice none 0 0, .slice none 0 0, .slice none 0 0, .slice none 0 0, .slice none 0 0, .slice none 0 0] 67)) g4 0 [.slice none 0 0, .slice none 0 0, .slice none 0 0, .slice none 0 0, .slice none 0 0, .slice none 0 0] := by rw [hg4]; exact Cut.of_heap (heap_alloc_new _ _) fun i v hv => by simpa using hv
  go_upto_region 4 with (first
   | (refine wpList_load_mid rfl 49 (.tmp 19) rfl w.heap.size 1 rfl (ints .u8 ds) _ CD4.range Tryz.underlying49 rfl (by rw [ints_length, hds'.out]; exact size_32u8) ?_)
   | (refine wpList_alloc_arr rfl 49 rfl .u8 32 zero_32u8 ?_; intro g5 W5 hg5 hw5 hz5 hb5)
   | (refine wpList_store_whl rfl 49 (.tmp 5) (.tmp 20) rfl g5 .u8 _ (List.replicate 32 0) ds rfl rfl hw5 (by rw [hds'.out]; rfl) size_32u8 ?_; intro W6 hw6 hg6 hs6))
  have b6 : Below W2.heap.size W2 W6 := f4.trans ((below_only hb5 hg6 hb5.size (by have := hg5.out; omega)).mono f4.size)
  have hg5 : Hid (g5 = g4 + 1) := by have := hg5.out; rw [this]; exact z4
  have z6 : W6.heap.size = g4 + 2 := by rw [hs6, hz5, z4]
  have ng5 := hg5.out
  have G6 := (G4.below hb5).grown hg6 (by intro e; cases e; omega)
  have C6 := C2.below b6
  have Z6 := Z2.below b6
  have S6 := S2.below b6
  have ok6 := ok1.below b6
  have ok6c := ok2.below b6
  have e6 := e2.trans (b6.mono e2.size)
  have hw20 : w2.heap.size ≤ g4 := by rw [hg4]; exact e2'
  have hg3l : g3 < g4 := by rw [hg4]; exact S2.lt
  have ko6 : sk.offs (w.heap.size + 1) g3 g4 g5 := fun g hg => by
   rcases hg with rfl | rfl | rfl | rfl
   ·exact offk _ (by omega)
   ·exact offk3
   ·exact Off.new ok1.rd (by omega)
   ·exact Off.new ok1.rd (by omega)
  have kc6 : sc.offs (w.heap.size + 1) g3 g4 g5 := fun g hg => by
   rcases hg with rfl | rfl | rfl | rfl
   ·exact offc _ (by omega)
   ·exact offc3
   ·exact Off.new ok2.rd (by omega)
   ·exact Off.new ok2.rd (by omega)
  have D6 := hw6
  have HG5 := Lib.hid (show g5 = g4 + 1 ∧ W6.heap.size = g4 + 2 ∧ w2.heap.size ≤ g4 ∧ g3 < g4 ∧ w2.heap.size ≤ g3 ∧ w2.heap.size = w.heap.size + 2 from ⟨ng5, z6, hw20, hg3l, hg3n, z2⟩)
  have hn0 : w.heap.size ∉ [g4, g5] := by simp only [List.mem_cons, List.not_mem_nil, or_false]; omega
  have hn2 : w.heap.size + 1 ∉ [g4, g5] := by simp only [List.mem_cons, List.not_mem_nil, or_false]; omega
  have hn3 : g3 ∉ [g4, g5] := by simp only [List.mem_cons, List.not_mem_nil, or_false]; omega
  have k33 : W6.cell? ⟨w.heap.size, 33, none⟩ = some (.bool at_) := by simpa using C6.cell (case_at KA kn kc oth ds at_ hds'.out)
  have k0 : W6.cell? ⟨w.heap.size, 0, none⟩ = some (.slice KA kn kc) := by simpa using C6.cell (i := 0) rfl
  rw [← hg4]
  clear hw6 hb5 hz5 hg6 hs6 CD4 G4 f4 z4
  have HG4 := Lib.hid hg4
  clear hg4 ng5
  go_upto_if 22 with fail
  go_cut [] from 21 to 39 (fun wx => ∃ (aa kk dd : Sl) (sum : List Nat), Hid (aa.xs = (if at_ then attrsB kb ds else []) ∧ kk.xs = (if at_ then kb else []) ∧ dd.xs = (if at_ then ds else []) ∧ sum = (if at_ then digest (attrsB kb ds) else ds)) ∧ Mid w (caseCells KA kn kc ds at_ oth) g3 g4 g5 [sk.val, sc.val, .slice none 0 0, .slice none 0 0] [.slice none 0 0, .slice none 0 0, aa.val, kk.val, dd.val, .slice none 0 0] [sk, sc, aa, kk, dd] sum wx)
  case first =>
   cases at_ with
   | false =>
    go_wp2_with fail
    go_meet
    case rel =>
     refine ⟨Sl.nil, Sl.nil, Sl.nil, ds, ⟨rfl, rfl, rfl, rfl⟩, e6, C6, Z6, S6, G6, D6, fun s hs => ?_, fun s hs => ?_, by have := HG5.out; omega⟩
     ·simp only [List.mem_cons, List.not_mem_nil, or_false] at hs
      rcases hs with rfl | rfl | rfl | rfl | rfl
      ·exact ok6
      ·exact ok6c
      all_goals exact Sl.ok_nil _
     ·simp only [List.mem_cons, List.not_mem_nil, or_false] at hs
      rcases hs with rfl | rfl | rfl | rfl | rfl
      ·exact ko6
      ·exact kc6
      all_goals exact fun g _ => Off.nil _ g
   | true =>
    go_wp2_with fail
    refine (hKind W6 e6).mono ?_
    rintro r W7 ⟨A7, c7, rfl, n7, m7, o7, f7⟩
    obtain ⟨q7, x7⟩ := sl_gives hkl n7 m7 o7
    have G7 := G6.below f7
    have k7 : W7.cell? ⟨g4, 3, none⟩ = some (.slice none 0 0) := by simpa using G7.cell (i := 3) rfl
    have z7 : W7.frozen? ⟨g4, 3, none⟩ = false := by simpa using G7.frozen (i := 3) rfl
    go_upto_region 6 with fail
    generalize hW8 : W7.setCell ⟨g4, 3, none⟩ (.slice A7 kb.length c7) = W8
    have G8 : Cut W8 g4 0 [.slice none 0 0, .slice none 0 0, .slice none 0 0, .slice A7 kb.length c7, .slice none 0 0, .slice none 0 0] := by rw [← hW8]; exact G7.set (i := 3) rfl _
    have hn45 : g5 ≠ g4 := by have := HG5.out; omega
    have D8 : Whl .u8 49 W8 g5 ds := by rw [← hW8]; exact (D6.below f7).far (p := ⟨g4, 3, none⟩) hn45 _
    have s8 : Buts [g4, g5] W7 W8 := by rw [← hW8]; exact Buts.of_set _ _ _ _ (by simp)
    have b8 : Buts [g4, g5] W6 W8 := (Buts.of_below f7).trans s8
    have e8 : Below w.heap.size w W8 := by rw [← hW8]; exact (e6.trans (f7.mono e6.size)).setCell (by show w.heap.size ≤ g4; omega) _
    have q8 := q7.but s8 (fun g hg => by
     simp only [List.mem_cons, List.not_mem_nil, or_false] at hg
     exact x7 g (by have := HG5.out; omega))
    have C8 := C6.but b8 hn0
    have R8 : Rd .u8 W8 (some ⟨w.heap.size, 1, none⟩) ds := rd_of_case C8 hds'.out
    clear k7 z7 hW8 G7 s8
    go_wp2_with fail
    refine (copyBytes_any (some ⟨w.heap.size, 1, none⟩) 32 32 ds W8 hds'.out.symm (by omega) R8).mono ?_
    rintro r W9 ⟨A9, c9, rfl, r9, f9⟩
    obtain ⟨_, _, hv, -, n9, m9, o9⟩ := Own.of_row r9
    cases hv
    obtain ⟨q9, x9⟩ := sl_gives ld n9 m9 o9
    have G9 := G8.below f9
    have k9 : W9.cell? ⟨g4, 4, none⟩ = some (.slice none 0 0) := by simpa using G9.cell (i := 4) rfl
    have z9 : W9.frozen? ⟨g4, 4, none⟩ = false := by simpa using G9.frozen (i := 4) rfl
    go_upto_region 7 with fail
    generalize hW10 : W9.setCell ⟨g4, 4, none⟩ (.slice A9 ds.length c9) = W10
    have G10 : Cut W10 g4 0 [.slice none 0 0, .slice none 0 0, .slice none 0 0, .slice A7 kb.length c7, .slice A9 ds.length c9, .slice none 0 0] := by rw [← hW10]; exact G9.set (i := 4) rfl _
    have D10 : Whl .u8 49 W10 g5 ds := by rw [← hW10]; exact (D8.below f9).far (p := ⟨g4, 4, none⟩) hn45 _
    have s10 : Buts [g4, g5] W9 W10 := by rw [← hW10]; exact Buts.of_set _ _ _ _ (by simp)
    have t10 : Buts [g4, g5] W8 W10 := (Buts.of_below f9).trans s10
    have b10 := b8.trans t10
    have e10 : Below w.heap.size w W10 := by rw [← hW10]; exact (e8.trans (f9.mono e8.size)).setCell (by show w.heap.size ≤ g4; omega) _
    have q10 := q8.but t10 (fun g hg => by
     simp only [List.mem_cons, List.not_mem_nil, or_false] at hg
     exact x7 g (by have := HG5.out; omega))
    have zb8 := b8.size
    have p10 := q9.but s10 (fun g hg => by
     simp only [List.mem_cons, List.not_mem_nil, or_false] at hg
     exact x9 g (by have := HG5.out; omega))
    have k103 : W10.cell? ⟨g4, 3, none⟩ = some (.slice A7 kb.length c7) := by simpa using G10.cell (i := 3) rfl
    have k104 : W10.cell? ⟨g4, 4, none⟩ = some (.slice A9 ds.length c9) := by simpa using G10.cell (i := 4) rfl
    clear k9 z9 hW10 G9 s10
    go_wp2_with fail
    refine (attrs_any ⟨A7, c7, kb⟩ ⟨A9, c9, ds⟩ W10 q10 p10 hkn hds'.out).mono ?_
    rintro r W11 ⟨A11, c11, rfl, n11, m11, o11, f11⟩
    obtain ⟨han, hal, hap⟩ := attrsB_ok hkl ld hkn hds'.out
    obtain ⟨q11, x11⟩ := sl_gives hal n11 m11 o11
    have G11 := G10.below f11
    have k11 : W11.cell? ⟨g4, 2, none⟩ = some (.slice none 0 0) := by simpa using G11.cell (i := 2) rfl
    have z11 : W11.frozen? ⟨g4, 2, none⟩ = false := by simpa using G11.frozen (i := 2) rfl
    go_upto_region 8 with fail
    generalize hW12 : W11.setCell ⟨g4, 2, none⟩ (.slice A11 (attrsB kb ds).length c11) = W12
    have G12 : Cut W12 g4 0 [.slice none 0 0, .slice none 0 0, .slice A11 (attrsB kb ds).length c11, .slice A7 kb.length c7, .slice A9 ds.length c9, .slice none 0 0] := by rw [← hW12]; exact G11.set (i := 2) rfl _
    have D12 : Whl .u8 49 W12 g5 ds := by rw [← hW12]; exact (D10.below f11).far (p := ⟨g4, 2, none⟩) hn45 _
    have s12 : Buts [g4, g5] W11 W12 := by rw [← hW12]; exact Buts.of_set _ _ _ _ (by simp)
    have t12 : Buts [g4, g5] W10 W12 := (Buts.of_below f11).trans s12
    have b12 := b10.trans t12
    have e12 : Below w.heap.size w W12 := by rw [← hW12]; exact (e10.trans (f11.mono e10.size)).setCell (by show w.heap.size ≤ g4; omega) _
    have q12 := q10.but t12 (fun g hg => by
     simp only [List.mem_cons, List.not_mem_nil, or_false] at hg
     exact x7 g (by have := HG5.out; omega))
    have zb10 := b10.size
    have p12 := p10.but t12 (fun g hg => by
     simp only [List.mem_cons, List.not_mem_nil, or_false] at hg
     exact x9 g (by have := HG5.out; omega))
    have r12 := q11.but s12 (fun g hg => by
     simp only [List.mem_cons, List.not_mem_nil, or_false] at hg
     exact x11 g (by have := HG5.out; omega))
    have k122 : W12.cell? ⟨g4, 2, none⟩ = some (.slice A11 (attrsB kb ds).length c11) := by simpa using G12.cell (i := 2) rfl
    clear k11 z11 hW12 G11 s12 k103 k104
    go_wp2_with fail
    refine (refSum_any A11 (attrsB kb ds).length c11 (attrsB kb ds) W12 rfl (by omega) r12.rd hal).mono ?_
    rintro r W13 ⟨rfl, f13⟩
    have D12 := D12.below f13
    have hdl : (digest (attrsB kb ds)).length = 32 := digest_length _
    have hdl := Lib.hid hdl
    go_wp2_with (refine wpList_store_whl rfl 49 (.tmp 5) (.tmp 39) rfl g5 .u8 _ ds (digest (attrsB kb ds)) rfl rfl D12 (by rw [hdl.out, hds'.out]) (by rw [hds'.out]; exact size_32u8) ?_; intro W14 hw14 hg14 hs14)
    go_meet
    case rel =>
     have t14 : Buts [g4, g5] W12 W14 := (Buts.of_below f13).trans (Buts.of_grown hg14 (by simp))
     have b14 := b12.trans t14
     have zb12 := b12.size
     have e14 := e12.trans (f13.mono e12.size)
     have e14 := below_only e14 hg14 e14.size (by have := HG5.out; omega)
     refine ⟨⟨A11, c11, attrsB kb ds⟩, ⟨A7, c7, kb⟩, ⟨A9, c9, ds⟩, digest (attrsB kb ds), ⟨rfl, rfl, rfl, rfl⟩, e14, C6.but b14 hn0, Z6.but b14 hn2, S6.but b14 hn3, (G12.below f13).grown hg14 (by intro e; cases e; exact hn45 rfl), hw14, fun s hs => ?_, fun s hs => ?_, by have := HG5.out; omega⟩
     ·simp only [List.mem_cons, List.not_mem_nil, or_false] at hs
      rcases hs with rfl | rfl | rfl | rfl | rfl
      ·exact ok6.but b14 (fun g hg => ko6 g (.inr (.inr (by simpa using hg))))
      ·exact ok6c.but b14 (fun g hg => kc6 g (.inr (.inr (by simpa using hg))))
      ·exact r12.but t14 (fun g hg => x11 g (by simp only [List.mem_cons, List.not_mem_nil, or_false] at hg; have := HG5.out; omega))
      ·exact q12.but t14 (fun g hg => x7 g (by simp only [List.mem_cons, List.not_mem_nil, or_false] at hg; have := HG5.out; omega))
      ·exact p12.but t14 (fun g hg => x9 g (by simp only [List.mem_cons, List.not_mem_nil, or_false] at hg; have := HG5.out; omega))
     ·simp only [List.mem_cons, List.not_mem_nil, or_false] at hs
      rcases hs with rfl | rfl | rfl | rfl | rfl
      ·exact ko6
      ·exact kc6
      ·exact fun g hg => x11 g (by have := HG5.out; omega)
      ·exact fun g hg => x7 g (by have := HG5.out; omega)
      ·exact fun g hg => x9 g (by have := HG5.out; omega)
  case rest =>
   obtain ⟨aa, kk, dd, sum, HS, mid⟩ := hcut
   obtain ⟨V, rfl⟩ : ∃ V, V = wc := ⟨wc, rfl⟩
   have hsl : Hid (sum.length = 32) := Lib.hid (by
    rw [HS.out.2.2.2]
    split
    ·exact digest_length _
    ·exact hds'.out)
   have hsm : Lim 256 sum := by
    rw [HS.out.2.2.2]
    split
    ·exact digest_lim _
    ·exact ld
   have DV := mid.dig
   clear C6 Z6 S6 G6 D6 ok6 ok6c e6 b6 e2 C2 Z2 S2 k33 k0 e1 C1 e2' offk offc offk3 offc3 ok1 ok2 ko6 kc6
   go_upto_region 10 with (refine wpList_load_whl_if rfl 49 (.tmp 5) rfl g5 rfl .u8 _ sum DV _ Tryz.underlying49 rfl (by rw [hsl.out]; exact size_32u8) ?_)
   refine (for_any sum V hsl.out hsm).mono ?_
   rintro r V1 ⟨Ak, ck, Bs, cs, rfl, nk, mk, ok_, ns, ms, os, fv⟩
   unfold keyVal
   go_upto_region 10 with fail
   have z6b : V1.heap.size < (V1.alloc (.cells #[.slice Ak 256 ck, .int .u64 3] 28)).heap.size := by simp
   have f2 : Below V1.heap.size V1 (V1.alloc (.cells #[.slice Ak 256 ck, .int .u64 3] 28)) := (Below.refl _ _).alloc (Nat.le_refl _) _
   have K2 : Cut (V1.alloc (.cells #[.slice Ak 256 ck, .int .u64 3] 28)) V1.heap.size 0 [.slice Ak 256 ck, .int .u64 3] := Cut.of_heap (heap_alloc_new _ _) fun i v hv => by simpa using hv
   have hV5 : g5 < V.heap.size := mid.dig.lt
   have hV4 : g4 < V.heap.size := mid.sgn.lt
   have hV1 := fv.size
   have mid2 := (mid.next fv).next f2
   have okk : Sl.ok (V1.alloc (.cells #[.slice Ak 256 ck, .int .u64 3] 28)) ⟨Ak, ck, forKey sum⟩ := ⟨ok_.rd.below f2, forKey_lim _, by show (forKey sum).length ≤ ck; rw [forKey_len]; exact nk, mk⟩
   have oks : Sl.ok (V1.alloc (.cells #[.slice Ak 256 ck, .int .u64 3] 28)) ⟨Bs, cs, forSig sum⟩ := ⟨os.rd.below f2, forSig_lim _, by show (forSig sum).length ≤ cs; rw [forSig_len]; exact ns, ms⟩
   have xk : ∀ g, g < V.heap.size → Off Ak (forKey sum) g := fun g hg => off_of_own ok_ hg
   have xs : ∀ g, g < V.heap.size → Off Bs (forSig sum) g := fun g hg => off_of_own os hg
   generalize hg6 : V1.heap.size = g6 at *
   generalize V1.alloc (.cells #[.slice Ak 256 ck, .int .u64 3] 28) = V2 at *
   clear mid DV ok_ os fv f2 hg6
   have koth : V2.cell? ⟨w.heap.size, 34, none⟩ = some (.int .u8 (oth : Int)) := by simpa using mid2.case_.cell (case_oth KA kn kc oth ds at_ hds'.out)
   go_wp2_with fail
   go_loopw [8, 9] (fun s t wr => ∃ i : Nat, t = .int .i64 (i : Int) ∧ i ≤ oth % 3 ∧ wr.ownsRow V2.heap.size 125 6 s i (rungCells (rungsO i)) ∧ Below V2.heap.size V2 wr) (fun _ t _ => oth % 3 - (intOf t).toNat)
   case atStart => exact ⟨0, rfl, Nat.zero_le _, World.ownsRow_nil _ _ _ _, Below.refl _ _⟩
   case round =>
    obtain ⟨i, rfl, hi, hown, er⟩ := hrel
    have ko := (er.cell (p := ⟨w.heap.size, 34, none⟩) mid2.case_.lt).trans koth
    by_cases hlt : i < oth % 3
    ·have z1 : (i : Int) < (oth : Int) % 3 := by omega
     have z3 : (i : Int) < 3 := by omega
     have f1 : Below wr.heap.size wr (wr.alloc (.cells #[.int .u8 120, .int .u8 (97 + (i : Int))] 5)) := (Below.refl _ _).alloc (Nat.le_refl _) _
     have hcv := conv_str (some ⟨wr.heap.size, 0, none⟩) 2 2 [120, 97 + i] (wr.alloc (.cells #[.int .u8 120, .int .u8 (97 + (i : Int))] 5)) rfl (rd_xa wr i)
     go_wp2_with fail
     refine (plain_any [120, 97 + i] _).mono ?_
     rintro r W3 ⟨rfl, f3⟩
     have zown : ∀ k, u8.ownBlock = some k → V2.heap.size ≤ k ∧ k < wr.heap.size := hown.lt
     have b3 : Below wr.heap.size wr W3 := f1.trans (f3.mono f1.size)
     have own3 := row_keep hown fun k hk => b3.block k (zown k hk).2
     have own4 := own3.alloc (.cells (Rung.cells ⟨[120, 97 + i], 0, true, true, -1, -1⟩).toArray 125)
     have f4 : Below W3.heap.size W3 (W3.alloc (.cells (Rung.cells ⟨[120, 97 + i], 0, true, true, -1, -1⟩).toArray 125)) := (Below.refl _ _).alloc (Nat.le_refl _) _
     have e3 := er.trans (b3.mono er.size)
     have e4 := e3.trans (f4.mono e3.size)
     have z4 := e4.size
     clear hcv hown own3 f3 f1
     go_wp2_with (first
      | (refine wpList_build_rung rfl (.tmp 59) rfl ⟨[120, 97 + i], 0, true, true, -1, -1⟩ rfl ?_)
      | (at_builtin; (refine wpList_append_V rfl (.tmp 53) (.tmp 60) _ rfl V2.heap.size 125 (.agg #[.string ⟨#[]⟩, .int .u8 0, .bool false, .bool false, .int .i64 0, .int .i64 0]) 6 40 Tryz.underlying123 info_rung rfl (by decide) u8 i (rungCells (rungsO i)) rfl own4 ⟨W3.heap.size, 0, none⟩ 1 1 (Rung.cells ⟨[120, 97 + i], 0, true, true, -1, -1⟩) rfl rfl new_at (rung_one _) (by simp only [maxLen]; omega) (by omega) z4 ?_; intro v5 W5 own5 gg b5)))
     go_roundw
     case rel =>
      refine ⟨i + 1, by go_num, by omega, by rw [rungsO_succ, rungCells_snoc]; exact own5, e4.grown gg e4.size (fun j hj => (zown j hj).1)⟩
     case measure =>
      simp [intOf]
      omega
    ·have z1 : ¬ (i : Int) < (oth : Int) % 3 := by omega
     obtain rfl : i = oth % 3 := by omega
     have zer := er.size
     obtain ⟨gl, A, lc, rfl, hA, hR, hob⟩ := row_own hown (by omega)
     have f1 : Below wr.heap.size wr (wr.alloc (.cells #[.int .u8 1] 5)) := (Below.refl _ _).alloc (Nat.le_refl _) _
     go_wp2_with fail
     refine (ladder_any gl 0 (oth % 3) lc A (rungsO (oth % 3)) (some ⟨wr.heap.size, 0, none⟩) 1 3 [1] _ (rungsO_len _).symm (by omega) hA (hR.below f1) (rungsO_ok _ (by omega)) (rd_1 wr) (by decide) (by decide)).mono ?_
     rintro r W3 ⟨cs1, v1, rfl, own1, len1, say1, ok1, off1, b1⟩
     have b3 : Below wr.heap.size wr W3 := f1.trans (b1.mono f1.size)
     have e3 := er.trans (b3.mono er.size)
     have mid3 := mid2.next e3
     have okk3 := okk.below e3
     have oks3 := oks.below e3
     have K3 := K2.below e3
     have offp : ∀ c ∈ cs1, ∀ g, g < wr.heap.size → CrtOff c g := fun c hc g hg => off1 c hc g (.inl ⟨by have := f1.size; omega, Off.of_ne (by omega)⟩)
     have g3V : g3 < V2.heap.size := mid2.sgd.lt
     have k32 : W3.cell? ⟨g3, 2, none⟩ = some (.slice none 0 0) := by simpa using mid3.sgd.cell (i := 2) rfl
     have z32 : W3.frozen? ⟨g3, 2, none⟩ = false := by simpa using mid3.sgd.frozen (i := 2) rfl
     have hbw : wr.heap.size ≤ (wr.alloc (.cells #[.int .u8 1] 5)).heap.size := f1.size
     have own1 := row_mono own1 hbw
     have zb3 := b3.size
     obtain ⟨gr, A1, c1, rfl, -, -, -⟩ := row_own own1 (by omega)
     have offSS : ∀ s ∈ [sk, sc, aa, kk, dd], ∀ k, V2.heap.size ≤ k → Off s.A s.xs k := fun s hs k hk => Off.new (mid2.oks s hs).rd hk
     have xkn : ∀ k, V2.heap.size ≤ k → Off Ak (forKey sum) k := fun k hk => Off.new okk.rd hk
     have xsn : ∀ k, V2.heap.size ≤ k → Off Bs (forSig sum) k := fun k hk => Off.new oks.rd hk
     have offv1 : ∀ c ∈ cs1, ∀ k, (Value.slice A1 (rungsO (oth % 3)).length c1).ownBlock = some k → CrtOff c k := fun c hc k hk => off1 c hc k (.inr hk)
     have hg5V : g5 < V2.heap.size := mid2.dig.lt
     clear mid2 off1 koth ko b1 f1 hR hown hA hob K2 okk oks er b3
     go_upto_region 16 with fail
     have mid4 := mid3.set3 (i := 2) rfl (.slice A1 (rungsO (oth % 3)).length c1)
     have own4 : (W3.setCell ⟨g3, 2, none⟩ (.slice A1 (rungsO (oth % 3)).length c1)).ownsRow wr.heap.size 30 24 (.slice A1 (rungsO (oth % 3)).length c1) (rungsO (oth % 3)).length (crtCells cs1) := row_keep own1 fun k hk => Below.heap_setCell _ _ _ _ (by have := own1.lt k hk; show k ≠ g3; omega)
     have g3w : g3 < wr.heap.size := by omega
     have g6n : g6 ≠ g3 := by have := HG5.out; omega
     have okk4 := okk3.grown (grown_setCells g3 [.slice A1 (rungsO (oth % 3)).length c1] 2 W3) (fun g e => Option.some.inj e ▸ xk g3 (by have := HG5.out; omega))
     have oks4 := oks3.grown (grown_setCells g3 [.slice A1 (rungsO (oth % 3)).length c1] 2 W3) (fun g e => Option.some.inj e ▸ xs g3 (by have := HG5.out; omega))
     have K4 := K3.far (p := ⟨g3, 2, none⟩) g6n (.slice A1 (rungsO (oth % 3)).length c1)
     have hgr := grown_setCells g3 [.slice A1 (rungsO (oth % 3)).length c1] 2 W3
     have ok4 : ∀ c ∈ cs1, Crt.ok (W3.setCell ⟨g3, 2, none⟩ (.slice A1 (rungsO (oth % 3)).length c1)) c := fun c hc => (ok1 c hc).grown hgr (fun g e => Option.some.inj e ▸ offp c hc g3 g3w)
     have zU : (W3.setCell ⟨g3, 2, none⟩ (.slice A1 (rungsO (oth % 3)).length c1)).heap.size = W3.heap.size := by simp
     clear K3 okk3 oks3 k32 z32 hgr own1 ok1 mid3
     change Sl.ok (W3.setCell ⟨g3, 2, none⟩ (.slice A1 (rungsO (oth % 3)).length c1)) _ at okk4
     change Sl.ok (W3.setCell ⟨g3, 2, none⟩ (.slice A1 (rungsO (oth % 3)).length c1)) _ at oks4
     generalize W3.setCell ⟨g3, 2, none⟩ (.slice A1 (rungsO (oth % 3)).length c1) = U at *
     have hd0 : Below U.heap.size U U.drew := below_drewN (Below.refl _ _) 1
     obtain ⟨ir, hir, hrz⟩ := Option.map_eq_some_iff.1 info_rung
     simp only [Prod.mk.injEq] at hrz
     obtain ⟨hrz, hrs, -⟩ := hrz
     refine wp_region_steps (by kernel_rfl) (fun i => if i = 5 then 10 else 67 + i) (fun i v W => Sp (madU U.heap.size g6 Ak ck (forKey sum) i) v W) (fun W => Below U.heap.size U W) (by kernel_rfl) (by kernel_rfl) ?inj ?lt (fun i v W W' h hs => h.mono hs) hd0 ⟨?s0, ?s1, ?s2, ?s3, ?s4, ?s5, trivial⟩ ?fin
     case inj =>
      intro i j hi hj h
      have h40 : i < 6 ∧ j < 6 := ⟨hi, hj⟩
      have h : (if i = 5 then 10 else 67 + i) = (if j = 5 then 10 else 67 + j) := h
      split at h <;> split at h <;> omega
     case lt =>
      intro i hi
      have h40 : i < 6 := hi
      show (if i = 5 then 10 else 67 + i) < 93
      split <;> omega
     case s0 => exact st_build rfl rfl (fun a W hb hd hg => ⟨rungS.cells.toArray, by kernel_rfl, fun w' hs => rfl⟩)
     case s1 => exact st_call rfl (fun a W => run_call rfl cf_plain a W) (fun a W hb hd hg => by
       have h1 : a.eval (.const (.string ⟨#[114, 111, 111, 116]⟩)) = .string (bstr [114, 111, 111, 116]) := by
        show Value.string _ = _
        kernel_rfl
       simp only [List.map_toArray, List.map_cons, List.map_nil, h1]
       exact (plain_any [114, 111, 111, 116] W).mono fun _ _ h => ⟨_, h.1, h.2, fun _ _ => rfl⟩)
     case s2 => exact st_slice rfl rfl Tryz.underlying123 hir hrz (by rw [hrs]; decide) (by rw [hrs]; decide) (fun a W hb hd hg => by
       have v0 : a.eval (.tmp 67) = .agg rungS.cells.toArray := (hd ⟨0, .data⟩ (by simp) rfl).now
       have v1 : a.eval (.tmp 68) = .agg rungR.cells.toArray := (hd ⟨1, .data⟩ (by simp) rfl).now
       refine ⟨(rungS.cells ++ rungR.cells).toArray, ?_, fun w' hs => ⟨W.heap.size, rfl, ?_⟩⟩
       ·rw [hrs]
        simp only [List.map_toArray, List.map_cons, List.map_nil, v0, v1]
        exact fill_rung2 _ _ _ rfl
       ·refine (Row.of_cut (Cut.of_heap (heap_alloc_new _ _) fun i v hv => ?_)).sub hs
        simpa [rungCells] using hv)
     case s3 => exact st_loadR rfl rfl rfl (src_base (fun i _ => by show (if i = 5 then 10 else 67 + i) ≠ 6; split <;> omega) rfl) Tryz.underlying28 rfl size_key (fun W h => (K4.below h).range)
     case s4 => exact st_call rfl (fun a W => run_call rfl cf_ladder a W) (fun a W hb hd hg => by
       obtain ⟨gq, v0, rq⟩ := (hd ⟨2, .data⟩ (by simp) rfl).now
       have v0 : a.eval (.tmp 69) = .slice (some ⟨gq, 0, none⟩) 2 2 := v0
       have v1 : a.eval (.tmp 70) = .agg [.slice Ak 256 ck, .int .u64 3].toArray := (hd ⟨3, .data⟩ (by simp) rfl).now
       simp only [List.map_toArray, List.map_cons, List.map_nil, v0, v1]
       have hfl : (forKey sum).length = 256 := forKey_len _
       have q := ladder_any gq 0 2 2 (some ⟨gq, 0, none⟩) [rungS, rungR] Ak ck 3 (forKey sum) W rfl (by decide) (.inr rfl) rq rung2_ok (okk4.below hg) (by omega) (by decide)
       rw [hfl] at q
       refine q.mono ?_
       rintro r W9 ⟨cs2, v2, rfl, own2, len2, say2, ok2, off2, b2⟩
       obtain ⟨gr, A2, c2, rfl, hA2, r2, -⟩ := row_own own2 (by have := own2.1; have := b2.size; have := hg.size; omega)
       obtain rfl : A2 = some ⟨gr, 0, none⟩ := hA2.resolve_left (by decide)
       have hnw : U.heap.size ≤ gr := Nat.le_trans hg.size (own2.lt gr rfl).1
       exact ⟨_, rfl, b2, fun w' hs => ⟨cs2, gr, c2, OwnT.sub ⟨rfl, r2, len2, say2, ok2, fun c hc g h1 h2 => off2 c hc g (.inl ⟨Nat.lt_of_lt_of_le h1 hg.size, h2⟩), hnw⟩ hs⟩⟩)
     case s5 => exact st_move rfl (.inr rfl) (src_dep (j := 4) (e := ⟨4, .data⟩) (by simp) rfl rfl rfl)
     case fin =>
      intro a W h1 h2 h3 h4 h5
      obtain ⟨cs2, gr, c2, own2⟩ := (h4 5 (by show 5 < 6; omega)).now
      have k10 : a.tmps.getD 10 undef = .slice (some ⟨gr, 0, none⟩) 2 c2 := own2.val
      have hz : a.tmps.size = 93 := h2
      have hdf : a.defers = [] := h1
      have b0 := h3 0 (fun i _ => by show (if i = 5 then 10 else 67 + i) ≠ 0; split <;> omega)
      have b1 := h3 1 (fun i _ => by show (if i = 5 then 10 else 67 + i) ≠ 1; split <;> omega)
      have b2 := h3 2 (fun i _ => by show (if i = 5 then 10 else 67 + i) ≠ 2; split <;> omega)
      have b3 := h3 3 (fun i _ => by show (if i = 5 then 10 else 67 + i) ≠ 3; split <;> omega)
      have b4 := h3 4 (fun i _ => by show (if i = 5 then 10 else 67 + i) ≠ 4; split <;> omega)
      have b5 := h3 5 (fun i _ => by show (if i = 5 then 10 else 67 + i) ≠ 5; split <;> omega)
      have b6 := h3 6 (fun i _ => by show (if i = 5 then 10 else 67 + i) ≠ 6; split <;> omega)
      have b7 := h3 7 (fun i _ => by show (if i = 5 then 10 else 67 + i) ≠ 7; split <;> omega)
      have b0 : a.tmps.getD 0 undef = .agg (caseCells KA kn kc ds at_ oth).toArray := b0
      have b1 : a.tmps.getD 1 undef = .pointer (some ⟨w.heap.size, 0, none⟩) := b1
      have b2 : a.tmps.getD 2 undef = .pointer (some ⟨w.heap.size + 1, 0, none⟩) := b2
      have b3 : a.tmps.getD 3 undef = .pointer (some ⟨g3, 0, none⟩) := b3
      have b4 : a.tmps.getD 4 undef = .pointer (some ⟨g4, 0, none⟩) := b4
      have b5 : a.tmps.getD 5 undef = .pointer (some ⟨g5, 0, none⟩) := b5
      have b6 : a.tmps.getD 6 undef = .pointer (some ⟨g6, 0, none⟩) := b6
      have b7 : a.tmps.getD 7 undef = .slice Bs 256 cs := b7
      rw [act_eq hz hdf]
      simp only [show List.range 93 = [0, 1, 2, 3, 4, 5, 6, 7, 8, 9, 10, 11, 12, 13, 14, 15, 16, 17, 18, 19, 20, 21, 22, 23, 24, 25, 26, 27, 28, 29, 30, 31, 32, 33, 34, 35, 36, 37, 38, 39, 40, 41, 42, 43, 44, 45, 46, 47, 48, 49, 50, 51, 52, 53, 54, 55, 56, 57, 58, 59, 60, 61, 62, 63, 64, 65, 66, 67, 68, 69, 70, 71, 72, 73, 74, 75, 76, 77, 78, 79, 80, 81, 82, 83, 84, 85, 86, 87, 88, 89, 90, 91, 92] from rfl, List.map_cons, List.map_nil, b0, b1, b2, b3, b4, b5, b6, b7, k10]
      have mid5 := mid4.next h5
      have own5 := row_keep own4 fun k hk => h5.block k (own4.lt k hk).2
      have zo := fun k hk => own4.lt k hk
      have ok5 : ∀ c ∈ cs1, Crt.ok W c := fun c hc => (ok4 c hc).below h5
      have oks5 := oks4.below h5
      have offg : ∀ c ∈ cs2, ∀ g, g < U.heap.size → Off Ak (forKey sum) g → CrtOff c g := own2.off
      have ok52 := own2.ok
      have say2 := own2.say
      have len2 := own2.len
      have R2 := own2.row
      have ngr := own2.new
      have k5 : W.cell? ⟨g3, 2, none⟩ = some (.slice A1 (rungsO (oth % 3)).length c1) := by simpa using mid5.sgd.cell (i := 2) rfl
      have z5 : W.frozen? ⟨g3, 2, none⟩ = false := by simpa using mid5.sgd.frozen (i := 2) rfl
      have hzW := h5.size
      have rl : (rungsO (oth % 3)).length ≤ 3 := by rw [rungsO_len]; omega
      have RL := Lib.hid (rungsO_len (oth % 3))
      clear b0 b1 b2 b3 b4 b5 b6 b7 h1 h2 h3 h4 hz hdf k10 own2 own4 ok4 oks4 okk4 K4 mid4 hd0
      go_upto_region 18 with (at_builtin; (refine wpList_append_V rfl (.tmp 73) (.tmp 74) _ rfl wr.heap.size 30 (.agg Crt.none.cells.toArray) 24 224 Tryz.underlying31 info_cert rfl (by decide) (.slice A1 (rungsO (oth % 3)).length c1) (rungsO (oth % 3)).length (crtCells cs1) rfl own5 ⟨gr, 0, none⟩ 2 c2 (crtCells cs2) rfl (by rw [crtCells_length, len2]) (fun j u hj => by rw [addr_add]; simpa using R2.cell hj) (crtCells_one cs2) (by simp only [maxLen]; omega) (by omega) (by omega) ?_; intro v6 W6 own6 gg6 bb6; obtain ⟨gA, cA, rfl, ncA, mcA, RA, ngA⟩ := row_own2 own6 (by omega); have mid6 := mid5.grown gg6 (fun k e => by have := zo k e; omega) (fun s hs k e => offSS s hs k (by have := zo k e; omega)); have k6 : W6.cell? ⟨g3, 2, none⟩ = some (.slice A1 (rungsO (oth % 3)).length c1) := by { simpa using mid6.sgd.cell (i := 2) rfl }; have z6 : W6.frozen? ⟨g3, 2, none⟩ = false := by { simpa using mid6.sgd.frozen (i := 2) rfl }))
      have ok6 : ∀ c ∈ cs1 ++ cs2, Crt.ok W6 c := fun c hc => by
       rcases List.mem_append.1 hc with hc | hc
       ·exact (ok5 c hc).grown gg6 (fun k e => offv1 c hc k e)
       ·exact (ok52 c hc).grown gg6 (fun k e => offg c hc k (zo k e).2 (xkn k (by have := zo k e; omega)))
      have oks6 := oks5.grown gg6 (fun k e => xsn k (by have := zo k e; omega))
      have Rg6 : Row W6 gr 0 (crtCells cs2) := R2.keep gg6.size (gg6.block gr R2.1 (fun e => by have := zo gr e.symm; omega))
      obtain ⟨p, q, rfl⟩ := two_of_len len2
      have hgg := mid6.geo
      have xall : ∀ g, g < U.heap.size → Off Ak (forKey sum) g → CrtOff p g := offg p (by simp)
      have lo : ∀ g, g = w.heap.size + 1 ∨ g = g3 ∨ g = g4 ∨ g = g5 → g < V.heap.size ∧ g < U.heap.size := fun g hg => by omega
      have pok := ok6 p (by simp)
      have midS := ((mid6.add (s := p.issuer) pok.issuer (fun g hg => xall g (lo g hg).2 (xk g (lo g hg).1) _ (by simp [Crt.slices]))).add (s := p.serial) pok.serial (fun g hg => xall g (lo g hg).2 (xk g (lo g hg).1) _ (by simp [Crt.slices]))).add (s := ⟨Bs, cs, forSig sum⟩) oks6 (fun g hg => xs g (lo g hg).1)
      have tail6 : Tail w (caseCells KA kn kc ds at_ oth) g3 g4 g5 _ _ _ sum gA gr (cs1 ++ [p, q]) [p, q] W6 := ⟨midS, ok6, fun c hc g hg => by
       rcases List.mem_append.1 hc with hc | hc
       ·exact offp c hc g (by omega)
       ·exact offg c hc g (by omega) (xk g (by omega)), by rw [crtCells_append]; exact RA, Rg6, by omega, by omega⟩
      have tail7 := tail6.set3 (i := 2) rfl (.slice (some ⟨gA, 0, none⟩) ((rungsO (oth % 3)).length + 2) cA)
      have hsay : Hid ((cs1 ++ [p, q]).map Crt.say = ladderB (rungsO (oth % 3)) [1] 3 ++ ladderB [rungS, rungR] (forKey sum) 3) := by
       show _ = _
       rw [List.map_append, say1, say2]
      have hln : Hid ((cs1 ++ [p, q]).length = (rungsO (oth % 3)).length + 2) := by
       show _ = _
       rw [List.length_append, len1]
       rfl
      have hl1 := Lib.hid len1
      clear tail6 midS mid6 ok6 oks6 Rg6 RA own6 gg6 bb6 mid5 own5 ok5 oks5 offg ok52 say1 say2 len1 len2 R2 k5 z5 pok xall offp offv1 xkn xsn offSS zo k6 z6
      generalize W6.setCell ⟨g3, 2, none⟩ (.slice (some ⟨gA, 0, none⟩) ((rungsO (oth % 3)).length + 2) cA) = W7 at *
      obtain ⟨ka, za⟩ := tail7.k4 (i := 0) rfl
      have kI : W7.cell? ⟨gr, 2, none⟩ = some (.slice p.issuer.A p.issuer.xs.length p.issuer.c) := tail7.kr (i := 2) rfl
      go_upto_region 19 with fail
      have tail8 := tail7.set4 (i := 0) rfl (.slice p.issuer.A p.issuer.xs.length p.issuer.c)
      clear tail7 ka za kI
      generalize W7.setCell ⟨g4, 0, none⟩ (.slice p.issuer.A p.issuer.xs.length p.issuer.c) = W8 at *
      obtain ⟨ka, za⟩ := tail8.k4 (i := 1) rfl
      have kI : W8.cell? ⟨gr, 4, none⟩ = some (.slice p.serial.A p.serial.xs.length p.serial.c) := tail8.kr (i := 4) rfl
      go_upto_region 20 with fail
      have tail9 := tail8.set4 (i := 1) rfl (.slice p.serial.A p.serial.xs.length p.serial.c)
      clear tail8 ka za kI
      generalize W8.setCell ⟨g4, 1, none⟩ (.slice p.serial.A p.serial.xs.length p.serial.c) = W9 at *
      obtain ⟨ka, za⟩ := tail9.k4 (i := 5) rfl
      go_upto_region 21 with fail
      have tail10 := tail9.set4 (i := 5) rfl (.slice Bs 256 cs)
      clear tail9 ka za
      generalize W9.setCell ⟨g4, 5, none⟩ (.slice Bs 256 cs) = W10 at *
      have hfs : (forSig sum).length = 256 := forSig_len _
      obtain ⟨S, hS⟩ : ∃ S : Sgn, S = ⟨p.issuer, p.serial, aa, kk, dd, ⟨Bs, cs, forSig sum⟩⟩ := ⟨_, rfl⟩
      have kS : W10.rangeAt g4 0 S.cells := by
       rw [hS]
       unfold Sgn.cells
       rw [show (⟨Bs, cs, forSig sum⟩ : Sl).val = .slice Bs 256 cs from by unfold Sl.val; rw [hfs]]
       exact tail10.mid.sgn.range
      have HSS := Lib.hid hS
      have fA : Below W10.heap.size W10 (W10.alloc (.cells S.cells.toArray 67)) := (Below.refl _ _).alloc (Nat.le_refl _) _
      have RS : Row (W10.alloc (.cells S.cells.toArray 67)) W10.heap.size 0 S.cells := Row.of_cut (Cut.of_heap (heap_alloc_new _ _) fun i v hv => by simpa using hv)
      have tailA := tail10.next fA
      have zg3 : g3 < W10.heap.size := tail10.mid.sgd.lt
      have zg2 : w.heap.size + 1 < W10.heap.size := tail10.mid.res.lt
      obtain ⟨kb3, zb3⟩ := tailA.k3 (i := 3) rfl
      clear hS hfs fA RS
      go_upto_region 22 with (first
       | (refine wpList_load_mid rfl 67 (.tmp 4) rfl g4 0 rfl S.cells _ kS Tryz.underlying67 rfl sz_sgr ?_)
       | (refine wpList_build_sgr rfl (.tmp 89) rfl S rfl ?_))
      have tailC := tail10.set3 (i := 3) rfl (.slice (some ⟨W10.heap.size, 0, none⟩) 1 1)
      have tailB := tailC.next ((Below.refl _ (W10.setCell ⟨g3, 3, none⟩ (.slice (some ⟨W10.heap.size, 0, none⟩) 1 1))).alloc (Nat.le_refl _) (.cells S.cells.toArray 67))
      have RS : Row ((W10.setCell ⟨g3, 3, none⟩ (.slice (some ⟨W10.heap.size, 0, none⟩) 1 1)).alloc (.cells S.cells.toArray 67)) W10.heap.size 0 S.cells := by
       have q : Row ((W10.setCell ⟨g3, 3, none⟩ (.slice (some ⟨W10.heap.size, 0, none⟩) 1 1)).alloc (.cells S.cells.toArray 67)) (W10.setCell ⟨g3, 3, none⟩ (.slice (some ⟨W10.heap.size, 0, none⟩) 1 1)).heap.size 0 S.cells := Row.of_cut (Cut.of_heap (heap_alloc_new _ _) fun i v hv => by simpa using hv)
       simpa using q
      clear tailC tail10
      clear tailA kS kb3 zb3
      generalize hgz : W10.heap.size = gz at *
      generalize (W10.setCell ⟨g3, 3, none⟩ (.slice (some ⟨gz, 0, none⟩) 1 1)).alloc (.cells S.cells.toArray 67) = WB at *
      go_wp2_with (first
       | (refine wpList_load_mid rfl 48 (.tmp 3) rfl g3 0 rfl [sk.val, sc.val, .slice (some ⟨gA, 0, none⟩) ((rungsO (oth % 3)).length + 2) cA, .slice (some ⟨gz, 0, none⟩) 1 1] _ tailB.mid.sgd.range Tryz.underlying48 rfl sz_sgd ?_)
       | (refine wpList_store_cut rfl 48 (.tmp 2) (.tmp 92) rfl (w.heap.size + 1) 0 [sk.val, sc.val, .slice (some ⟨gA, 0, none⟩) ((rungsO (oth % 3)).length + 2) cA, .slice (some ⟨gz, 0, none⟩) 1 1] _ rfl rfl tailB.mid.res rfl sz_sgd (fun v hv => by simp at hv; rcases hv with rfl | rfl | rfl | rfl <;> rfl) ?_; intro Wf hst))
      refine bodyPost_ret (results_row rfl _ _ (w.heap.size + 1) 0 [sk.val, sc.val, .slice (some ⟨gA, 0, none⟩) ((rungsO (oth % 3)).length + 2) cA, .slice (some ⟨gz, 0, none⟩) 1 1] _ rfl hst.2.2.1.range Tryz.underlying48 rfl sz_sgd) rfl ?_
      have hgA := tailB.gA
      have og : ∀ s ∈ [(⟨Bs, cs, forSig sum⟩ : Sl), p.serial, p.issuer, sk, sc, aa, kk, dd], s.ok Wf := fun s hs => (tailB.mid.oks s hs).grown hst.1 (fun k e => tailB.mid.offs s hs k (.inl (Option.some.inj e).symm))
      refine ⟨sk, sc, gA, cA, gz, cs1 ++ [p, q], S, sum, ?_, og _ (by simp), og _ (by simp), HK.out.1, HK.out.2, by rw [hln.out]; exact ncA, mcA, tailB.row.keep hst.1.size (hst.1.block _ tailB.row.1 (fun e => by have := Option.some.inj e; omega)), fun c hc => (tailB.ok c hc).grown hst.1 (fun k e => Option.some.inj e ▸ tailB.co c hc _ (.inl rfl)), hsay.out, by rw [hln.out, RL.out], RS.keep hst.1.size (hst.1.block _ RS.1 (fun e => by have := Option.some.inj e; omega)), ?_, ⟨p, ?_, by rw [HSS.out], by rw [HSS.out]⟩, by rw [HSS.out]; exact HS.out.1, by rw [HSS.out]; exact HS.out.2.1, by rw [HSS.out]; exact HS.out.2.2.1, by rw [HSS.out], HS.out.2.2.2, hsl.out, hsm, below_only tailB.mid.below hst.1 tailB.mid.below.size (by omega)⟩
      ·rw [hln.out]
      ·rw [HSS.out]
       exact ⟨og _ (by simp), og _ (by simp), og _ (by simp), og _ (by simp), og _ (by simp), og _ (by simp)⟩
      ·rw [List.getElem?_append_right (by rw [hl1.out, RL.out]; exact Nat.le_refl _), hl1.out, RL.out, Nat.sub_self]
       rfl
end Go.Proofs.YtchaahnhpeoomaaGreat
namespace Go.Proofs.YtchaahnhpeoomaaGreat
set_option linter.unusedVariables false
set_option linter.unusedSimpArgs false
set_option maxRecDepth 20000
open Go.RowKit
set_option maxRecDepth 100000 in
set_option maxHeartbeats 1600000 in
theorem putOid_nil (w : World) : Calls Tryz.prog 69 #[.slice none 0 0] w (fun e w' => e = .returned (.slice none 0 0) ∧ Below w.heap.size w w') := by
 go_enter Tryz.func69, Tryz.ntmps69
 go_wp2_with fail
 go_ret
 exact ⟨rfl, Below.refl _ _⟩
set_option maxRecDepth 100000 in
set_option maxHeartbeats 1600000 in
theorem kind_nil (w : World) : Calls Tryz.prog 36 #[.slice none 0 0] w (Gives .u8 [42, 3] w) := by
 go_enter Tryz.func36, Tryz.ntmps36
 go_wp2_with fail
 refine (putOid_nil w).mono ?_
 rintro r w1 ⟨rfl, e1⟩
 have e2 : Below w.heap.size w (w1.alloc (.cells #[.int .u8 42, .int .u8 3] 5)) := e1.alloc e1.size _
 have b2 : Blk .u8 (w1.alloc (.cells #[.int .u8 42, .int .u8 3] 5)) w1.heap.size [42, 3] := blk_lit (k := .u8) (t := 5) w1 [42, 3] _ rfl
 go_wp2_with fail
 go_ret
 exact ⟨_, _, rfl, by decide, by decide, Own.of_blk b2 e1.size, e2⟩
end Go.Proofs.YtchaahnhpeoomaaGreat
namespace Go.Proofs.YtchaahnhpeoomaaGreat
set_option linter.unusedVariables false
set_option linter.unusedSimpArgs false
set_option maxRecDepth 20000
open Go.RowKit
end Go.Proofs.YtchaahnhpeoomaaGreat
namespace Go.Proofs.YtchaahnhpeoomaaGreat
set_option linter.unusedVariables false
set_option linter.unusedSimpArgs false
set_option maxRecDepth 20000
open Go.RowKit
end Go.Proofs.YtchaahnhpeoomaaGreat
namespace Go.Proofs.YtchaahnhpeoomaaGreat
set_option linter.unusedVariables false
set_option linter.unusedSimpArgs false
set_option maxRecDepth 20000
open Go.RowKit
end Go.Proofs.YtchaahnhpeoomaaGreat
namespace Go.Proofs.YtchaahnhpeoomaaGreat
set_option linter.unusedVariables false
set_option linter.unusedSimpArgs false
set_option maxRecDepth 20000
open Go.RowKit
end Go.Proofs.YtchaahnhpeoomaaGreat
