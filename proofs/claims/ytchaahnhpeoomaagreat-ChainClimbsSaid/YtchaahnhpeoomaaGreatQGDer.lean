/-
  DerP: Elements of DER as lists of bytes: how one is written, joined and read; numbers and object identifiers.
-/
import Derived.Test.YtchaahnhpeoomaaGreatQGBas
import Derived.Maps.AppendAt
import Derived.Deep.DeepCutAuto
import Derived.Deep.CutRange
import Derived.Test.YtchaahnhpeoomaaGreatQGRsa
import Derived.Test.YtchaahnhpeoomaaGreatQGShA
import Derived.Laws.IdiomStrings
import Derived.Lib.SlBytesConst
import Derived.Test.YtchaahnhpeoomaaGreatQGShB
import Derived.Test.YtchaahnhpeoomaaGreatQGShC
import Derived.Deep.RegionHeld3
import Derived.Orders
import Derived.Lib.UnsafeStr
import Derived.BigQuiet
namespace Go.Proofs.YtchaahnhpeoomaaGreat
set_option linter.unusedVariables false
set_option linter.unusedSimpArgs false
set_option maxRecDepth 20000
def le256 (n : Nat) : List Nat := if h : n = 0 then [] else (n % 256) :: le256 (n / 256)
termination_by n
decreasing_by exact Nat.div_lt_self (by omega) (by omega)
theorem le256_zero : le256 0 = [] := by rw [le256]; simp
theorem le256_pos {n : Nat} (h : n ≠ 0) : le256 n = (n % 256) :: le256 (n / 256) := by rw [le256]; simp [h]
theorem le256_lim (n : Nat) : Lim 256 (le256 n) := by
 induction n using Nat.strongRecOn with
 | _ n ih =>
  by_cases h : n = 0
  ·subst h
   rw [le256_zero]
   exact Lim.nil _
  ·rw [le256_pos h]
   intro x hx
   rcases List.mem_cons.1 hx with rfl | hx
   ·omega
   ·exact ih (n / 256) (Nat.div_lt_self (by omega) (by omega)) x hx
theorem le256_len {n k : Nat} (h : n < 256 ^ k) : (le256 n).length ≤ k := by
 induction k generalizing n with
 | zero =>
  have : n = 0 := by simpa using h
  subst this
  rw [le256_zero]
  exact Nat.le_refl _
 | succ k ih =>
  by_cases h0 : n = 0
  ·subst h0
   rw [le256_zero]
   exact Nat.zero_le _
  ·rw [le256_pos h0, List.length_cons]
   have := ih (n := n / 256) (by rw [Nat.div_lt_iff_lt_mul (by omega)]; rwa [Nat.pow_succ] at h)
   omega
theorem le256_len4 {n : Nat} (h : n < 4294967296) : (le256 n).length ≤ 4 := le256_len (k := 4) (by simpa using h)
theorem le256_len_pos {n : Nat} (h : n ≠ 0) : 0 < (le256 n).length := by rw [le256_pos h]; simp
def derLen (n : Nat) : List Nat := if n < 128 then [n] else (128 + (le256 n).length) :: (le256 n).reverse
def wr (tag : Nat) (b : List Nat) : List Nat := tag :: (derLen b.length ++ b)
theorem derLen_lim {n : Nat} (h : n < 4294967296) : Lim 256 (derLen n) := by
 unfold derLen
 split
 ·intro x hx
  simp at hx
  omega
 ·intro x hx
  rcases List.mem_cons.1 hx with rfl | hx
  ·have := le256_len4 h
   omega
  ·exact le256_lim n x (by simpa using hx)
theorem derLen_len {n : Nat} (h : n < 4294967296) : (derLen n).length ≤ 5 := by
 unfold derLen
 split
 ·simp
 ·have := le256_len4 h
  simp
  omega
theorem wr_lim {tag : Nat} {b : List Nat} (ht : tag < 256) (hb : Lim 256 b) (hl : b.length < 4294967296) : Lim 256 (wr tag b) := by
 intro x hx
 rcases List.mem_cons.1 hx with rfl | hx
 ·exact ht
 ·exact (derLen_lim hl).append hb x hx
theorem wr_len {tag : Nat} {b : List Nat} (hl : b.length < 4294967296) : (wr tag b).length ≤ b.length + 6 := by
 have := derLen_len hl
 simp [wr]
 omega
def seqB (l : List (List Nat)) : List Nat := wr 48 l.flatten
def putInt (b : List Nat) : List Nat :=
 match b.dropWhile (· == 0) with
 | [] => [0]
 | x :: r => if x < 128 then x :: r else 0 :: x :: r
end Go.Proofs.YtchaahnhpeoomaaGreat
namespace Go.Proofs.YtchaahnhpeoomaaGreat
set_option linter.unusedVariables false
set_option linter.unusedSimpArgs false
set_option maxRecDepth 20000
open Go.RowKit
structure Sl where
 A : Option Addr
 c : Nat
 xs : List Nat
def Sl.val (s : Sl) : Value := .slice s.A s.xs.length s.c
structure Sl.ok (w : World) (s : Sl) : Prop where
 rd : Rd .u8 w s.A s.xs
 lim : Lim 256 s.xs
 cap : s.xs.length ≤ s.c
 max : s.c ≤ 9223372036854775807
theorem Sl.ok.below {w w' : World} {s : Sl} (h : s.ok w) (hb : Below w.heap.size w w') : s.ok w' := ⟨h.rd.below hb, h.lim, h.cap, h.max⟩
theorem Sl.ok.len {w : World} {s : Sl} (h : s.ok w) : s.xs.length ≤ 9223372036854775807 := Nat.le_trans h.cap h.max
def Sl.nil : Sl := ⟨none, 0, []⟩
theorem Sl.ok_nil (w : World) : Sl.nil.ok w := ⟨Rd.nil _ _ _, Lim.nil _, Nat.le_refl _, by decide⟩
structure Tm where
 y : Nat
 mo : Nat
 d : Nat
 h : Nat
 mi : Nat
 s : Nat
deriving DecidableEq
def Tm.cells (t : Tm) : List Value := [.int .u16 (t.y : Int), .int .u8 (t.mo : Int), .int .u8 (t.d : Int), .int .u8 (t.h : Int), .int .u8 (t.mi : Int), .int .u8 (t.s : Int)]
structure Tm.ok (t : Tm) : Prop where
 y : t.y < 65536
 mo : t.mo < 256
 d : t.d < 256
 h : t.h < 256
 mi : t.mi < 256
 s : t.s < 256
structure Crt where
 raw : Sl
 tbs : Sl
 issuer : Sl
 subject : Sl
 serial : Sl
 frm : Tm
 til : Tm
 key : Sl
 e : Nat
 sig : Sl
 ca : Bool
 path : Int
 usage : Int
 code : Bool
def Crt.cells (c : Crt) : List Value :=
 [c.raw.val, c.tbs.val, c.issuer.val, c.subject.val, c.serial.val] ++ c.frm.cells ++ c.til.cells ++
  [c.key.val, .int .u64 (c.e : Int), c.sig.val, .bool c.ca, .int .i64 c.path, .int .i64 c.usage, .bool c.code]
theorem Crt.cells_length (c : Crt) : c.cells.length = 24 := by simp [Crt.cells, Tm.cells]
def Crt.val (c : Crt) : Value := .agg c.cells.toArray
structure Crt.ok (w : World) (c : Crt) : Prop where
 raw : c.raw.ok w
 tbs : c.tbs.ok w
 issuer : c.issuer.ok w
 subject : c.subject.ok w
 serial : c.serial.ok w
 key : c.key.ok w
 sig : c.sig.ok w
 frm : c.frm.ok
 til : c.til.ok
 e : c.e < 18446744073709551616
theorem Crt.ok.below {w w' : World} {c : Crt} (h : c.ok w) (hb : Below w.heap.size w w') : c.ok w' :=
 ⟨h.raw.below hb, h.tbs.below hb, h.issuer.below hb, h.subject.below hb, h.serial.below hb, h.key.below hb, h.sig.below hb, h.frm, h.til, h.e⟩
structure Say where
 raw : List Nat
 tbs : List Nat
 issuer : List Nat
 subject : List Nat
 serial : List Nat
 frm : Tm
 til : Tm
 key : List Nat
 e : Nat
 sig : List Nat
 ca : Bool
 path : Int
 usage : Int
 code : Bool
deriving DecidableEq
def Crt.say (c : Crt) : Say := ⟨c.raw.xs, c.tbs.xs, c.issuer.xs, c.subject.xs, c.serial.xs, c.frm, c.til, c.key.xs, c.e, c.sig.xs, c.ca, c.path, c.usage, c.code⟩
def Tm.none : Tm := ⟨0, 0, 0, 0, 0, 0⟩
def Crt.none : Crt := ⟨Sl.nil, Sl.nil, Sl.nil, Sl.nil, Sl.nil, Tm.none, Tm.none, Sl.nil, 0, Sl.nil, false, 0, 0, false⟩
def Row (w : World) (g o : Nat) (vs : List Value) : Prop := g < w.heap.size ∧ w.rangeAt g o vs
theorem Row.below {w w' : World} {g o : Nat} {vs : List Value} (h : Row w g o vs) (hb : Below w.heap.size w w') : Row w' g o vs :=
 ⟨Nat.lt_of_lt_of_le h.1 hb.size, fun i v hv => (hb.cell (p := ⟨g, o + i, none⟩) h.1).trans (h.2 i v hv)⟩
theorem Row.of_cut {w : World} {g o : Nat} {vs : List Value} (h : Cut w g o vs) : Row w g o vs := ⟨h.1, h.range⟩
theorem Row.cell {w : World} {g o i : Nat} {v : Value} {vs : List Value} (h : Row w g o vs) (hv : vs[i]? = some v) : w.cell? ⟨g, o + i, none⟩ = some v := h.2 i v hv
theorem Row.part {w : World} {g o n i : Nat} {l : List (List Value)} {vs : List Value} (h : Row w g o l.flatten) (hn : ∀ x ∈ l, x.length = n) (hi : l[i]? = some vs) : Row w g (o + i * n) vs := by
 refine ⟨h.1, fun j v hv => ?_⟩
 have e : l.flatten[i * n + j]? = some v := by
  clear h
  induction l generalizing i with
  | nil => simp at hi
  | cons x r ih =>
   rw [List.flatten_cons]
   have hx := hn x (by simp)
   cases i with
   | zero =>
    simp at hi
    subst hi
    rw [Nat.zero_mul, Nat.zero_add, List.getElem?_append_left (List.getElem?_eq_some_iff.1 hv).1]
    exact hv
   | succ i =>
    rw [List.getElem?_append_right (by rw [hx, Nat.succ_mul]; omega), hx, show (i + 1) * n + j - n = i * n + j by rw [Nat.succ_mul]; omega]
    exact ih (fun y hy => hn y (by simp [hy])) (by simpa using hi)
 have := h.2 (i * n + j) v e
 rwa [← Nat.add_assoc] at this
end Go.Proofs.YtchaahnhpeoomaaGreat
namespace Go.Proofs.YtchaahnhpeoomaaGreat
set_option linter.unusedVariables false
set_option linter.unusedSimpArgs false
set_option maxRecDepth 20000
open Go.RowKit
section
variable {P : Program} {w : World}
theorem run_append_blockW (B : Nat) (t ty e : TypeId) (k : IntKind) (bytes : Nat) (ht : P.underlying t = some (.slice e)) (hinfo : (P.info? e).map (fun i => (i.zero, i.size, i.bytes)) = some (some (.int k 0), 1, bytes))
  (v : Value) (n : Nat) (xs : List Nat) (hown : w.ownsRow B e 1 v n (ints k xs)) (A : Option Addr) (m c : Nat) (ys : List Nat) (hm : m = ys.length) (hr : Rd k w A ys)
  (h63 : n + m ≤ maxLen) (hbytes : (n + m) * bytes ≤ 140737488355328) (hbase : B ≤ w.heap.size) {v' : Value} {w' : World} (hrun : (Builtin.append_ #[t, t] ty #[v, .slice A m c]).run P w = .ok v' w') :
  v'.ownBlock = v.ownBlock ∨ v'.ownBlock = some w.heap.size := by
 obtain ⟨i, hi, hzz⟩ := Option.map_eq_some_iff.1 hinfo
 simp only [Prod.mk.injEq] at hzz
 obtain ⟨hz, hs, hb⟩ := hzz
 rcases A with _ | ad
 ·have h0 : ys = [] := by
   rcases hr with h | ⟨b, off, h, _⟩
   ·exact h
   ·cases h
  subst h0
  subst hm
  rcases hown.2 with ⟨rfl, rfl⟩ | ⟨g, cap, cur, rfl, _, _, hnc, _⟩
  ·simp [Builtin.append_, run_underlying ht, sizeOf, typeInfo, hi, Builtin.lenOf, Builtin.firstCells] at hrun
   exact .inl (by rw [hrun.1])
  ·simp [Builtin.append_, run_underlying ht, sizeOf, typeInfo, hi, Builtin.lenOf, Builtin.firstCells, hnc, storeCells] at hrun
   exact .inl (by rw [← hrun.1])
 ·rcases Nat.eq_zero_or_pos ys.length with h0 | hp
  ·obtain rfl : ys = [] := List.eq_nil_of_length_eq_zero h0
   subst hm
   obtain ⟨v2, w2, hrun2, _, _, _, h5⟩ := run_append_own_at (P := P) w B t ty e i _ 1 bytes ht hi hz hs hb rfl (by omega) v n _ hown ad 0 c [] (by simp) (by simp) (by simp) h63 hbytes hbase
   have h6 := hrun.symm.trans hrun2
   injection h6 with h7
   rw [h7]
   exact h5
  ·obtain ⟨ad', he, hcells⟩ := rd_cells hr hp
   injection he with he
   subst he
   obtain ⟨v2, w2, hrun2, _, _, _, h5⟩ := run_append_own_at (P := P) w B t ty e i _ 1 bytes ht hi hz hs hb rfl (by omega) v n _ hown ad m c (ints k ys) (by rw [ints_length]; omega) hcells (ints_one k ys) h63 hbytes hbase
   have h6 := hrun.symm.trans hrun2
   injection h6 with h7
   rw [h7]
   exact h5
theorem wpList_append_W (w : World) {ops : Array Oper} {rest : List Oper} {o : Oper} {a : Act} {Q : Exit → Act → World → Prop} (hgd : o.guard = none) (s x : Operand) (t : TypeId)
  (ho : o.op = .call { callee := .builtin .append, args := #[s, x], argTypes := #[t, t] })
  (B : Nat) (e : TypeId) (k : IntKind) (bytes : Nat) (ht : P.underlying t = some (.slice e)) (hinfo : (P.info? e).map (fun i => (i.zero, i.size, i.bytes)) = some (some (.int k 0), 1, bytes))
  (v : Value) (n : Nat) (xs : List Nat) (hs : a.eval s = v) (hown : w.ownsRow B e 1 v n (ints k xs)) (A : Option Addr) (m c : Nat) (ys : List Nat) (hx : a.eval x = .slice A m c) (hm : m = ys.length) (hr : Rd k w A ys)
  (h63 : n + m ≤ maxLen) (hbytes : (n + m) * bytes ≤ 140737488355328) (hbase : B ≤ w.heap.size)
  (h : ∀ A' c' w', w'.ownsRow B e 1 (.slice A' (n + m) c') (n + m) (ints k (xs ++ ys)) → w.grownBy w' v.ownBlock → ((Value.slice A' (n + m) c').ownBlock = v.ownBlock ∨ (Value.slice A' (n + m) c').ownBlock = some w.heap.size) → wpList P ops Q rest (a.put o.dst (.slice A' (n + m) c')) w') : wpList P ops Q (o :: rest) a w := by
 refine wpList_plain hgd fun K hK => ?_
 obtain ⟨v', w', hrun, h2, h3, h4⟩ := run_append_ints (P := P) w B t o.type e k bytes ht hinfo v n xs hown A m c ys hm hr h63 hbytes hbase
 have h5 := run_append_blockW B t o.type e k bytes ht hinfo v n xs hown A m c ys hm hr h63 hbytes hbase hrun
 obtain ⟨A', c', rfl, -⟩ := Own.of_row h2
 unfold Oper.wp execOp
 simp only [ho, resolve, invoke, builtin, Sem.run_bind, Sem.run_pure, Result.andThen_ok, List.map_toArray, List.map_cons, List.map_nil, hs, hx, hrun]
 exact hK _ _ (h _ _ _ h2 h3 h5)
end
theorem row_keep {w w' : World} {B : Nat} {e : TypeId} {s : Nat} {v : Value} {n : Nat} {xs : List Value} (h : w.ownsRow B e s v n xs) (hk : ∀ j, v.ownBlock = some j → w'.heap[j]? = w.heap[j]?) : w'.ownsRow B e s v n xs := by
 refine ⟨h.1, ?_⟩
 rcases h.2 with hn | ⟨g, cap, cur, rfl, hb, hgg, rest⟩
 ·exact .inl hn
 ·exact .inr ⟨g, cap, cur, rfl, hb, (hk g rfl).trans hgg, rest⟩
theorem row_below {w w' : World} {B : Nat} {e : TypeId} {s : Nat} {v : Value} {n : Nat} {xs : List Value} (h : w.ownsRow B e s v n xs) (hb : Below w.heap.size w w') : w'.ownsRow B e s v n xs :=
 row_keep h fun k hk => hb.block k (h.lt k hk).2
theorem grow_step {w W w2 : World} {B : Nat} {e : TypeId} {v : Value} {n : Nat} {xs : List Value} (hb : Below B w W) (hB : B ≤ W.heap.size) (ho : W.ownsRow B e 1 v n xs) (hg : W.grownBy w2 v.ownBlock) : Below B w w2 :=
 hb.grown hg hB fun k hk => (ho.lt k hk).1
theorem lit_own {k : IntKind} {t : TypeId} (w : World) (xs : List Nat) (cur : Array Value) (h : cur = (ints k xs).toArray) {B : Nat} (hB : B ≤ w.heap.size) (hm : xs.length ≤ maxLen) :
  (w.alloc (.cells cur t)).ownsRow B t 1 (.slice (some ⟨w.heap.size, 0, none⟩) xs.length xs.length) xs.length (ints k xs) := by
 subst h
 exact ⟨by simp [ints], .inr ⟨w.heap.size, xs.length, _, rfl, hB, heap_alloc_new w _, Nat.le_refl _, hm, by simp [ints], by rw [List.take_of_length_le (by simp [ints])]⟩⟩
theorem gives_of_row {k : IntKind} {w w' : World} {e : TypeId} {A : Option Addr} {n c : Nat} {xs zs : List Nat} (ho : w'.ownsRow w.heap.size e 1 (.slice A n c) n (ints k zs)) (hz : zs = xs) (hb : Below w.heap.size w w') : Gives k xs w (.returned (.slice A n c)) w' := by
 subst hz
 obtain ⟨A', c', he, rfl, k1, k2, k3⟩ := Own.of_row ho
 cases he
 exact ⟨A, c, rfl, k1, k2, k3, hb⟩
theorem off_own {w : World} {B n c : Nat} {e : TypeId} {A : Option Addr} {xs : List Nat} {vs : List Value} {g : Nat} (h : w.ownsRow B e 1 (.slice A n c) n vs) (hg : g < B) : Off A xs g :=
 Or.inr fun ad he hb => by
  subst he
  have := (h.lt ad.block rfl).1
  omega
end Go.Proofs.YtchaahnhpeoomaaGreat
namespace Go.Proofs.YtchaahnhpeoomaaGreat
set_option linter.unusedVariables false
set_option linter.unusedSimpArgs false
set_option maxRecDepth 20000
open Go.RowKit
theorem wr_small {tag : Nat} {xs : List Nat} (h : xs.length < 128) : wr tag xs = [tag] ++ [xs.length] ++ xs := by
 simp [wr, derLen, h]
theorem wr_big {tag : Nat} {xs : List Nat} (h : ¬ xs.length < 128) : wr tag xs = [tag] ++ [128 + (le256 xs.length).length] ++ (le256 xs.length).reverse ++ xs := by
 simp [wr, derLen, h]
theorem rev_step {d : List Nat} {i : Nat} {x : Nat} (h : d[i]? = some x) : d.reverse.take (d.length - 1 - i) ++ [x] = d.reverse.take (d.length - i) := by
 have hi : i < d.length := (List.getElem?_eq_some_iff.1 h).1
 rw [show d.length - i = d.length - 1 - i + 1 by omega, List.take_add_one, List.getElem?_reverse (by omega), show d.length - 1 - (d.length - 1 - i) = i by omega, h]
 rfl
set_option maxRecDepth 100000 in
set_option maxHeartbeats 1600000 in
theorem refWrite_any (tag : Nat) (A : Option Addr) (n c : Nat) (xs : List Nat) (w : World) (ht : tag < 256) (hn : n = xs.length) (hl : n ≤ 100000000) (hx : Rd .u8 w A xs) :
  Calls Tryz.prog 40 #[.int .u8 (tag : Int), .slice A n c] w (Gives .u8 (wr tag xs) w) := by
 subst hn
 have o0 : (w.alloc (.cells #[.int .u8 (tag : Int)] 5)).ownsRow w.heap.size 5 1 (.slice (some ⟨w.heap.size, 0, none⟩) 1 1) 1 (ints .u8 [tag]) := lit_own w [tag] _ rfl (Nat.le_refl _) (by simp [maxLen])
 have b0 : Below w.heap.size w (w.alloc (.cells #[.int .u8 (tag : Int)] 5)) := (Below.refl _ _).alloc (Nat.le_refl _) _
 by_cases h : xs.length < 128
 ·have hw := Lib.hid (wr_small (tag := tag) h)
  have hm : (xs.length : Int) % 256 = (xs.length : Int) := by omega
  have hb : decide ((xs.length : Int) < 128) = true := by simp; omega
  go_enter Tryz.func40, Tryz.ntmps40
  go_upto_region 4 with fail
  generalize hW0 : w.alloc (.cells #[.int .u8 (tag : Int)] 5) = W0 at *
  have b1 := b0.alloc b0.size (.cells #[.int .u8 (xs.length : Int)] 5)
  go_wp2_with (at_builtin; first
   | (refine wpList_append_W _ rfl (.tmp 16) (.tmp 19) _ rfl w.heap.size 5 .u8 1 Tryz.underlying22 info_u8 (.slice (some ⟨w.heap.size, 0, none⟩) 1 1) 1 [tag] rfl (row_below o0 ((Below.refl _ _).alloc (Nat.le_refl _) _)) _ 1 1 [xs.length] rfl rfl (Rd.of_all (blk_lit W0 [xs.length] _ (by simp [ints]))) (by simp only [maxLen]; omega) (by omega) b1.size ?_; intro A2 c2 w2 o2 g2 _; have b2 := grow_step b1 b1.size (row_below o0 ((Below.refl _ _).alloc (Nat.le_refl _) _)) g2)
   | (refine wpList_append_W _ rfl (.tmp 21) (.tmp 22) _ rfl w.heap.size 5 .u8 1 Tryz.underlying22 info_u8 (.slice A2 2 c2) 2 ([tag] ++ [xs.length]) rfl o2 _ xs.length _ xs rfl rfl (hx.below b2) (by simp only [maxLen]; omega) (by omega) b2.size ?_; intro A3 c3 w3 o3 g3 _; have b3 := grow_step b2 b2.size o2 g3))
  go_ret
  rw [hw.out]
  exact gives_of_row o3 rfl b3
 ·have hw := Lib.hid (wr_big (tag := tag) h)
  have hb : decide ((xs.length : Int) < 128) = false := by simp; omega
  go_enter Tryz.func40, Tryz.ntmps40
  go_wp2_with fail
  generalize hW0 : w.alloc (.cells #[.int .u8 (tag : Int)] 5) = W0 at *
  have hs0 : w.heap.size < W0.heap.size := by rw [← hW0]; simp
  go_loopw [7, 8] (fun s t wr => ∃ (d : List Nat) (x : Nat) (A : Option Addr) (c : Nat), s = .slice A d.length c ∧ t = .int .i64 (x : Int) ∧ x ≤ xs.length ∧ Hid (d ++ le256 x = le256 xs.length) ∧ d.length ≤ 4 ∧ wr.ownsRow W0.heap.size 5 1 (.slice A d.length c) d.length (ints .u8 d) ∧ Below W0.heap.size W0 wr) (fun _ t _ => (intOf t).toNat)
  case atStart => exact ⟨[], xs.length, none, 0, rfl, rfl, Nat.le_refl _, rfl, by simp, World.ownsRow_nil _ _ _ _, Below.refl _ _⟩
  case round =>
   obtain ⟨d, x, A2, c2, rfl, rfl, hxl, hd, hdl, hown, hbel⟩ := hrel
   by_cases h0 : 0 < x
   ·have hd2 : (d ++ [x % 256]) ++ le256 (x / 256) = le256 xs.length := by
     have := hd.out
     rw [le256_pos (by omega)] at this
     simpa using this
    have hd2l : (d ++ [x % 256]).length ≤ 4 := by
     have h1 := le256_len4 (n := xs.length) (by omega)
     rw [← hd2] at h1
     simp at h1 ⊢
     omega
    have HD := Lib.hid hd2
    have hdl3 : d.length ≤ 3 := by simpa using hd2l
    clear hd2 hd2l
    have hv := Lib.hid (show (#[Value.int .u8 ((x % 256 : Nat) : Int)] : Array Value) = (ints .u8 [x % 256]).toArray from rfl)
    go_wp2_with (at_builtin; refine wpList_append_W _ rfl (.tmp 29) (.tmp 33) _ rfl W0.heap.size 5 .u8 1 Tryz.underlying22 info_u8 (.slice A2 d.length c2) d.length d rfl (row_below hown ((Below.refl _ _).alloc (Nat.le_refl _) _)) _ 1 1 [x % 256] rfl rfl (Rd.of_all (blk_lit wr [x % 256] _ (by simp [ints]))) (by simp only [maxLen]; omega) (by omega) (by have := hbel.size; simp; omega) ?_; intro A3 c3 w3 o3 g3 _; have b3 := grow_step (hbel.alloc hbel.size _) (hbel.alloc hbel.size _).size (row_below hown ((Below.refl _ _).alloc (Nat.le_refl _) _)) g3)
    go_roundw
    case rel => exact ⟨d ++ [x % 256], x / 256, A3, c3, by simp, by simp, by omega, HD, by simp; omega, by simpa using o3, b3⟩
    case measure => simp [intOf]; omega
   ·obtain rfl : x = 0 := by omega
    have hde : d = le256 xs.length := by
     have := hd.out
     rw [le256_zero] at this
     simpa using this
    subst hde
    have hl4 := le256_len4 (n := xs.length) (by omega)
    have hml : ((128 : Int) + ((le256 xs.length).length : Int)) % 256 = (128 : Int) + ((le256 xs.length).length : Int) := by omega
    have oL := hown
    have o1 := row_below o0 hbel
    have b1 := b0.trans (hbel.mono b0.size)
    have b2 := b1.alloc b1.size (.cells #[.int .u8 ((128 : Int) + ((le256 xs.length).length : Int))] 5)
    obtain ⟨_, _, he, -, -, -, rl0⟩ := Own.of_row hown
    have rl := rl0.rd
    cases he
    go_wp2_with (at_builtin; first
     | (refine wpList_append_W _ rfl (.tmp 35) (.tmp 40) _ rfl w.heap.size 5 .u8 1 Tryz.underlying22 info_u8 (.slice (some ⟨w.heap.size, 0, none⟩) 1 1) 1 [tag] rfl (row_below o1 ((Below.refl _ _).alloc (Nat.le_refl _) _)) _ 1 1 [128 + (le256 xs.length).length] rfl rfl (Rd.of_all (blk_lit wr [128 + (le256 xs.length).length] _ (by simp [ints]))) (by simp only [maxLen]; omega) (by omega) b2.size ?_; intro A3 c3 w3 o3 g3 q3; have b3 := grow_step b2 b2.size (row_below o1 ((Below.refl _ _).alloc (Nat.le_refl _) _)) g3))
    have f3 : ∀ g, (Value.slice A3 2 c3).ownBlock = some g → Off A2 (le256 xs.length) g := by
     intro g hg
     rcases q3 with h | h
     ·rw [h] at hg
      cases hg
      exact off_own oL hs0
     ·rw [h] at hg
      cases hg
      exact Off.new rl (by simp)
    have rl3 : Rd .u8 w3 A2 (le256 xs.length) := (rl.alloc _).grown g3 (fun g hg => by cases hg; exact off_own oL hs0)
    clear rl q3 g3 oL hown o1 b2 b1 hbel hd
    go_loopw [6, 9] (fun s t wr => ∃ (i : Nat) (z : Int) (A : Option Addr) (n c : Nat) (zs : List Nat), s = .slice A n c ∧ t = .int .i64 z ∧ z + 1 = (i : Int) ∧ i ≤ (le256 xs.length).length ∧ n ≤ 6 - i ∧ wr.ownsRow w.heap.size 5 1 (.slice A n c) n (ints .u8 zs) ∧ Hid (zs = [tag] ++ [128 + (le256 xs.length).length] ++ (le256 xs.length).reverse.take ((le256 xs.length).length - i)) ∧ Rd .u8 wr A2 (le256 xs.length) ∧ (∀ g, (Value.slice A n c).ownBlock = some g → Off A2 (le256 xs.length) g) ∧ Below w.heap.size w wr) (fun _ t _ => (1 + intOf t).toNat)
    case atStart => exact ⟨(le256 xs.length).length, _, A3, 2, c3, _, rfl, rfl, by omega, Nat.le_refl _, by omega, o3, by simp [Hid], rl3, f3, b3⟩
    case round =>
     obtain ⟨i, z, A4, n, c4, zs, rfl, rfl, hz, hi, hn6, o4, hzs, rl4, f4, b4⟩ := hrel
     rcases i with _ | j
     ·obtain rfl : z = -1 := by omega
      go_wp2_with (at_builtin; (refine wpList_append_W _ rfl (.tmp 56) (.tmp 57) _ rfl w.heap.size 5 .u8 1 Tryz.underlying22 info_u8 (.slice A4 n c4) n zs rfl o4 _ xs.length _ xs rfl rfl (hx.below b4) (by simp only [maxLen]; omega) (by omega) b4.size ?_; intro A5 c5 w5 o5 g5 _; have b5 := grow_step b4 b4.size o4 g5))
      go_ret
      rw [hw.out]
      refine gives_of_row o5 ?_ b5
      rw [hzs.out, Nat.sub_zero, List.take_of_length_le (by simp)]
     ·obtain rfl : z = (j : Int) := by omega
      obtain ⟨x, hx1⟩ := get_of_lt (xs := le256 xs.length) (i := j) (by omega)
      obtain ⟨bb, oo, rfl, hbb, hcl⟩ := rl4.pos hx1
      have cx := hcl _ _ hx1
      have hstep := Lib.hid (rev_step hx1)
      have hxb := le256_lim _ x (List.mem_of_getElem? hx1)
      clear hcl hx1
      go_wp2_with (at_builtin; (refine wpList_append_W _ rfl (.tmp 49) (.tmp 54) _ rfl w.heap.size 5 .u8 1 Tryz.underlying22 info_u8 (.slice A4 n c4) n zs rfl (row_below o4 ((Below.refl _ _).alloc (Nat.le_refl _) _)) _ 1 1 [x] rfl rfl (Rd.of_all (blk_lit wr [x] _ (by simp [ints]))) (by simp only [maxLen]; omega) (by omega) (b4.alloc b4.size _).size ?_; intro A5 c5 w5 o5 g5 q5; have b5 := grow_step (b4.alloc b4.size _) (b4.alloc b4.size _).size (row_below o4 ((Below.refl _ _).alloc (Nat.le_refl _) _)) g5))
      go_roundw
      case rel =>
       refine ⟨j, (j : Int) - 1, A5, n + 1, c5, zs ++ [x], rfl, rfl, by omega, by omega, by omega, o5, ?_, (rl4.alloc _).grown g5 f4, ?_, b5⟩
       ·show _ = _
        rw [hzs.out, List.append_assoc, ← hstep.out]
        simp [Nat.sub_sub, Nat.add_comm]
       ·intro g hg
        rcases q5 with h | h
        ·rw [h] at hg
         exact f4 g hg
        ·rw [h] at hg
         cases hg
         exact Off.new rl4 (by simp)
      case measure => simp [intOf]; omega
end Go.Proofs.YtchaahnhpeoomaaGreat
namespace Go.Proofs.YtchaahnhpeoomaaGreat
set_option linter.unusedVariables false
set_option linter.unusedSimpArgs false
set_option maxRecDepth 20000
open Go.RowKit
structure Sls (w : World) (A : Option Addr) (l : List Sl) : Prop where
 at_ : l = [] ∨ ∃ g o, A = some ⟨g, o, none⟩ ∧ g < w.heap.size ∧ ∀ (i : Nat) (s : Sl), l[i]? = some s → w.cell? ⟨g, o + i, none⟩ = some s.val
 rd : ∀ s ∈ l, Rd .u8 w s.A s.xs
theorem Sls.below {w w' : World} {A : Option Addr} {l : List Sl} (h : Sls w A l) (hb : Below w.heap.size w w') : Sls w' A l := by
 refine ⟨?_, fun s hs => (h.rd s hs).below hb⟩
 rcases h.at_ with h0 | ⟨g, o, rfl, hg, hc⟩
 ·exact .inl h0
 ·exact .inr ⟨g, o, rfl, Nat.lt_of_lt_of_le hg hb.size, fun i s hi => (hb.cell (p := ⟨g, o + i, none⟩) hg).trans (hc i s hi)⟩
theorem Sls.pos {w : World} {A : Option Addr} {l : List Sl} {i : Nat} {s : Sl} (h : Sls w A l) (hi : l[i]? = some s) : ∃ g o, A = some ⟨g, o, none⟩ ∧ g < w.heap.size ∧ ∀ (i : Nat) (s : Sl), l[i]? = some s → w.cell? ⟨g, o + i, none⟩ = some s.val := by
 rcases h.at_ with h0 | h0
 ·subst h0
  simp at hi
 ·exact h0
theorem sls_lit {w : World} {t : TypeId} {l : List Sl} (cur : Array Value) (h : cur = (l.map Sl.val).toArray) (hr : ∀ s ∈ l, Rd .u8 w s.A s.xs) : Sls (w.alloc (.cells cur t)) (some ⟨w.heap.size, 0, none⟩) l := by
 subst h
 refine ⟨.inr ⟨w.heap.size, 0, rfl, by simp, fun i s hi => ?_⟩, fun s hs => (hr s hs).alloc _⟩
 simp [hi]
def joinS (l : List Sl) : List Nat := l.flatMap Sl.xs
theorem flat_step {l : List Sl} {i : Nat} {s : Sl} (h : l[i]? = some s) : joinS (l.take (i + 1)) = joinS (l.take i) ++ s.xs := by
 unfold joinS
 rw [List.take_add_one, h]
 simp
theorem flat_le {l : List Sl} {i : Nat} {s : Sl} (h : l[i]? = some s) : (joinS (l.take i)).length + s.xs.length ≤ (joinS l).length := by
 have h1 := flat_step h
 have h2 : joinS (l.take (i + 1)) ++ joinS (l.drop (i + 1)) = joinS l := by unfold joinS; rw [← List.flatMap_append, List.take_append_drop]
 rw [← h2, h1]
 simp
theorem get_of_ltS {α : Type} {l : List α} {i : Nat} (h : i < l.length) : ∃ x, l[i]? = some x := ⟨l[i], List.getElem?_eq_getElem h⟩
set_option maxRecDepth 100000 in
set_option maxHeartbeats 800000 in
theorem refJoin_any (A : Option Addr) (c : Nat) (l : List Sl) (w : World) (hl : l.length ≤ 100000000) (hs : (joinS l).length ≤ 100000000) (hx : Sls w A l) :
  Calls Tryz.prog 125 #[.slice A l.length c] w (Gives .u8 (joinS l) w) := by
 go_enter Tryz.func125, Tryz.ntmps125
 go_wp2_with fail
 go_loopw [3, 4] (fun s t wr => ∃ (i n : Nat) (A2 : Option Addr) (c2 : Nat), s = .slice A2 n c2 ∧ t = .int .i64 (i : Int) ∧ i ≤ l.length ∧ Hid (n = (joinS (l.take i)).length) ∧ wr.ownsRow w.heap.size 5 1 (.slice A2 n c2) n (ints .u8 (joinS (l.take i))) ∧ Below w.heap.size w wr) (fun _ t _ => l.length - (intOf t).toNat)
 case atStart => exact ⟨0, 0, none, 0, rfl, rfl, Nat.zero_le _, rfl, World.ownsRow_nil _ _ _ _, Below.refl _ _⟩
 case round =>
  obtain ⟨i, n, A2, c2, rfl, rfl, hi, hn, hown, hbel⟩ := hrel
  by_cases hlt : i < l.length
  ·obtain ⟨s, hg⟩ := get_of_ltS hlt
   obtain ⟨g, o, rfl, hgl, hc⟩ := (hx.below hbel).pos hg
   have hcell := hc i s hg
   have hrd := (hx.rd s (List.mem_of_getElem? hg)).below hbel
   have hle := flat_le hg
   rw [← hn.out] at hle
   have hst := Lib.hid (flat_step hg)
   have hn2 : Hid (n + s.xs.length = (joinS (l.take (i + 1))).length) := by
    show _ = _
    rw [hst.out, List.length_append, ← hn.out]
   have hle2 : n + s.xs.length ≤ 100000000 := Nat.le_trans hle hs
   unfold Sl.val at hcell
   clear hc hg hle hs
   go_wp2_with (at_builtin; (refine wpList_append_W _ rfl (.tmp 11) (.tmp 15) _ rfl w.heap.size 5 .u8 1 Tryz.underlying22 info_u8 (.slice A2 n c2) n _ rfl hown s.A s.xs.length s.c s.xs rfl rfl hrd (by simp only [maxLen]; omega) (by omega) hbel.size ?_; intro A3 c3 w3 o3 g3 _; have b3 := grow_step hbel hbel.size hown g3))
   go_roundw
   case rel => exact ⟨i + 1, n + s.xs.length, A3, c3, rfl, by go_num, by omega, hn2, by rw [hst.out]; exact o3, b3⟩
   case measure => simp [intOf]; omega
  ·go_wp2_with fail
   go_ret
   exact gives_of_row hown (by rw [List.take_of_length_le (by omega)]) hbel
theorem flat_val (l : List Sl) : joinS l = (l.map Sl.xs).flatten := by rw [joinS, List.flatMap_def]
set_option maxRecDepth 100000 in
theorem refSeq_any (A : Option Addr) (n c : Nat) (l : List Sl) (w : World) (hn : n = l.length) (hl : n ≤ 100000000) (hs : (joinS l).length ≤ 100000000) (hx : Sls w A l) :
  Calls Tryz.prog 95 #[.slice A n c] w (Gives .u8 (seqB (l.map Sl.xs)) w) := by
 subst hn
 go_enter Tryz.func95, Tryz.ntmps95
 go_wp2_with fail
 refine (refJoin_any A c l w hl hs hx).mono ?_
 rintro r w1 ⟨A1, c1, rfl, h1, h2, h3, h4⟩
 go_wp2_with fail
 have hq := refWrite_any 48 A1 (joinS l).length c1 (joinS l) w1 (by omega) rfl hs h3.rd
 rw [show ((48 : Nat) : Int) = (48 : Int) from rfl] at hq
 refine hq.mono ?_
 rintro r w2 ⟨A2, c2, rfl, k1, k2, k3, k4⟩
 go_wp2_with fail
 go_ret
 have e : wr 48 (joinS l) = seqB (l.map Sl.xs) := by rw [seqB, flat_val]
 rw [← e]
 exact ⟨A2, c2, rfl, k1, k2, k3.mono h4.size, h4.trans (k4.mono h4.size)⟩
end Go.Proofs.YtchaahnhpeoomaaGreat
namespace Go.Proofs.YtchaahnhpeoomaaGreat
set_option linter.unusedVariables false
set_option linter.unusedSimpArgs false
set_option maxRecDepth 20000
open Go.RowKit
def verB12 : List Nat := [160, 3, 2, 1, 2]
def signAlgB : List Nat := [48, 13, 6, 9, 42, 134, 72, 134, 247, 13, 1, 1, 11, 5, 0]
def keyAlgB : List Nat := [48, 13, 6, 9, 42, 134, 72, 134, 247, 13, 1, 1, 1, 5, 0]
def yesB : List Nat := [1, 1, 255]
def basicB : List Nat := [85, 29, 19]
def usageNB : List Nat := [85, 29, 15]
def purposesB : List Nat := [85, 29, 37]
def forHostB : List Nat := [43, 6, 1, 5, 5, 7, 3, 1]
def two2 (x : Nat) : List Nat := [48 + x / 10 % 10, 48 + x % 10]
def genB (t : Tm) : List Nat := wr 24 ([t.y / 100, t.y % 100, t.mo, t.d, t.h, t.mi, t.s].flatMap two2 ++ [90])
def extB (name body : List Nat) : List Nat := seqB [wr 6 name, wr 4 body]
def useN (u : Nat) : Nat → Nat
 | 0 => 0
 | n + 1 => if 1 < n + 1 ∧ u / 2 ^ n % 2 = 0 then useN u n else n + 1
def useB (u : Nat) (n : Nat) : Nat → List Nat
 | 0 => ((8 - n % 8) % 8) :: List.replicate ((n + 7) / 8) 0
 | i + 1 => (useB u n i).set (1 + i / 8) ((useB u n i).getD (1 + i / 8) 0 + u / 2 ^ i % 2 * 2 ^ (7 - i % 8))
def usageB (u : Nat) : List Nat := wr 3 (useB u (useN u 9) (useN u 9))
def extsB (c : Say) : List (List Nat) :=
 (if c.ca then [extB basicB (seqB (yesB :: (if 0 ≤ c.path then [wr 2 (putInt [c.path.toNat % 256])] else [])))] else []) ++
 (if 0 ≤ c.usage then [extB usageNB (usageB c.usage.toNat)] else []) ++
 (if c.code then [] else [extB purposesB (seqB [wr 6 forHostB])])
def expB (e : Nat) : List Nat := putInt [e / 4294967296 % 256, e / 16777216 % 256, e / 65536 % 256, e / 256 % 256, e % 256]
def keyB (n : List Nat) (e : Nat) : List Nat := seqB [wr 2 (putInt n), wr 2 (expB e)]
def tbsB (c : Say) : List Nat :=
 seqB [verB12, wr 2 c.serial, signAlgB, c.issuer, seqB [genB c.frm, genB c.til], c.subject, seqB [keyAlgB, wr 3 (0 :: keyB c.key c.e)],
  if extsB c = [] then [] else wr 163 (seqB (extsB c))]
def certB (tbs sig : List Nat) : List Nat := seqB [tbs, signAlgB, wr 3 (0 :: sig)]
def nameB (s : List Nat) : List Nat := seqB [wr 49 (seqB [wr 6 [85, 4, 3], wr 12 s])]
structure Rung where
 name : List Nat
 serial : Nat
 ca : Bool
 code : Bool
 path : Int
 usage : Int
def t2020 : Tm := ⟨2020, 1, 1, 0, 0, 0⟩
def t2060 : Tm := ⟨2060, 1, 1, 0, 0, 0⟩
def rungSay (r above : Rung) (key : List Nat) (e : Nat) : Say :=
 ⟨[], [], nameB above.name, nameB r.name, [1, r.serial], t2020, t2060, key, e, [], r.ca, r.path, r.usage, r.code⟩
def rungDone (s : Say) (signed : Bool) : Say :=
 let t := tbsB s
 let sig := if signed then forSig (digest t) else []
 { s with tbs := t, sig := sig, raw := certB t sig }
def ladderB : List Rung → List Nat → Nat → List Say
 | [], _, _ => []
 | [r], key, e => [rungDone (rungSay r r key e) false]
 | r :: a :: l, key, e => rungDone (rungSay r a key e) true :: ladderB (a :: l) (forKey (digest (tbsB (rungSay r a key e)))) 3
end Go.Proofs.YtchaahnhpeoomaaGreat
namespace Go.Proofs.YtchaahnhpeoomaaGreat
set_option linter.unusedVariables false
set_option linter.unusedSimpArgs false
set_option maxRecDepth 20000
open Go.RowKit
theorem bstr_data (xs : List Nat) : (bstr xs).data = (xs.map fun x => UInt8.ofNat x).toArray := by
 have h := bstr_list xs
 rw [ByteArray.toList_eq] at h
 rw [← h]
theorem bstr_size (xs : List Nat) : (bstr xs).size = xs.length := by
 rw [← ByteArray.size_data, bstr_data]
 simp
theorem bytesRow_get {xs : List Nat} (lx : Lim 256 xs) (cap : Nat) {i x : Nat} (h : xs[i]? = some x) : (bytesRow (bstr xs) cap)[i]? = some (.int .u8 (x : Int)) := by
 have hx := lx.get h
 have hi : i < xs.length := (List.getElem?_eq_some_iff.1 h).1
 unfold bytesRow
 rw [bstr_data, Array.getElem?_append_left (by simpa using hi)]
 simp [h]
 omega
theorem blk_of_string {w : World} {e : TypeId} {xs : List Nat} (lx : Lim 256 xs) (cap : Nat) (fr : Nat × Nat) (hf : xs.length ≤ fr.1) (o : Obj) (ho : o = .cells (bytesRow (bstr xs) cap) e fr) : Rd .u8 (w.alloc o) (some ⟨w.heap.size, 0, none⟩) xs := by
 subst ho
 refine Or.inr ⟨w.heap.size, 0, rfl, by simp, fun i x hx => ?_⟩
 rw [cell_of_row _ _ _ _ _ _ (heap_alloc_new w _), Nat.zero_add]
 exact bytesRow_get lx cap hx
section
variable {P : Program} {w : World}
theorem wpList_string_bytes {ops : Array Oper} {rest : List Oper} {o : Oper} {a : Act} {Q : Exit → Act → World → Prop} (hgd : o.guard = none) (src dst e : TypeId) (x : Operand) (ho : o.op = .convert src dst x)
  (hs : P.underlying src = some .string) (hd : P.underlying dst = some (.slice e)) (he : P.underlying e = some (.int .u8)) (xs : List Nat) (lx : Lim 256 xs) (hx : a.eval x = .string (bstr xs))
  (h : ∀ g c w', Hid (w.heap.size ≤ g) → Rd .u8 w' (some ⟨g, 0, none⟩) xs → Below w.heap.size w w' → wpList P ops Q rest (a.put o.dst (.slice (some ⟨g, 0, none⟩) xs.length c)) w') : wpList P ops Q (o :: rest) a w := by
 refine wpList_plain hgd fun K hK => ?_
 have hr := run_bytes_of_string (P := P) w src dst e (bstr xs) hs hd he
 unfold Oper.wp execOp
 simp only [ho, hx, hr, Sem.run_bind, Sem.run_pure, Result.andThen_ok]
 refine hK _ _ ?_
 rw [bstr_size]
 refine h w.heap.size _ _ (Nat.le_refl _) ?_ ?_
 ·exact blk_of_string (w := w.drew) lx _ _ (by simp [bytesRow, bstr_data]) _ rfl
 ·exact (below_drewN (Below.refl _ _) 1).alloc (Nat.le_refl _) _
end
theorem rd_mark9 {k : IntKind} {t : TypeId} {fr : Nat × Nat} (w : World) (xs : List Nat) (cur : Array Value) (h : cur = (ints k xs).toArray) : Rd k (w.alloc (.cells cur t fr)) (some ⟨w.heap.size, 0, none⟩) xs := by
 subst h
 refine Or.inr ⟨w.heap.size, 0, rfl, by simp, fun i x hx => ?_⟩
 rw [cell_of_row _ _ _ _ _ _ (heap_alloc_new w _), Nat.zero_add]
 simpa using ints_get hx
theorem seqB_len {l : List (List Nat)} {n : Nat} (h : l.flatten.length ≤ n) (hn : n ≤ 100000000) : (seqB l).length ≤ n + 6 := by
 have := wr_len (tag := 48) (b := l.flatten) (by omega)
 unfold seqB
 omega
theorem all1 {p : Sl → Prop} {a : Sl} (h1 : p a) : ∀ s ∈ [a], p s := by
 intro s hs
 simp at hs
 exact hs ▸ h1
theorem all2 {p : Sl → Prop} {a b : Sl} (h1 : p a) (h2 : p b) : ∀ s ∈ [a, b], p s := by
 intro s hs
 simp at hs
 rcases hs with rfl | rfl
 ·exact h1
 ·exact h2
theorem all3 {p : Sl → Prop} {a b c : Sl} (h1 : p a) (h2 : p b) (h3 : p c) : ∀ s ∈ [a, b, c], p s := by
 intro s hs
 simp at hs
 rcases hs with rfl | rfl | rfl
 ·exact h1
 ·exact h2
 ·exact h3
set_option maxRecDepth 100000 in
set_option maxHeartbeats 1600000 in
theorem refName_any (xs : List Nat) (w : World) (lx : Lim 256 xs) (hl : xs.length ≤ 1000) :
  Calls Tryz.prog 97 #[.string (bstr xs)] w (Gives .u8 (nameB xs) w) := by
 have r0 : Rd .u8 (w.alloc (.cells #[.int .u8 85, .int .u8 4, .int .u8 3] 5)) (some ⟨w.heap.size, 0, none⟩) [85, 4, 3] := Rd.of_all (blk_lit w [85, 4, 3] _ rfl)
 have b0 : Below w.heap.size w (w.alloc (.cells #[.int .u8 85, .int .u8 4, .int .u8 3] 5)) := (Below.refl _ _).alloc (Nat.le_refl _) _
 go_enter Tryz.func97, Tryz.ntmps97
 go_wp2_with fail
 generalize w.alloc (.cells #[.int .u8 85, .int .u8 4, .int .u8 3] 5) = w0 at *
 have hq := refWrite_any 6 (some ⟨w.heap.size, 0, none⟩) 3 3 [85, 4, 3] w0 (by omega) rfl (by omega) r0
 refine hq.mono ?_
 clear hq
 rintro r w1 ⟨A1, c1, rfl, -, -, o1, k1⟩
 have l1 : (wr 6 [85, 4, 3]).length ≤ 9 := wr_len (by simp)
 have o1 := o1.rd
 have b1 := b0.trans (k1.mono b0.size)
 go_wp2_with (refine wpList_string_bytes rfl 9 22 5 (.tmp 8) rfl Tryz.underlying9 Tryz.underlying22 Tryz.underlying5 xs lx rfl ?_; intro g2 c2 w2 _ r2 k2)
 have o1 := o1.below k2
 have b2 := b1.trans (k2.mono b1.size)
 have hq := refWrite_any 12 (some ⟨g2, 0, none⟩) xs.length c2 xs w2 (by omega) rfl (by omega) r2
 refine hq.mono ?_
 clear hq
 rintro r w3 ⟨A3, c3, rfl, -, -, o3, k3⟩
 have l3 : (wr 12 xs).length ≤ 1006 := Nat.le_trans (wr_len (by omega)) (by omega)
 have o1 := o1.below k3
 have o3 := o3.rd
 have b3 := b2.trans (k3.mono b2.size)
 go_wp2_with fail
 have hq := refSeq_any (some ⟨w3.heap.size, 0, none⟩) 2 2 [⟨A1, c1, wr 6 [85, 4, 3]⟩, ⟨A3, c3, wr 12 xs⟩] (w3.alloc (.cells #[.slice A1 (wr 6 [85, 4, 3]).length c1, .slice A3 (wr 12 xs).length c3] 22)) rfl (by omega) (by simp [joinS]; omega) (sls_lit _ rfl (all2 o1 o3))
 have e2 : seqB ([⟨A1, c1, wr 6 [85, 4, 3]⟩, ⟨A3, c3, wr 12 xs⟩].map Sl.xs) = seqB [wr 6 [85, 4, 3], wr 12 xs] := rfl
 rw [e2] at hq
 refine hq.mono ?_
 clear hq e2
 rintro r w4 ⟨A4, c4, rfl, -, -, o4, k4⟩
 have l4 : (seqB [wr 6 [85, 4, 3], wr 12 xs]).length ≤ 1100 := Nat.le_trans (seqB_len (n := 1020) (by simp; omega) (by omega)) (by omega)
 have o4 := o4.rd
 have b4 := (b3.alloc b3.size (.cells #[.slice A1 (wr 6 [85, 4, 3]).length c1, .slice A3 (wr 12 xs).length c3] 22))
 have b4 := b4.trans (k4.mono b4.size)
 go_wp2_with fail
 have hq := refWrite_any 49 A4 (seqB [wr 6 [85, 4, 3], wr 12 xs]).length c4 (seqB [wr 6 [85, 4, 3], wr 12 xs]) w4 (by omega) rfl (by omega) o4
 refine hq.mono ?_
 clear hq
 rintro r w5 ⟨A5, c5, rfl, -, -, o5, k5⟩
 have l5 : (wr 49 (seqB [wr 6 [85, 4, 3], wr 12 xs])).length ≤ 1110 := Nat.le_trans (wr_len (by omega)) (by omega)
 have o5 := o5.rd
 have b5 := b4.trans (k5.mono b4.size)
 go_wp2_with fail
 have hq := refSeq_any (some ⟨w5.heap.size, 0, none⟩) 1 1 [⟨A5, c5, wr 49 (seqB [wr 6 [85, 4, 3], wr 12 xs])⟩] (w5.alloc (.cells #[.slice A5 (wr 49 (seqB [wr 6 [85, 4, 3], wr 12 xs])).length c5] 22)) rfl (by omega) (by simp [joinS]; omega) (sls_lit _ rfl (all1 o5))
 refine hq.mono ?_
 clear hq
 rintro r w6 ⟨A6, c6, rfl, h6a, h6b, o6, k6⟩
 have b6 := (b5.alloc b5.size (.cells #[.slice A5 (wr 49 (seqB [wr 6 [85, 4, 3], wr 12 xs])).length c5] 22))
 go_wp2_with fail
 go_ret
 exact ⟨A6, c6, rfl, h6a, h6b, o6.mono b6.size, b6.trans (k6.mono b6.size)⟩
end Go.Proofs.YtchaahnhpeoomaaGreat
namespace Go.Proofs.YtchaahnhpeoomaaGreat
set_option linter.unusedVariables false
set_option linter.unusedSimpArgs false
set_option maxRecDepth 20000
open Go.RowKit
theorem putInt_zero (ys : List Nat) : putInt (0 :: ys) = putInt ys := by simp [putInt]
theorem putInt_pos {x : Nat} (r : List Nat) (h : x ≠ 0) : putInt (x :: r) = if x < 128 then x :: r else 0 :: x :: r := by
 simp [putInt, List.dropWhile_cons, h]
theorem putInt_len (xs : List Nat) : (putInt xs).length ≤ xs.length + 1 := by
 induction xs with
 | nil => simp [putInt]
 | cons x r ih =>
  by_cases h : x = 0
  ·subst h
   rw [putInt_zero]
   simp
   omega
  ·rw [putInt_pos r h]
   split <;> simp
theorem putInt_lim {xs : List Nat} (h : Lim 256 xs) : Lim 256 (putInt xs) := by
 induction xs with
 | nil => exact lim_small (by decide)
 | cons x r ih =>
  by_cases h0 : x = 0
  ·subst h0
   rw [putInt_zero]
   exact ih fun y hy => h y (by simp [hy])
  ·rw [putInt_pos r h0]
   split
   ·exact h
   ·intro y hy
    rcases List.mem_cons.1 hy with rfl | hy
    ·omega
    ·exact h y hy
set_option maxRecDepth 100000 in
set_option maxHeartbeats 1600000 in
theorem refPutInt_any (A : Option Addr) (n c : Nat) (xs : List Nat) (w : World) (hn : n = xs.length) (hl : n ≤ 1000000) (hc : n ≤ c) (hx : Rd .u8 w A xs) :
  Calls Tryz.prog 127 #[.slice A n c] w (Gives .u8 (putInt xs) w) := by
 subst hn
 go_enter Tryz.func127, Tryz.ntmps127
 go_wp2_with fail
 go_loopw [0] (fun s wr => ∃ (B : Option Addr) (d : Nat) (ys : List Nat), s = .slice B ys.length d ∧ Rd .u8 w B ys ∧ Hid (putInt ys = putInt xs) ∧ ys.length ≤ d ∧ ys.length ≤ 1000000 ∧ wr = w) (fun s _ => match s with | .slice _ n _ => n | _ => 0)
 case atStart => exact ⟨A, c, xs, rfl, hx, rfl, hc, hl, rfl⟩
 case round =>
  obtain ⟨B, d, ys, rfl, hr, hp, hd, hyl, rfl⟩ := hrel
  rcases ys with _ | ⟨x, r⟩
  ·have hp2 := Lib.hid (show [0] ++ ([] : List Nat) = putInt xs from hp.out)
   have hA : 1 + ([] : List Nat).length ≤ maxLen := by simp [maxLen]
   have hB : (1 + ([] : List Nat).length) * 1 ≤ 140737488355328 := by simp
   go_wp2_with (at_builtin; (refine wpList_append_W _ rfl (.tmp 27) (.tmp 28) _ rfl wr.heap.size 5 .u8 1 Tryz.underlying22 info_u8 (.slice (some ⟨wr.heap.size, 0, none⟩) 1 1) 1 [0] rfl (lit_own wr [0] _ rfl (Nat.le_refl _) (by simp [maxLen])) _ ([] : List Nat).length _ ([] : List Nat) rfl rfl (hr.alloc _) hA hB (by simp) ?_; intro A3 c3 w3 o3 g3 _; have b3 := grow_step ((Below.refl wr.heap.size wr).alloc (Nat.le_refl _) _) (by simp) (lit_own wr [0] _ rfl (Nat.le_refl _) (by simp [maxLen])) g3))
   go_ret
   exact gives_of_row o3 hp2.out b3
  ·obtain ⟨b, o, rfl, hb, hcl⟩ := hr.pos (i := 0) rfl
   have c0 := hcl 0 x rfl
   rw [Nat.add_zero] at c0
   by_cases h0 : x = 0
   ·subst h0
    have hp2 := Lib.hid ((putInt_zero r).symm.trans hp.out)
    have hlen : (0 :: r).length = r.length + 1 := rfl
    by_cases h1 : d = 1
    ·have hr0 : r = [] := List.eq_nil_of_length_eq_zero (by simp at hd; omega)
     go_wp2_with fail
     go_roundw
     case rel => exact ⟨some ⟨b, o, none⟩, d - 1, r, by subst h1; subst hr0; rfl, by rw [hr0]; exact Rd.nil _ _ _, hp2, by simp at hd; omega, by simp at hyl; omega, trivial⟩
     case measure => simp
    ·have hr1 : Rd .u8 wr (some ⟨b, o + 1, none⟩) r := by
      refine Or.inr ⟨b, o + 1, rfl, hb, fun i y hy => ?_⟩
      rw [Nat.add_assoc, Nat.add_comm 1 i]
      exact hcl (i + 1) y hy
     go_wp2_with fail
     go_roundw
     case rel => exact ⟨some ⟨b, o + 1, none⟩, d - 1, r, rfl, hr1, hp2, by simp at hd; omega, by simp at hyl; omega, trivial⟩
     case measure => simp
   ·have hp2 := hp.out
    rw [putInt_pos r h0] at hp2
    by_cases h1 : x < 128
    ·rw [if_pos h1] at hp2
     have hp3 := Lib.hid hp2
     clear hp2 hcl
     go_wp2_with fail
     refine (copyBytes_any (some ⟨b, o, none⟩) _ d (x :: r) wr rfl (by simp at hyl ⊢; omega) hr).mono ?_
     rintro e w3 ⟨A3, c3, rfl, o3, b3⟩
     go_wp2_with fail
     go_ret
     exact gives_of_row o3 hp3.out b3
    ·rw [if_neg h1] at hp2
     have hA : 1 + (x :: r).length ≤ maxLen := by simp only [maxLen]; omega
     have hB : (1 + (x :: r).length) * 1 ≤ 140737488355328 := by omega
     have hp3 := Lib.hid (show [0] ++ (x :: r) = putInt xs from hp2)
     clear hp2 hcl
     go_wp2_with (at_builtin; (refine wpList_append_W _ rfl (.tmp 27) (.tmp 28) _ rfl wr.heap.size 5 .u8 1 Tryz.underlying22 info_u8 (.slice (some ⟨wr.heap.size, 0, none⟩) 1 1) 1 [0] rfl (lit_own wr [0] _ rfl (Nat.le_refl _) (by simp [maxLen])) _ (x :: r).length _ (x :: r) rfl rfl (hr.alloc _) hA hB (by simp) ?_; intro A3 c3 w3 o3 g3 _; have b3 := grow_step ((Below.refl wr.heap.size wr).alloc (Nat.le_refl _) _) (by simp) (lit_own wr [0] _ rfl (Nat.le_refl _) (by simp [maxLen])) g3))
     go_ret
     exact gives_of_row o3 hp3.out b3
end Go.Proofs.YtchaahnhpeoomaaGreat
namespace Go.Proofs.YtchaahnhpeoomaaGreat
set_option linter.unusedVariables false
set_option linter.unusedSimpArgs false
set_option maxRecDepth 20000
open Go.RowKit
def tmL (t : Tm) : List Nat := [t.y / 100, t.y % 100, t.mo, t.d, t.h, t.mi, t.s]
theorem tmL_lim {t : Tm} (h : t.ok) : Lim 656 (tmL t) := by
 obtain ⟨h1, h2, h3, h4, h5, h6⟩ := h
 intro x hx
 simp only [tmL, List.mem_cons, List.not_mem_nil, or_false] at hx
 omega
theorem two_step {ds : List Nat} {i x : Nat} (h : ds[i]? = some x) : (ds.take (i + 1)).flatMap two2 = (ds.take i).flatMap two2 ++ two2 x := by
 rw [List.take_add_one, h]
 simp
theorem two_len (ds : List Nat) : (ds.flatMap two2).length = 2 * ds.length := by
 induction ds with
 | nil => rfl
 | cons a r ih =>
  rw [List.flatMap_cons, List.length_append, ih]
  simp [two2]
  omega
set_option maxRecDepth 100000 in
set_option maxHeartbeats 3200000 in
theorem refGeneral_any (t : Tm) (w : World) (ht : t.ok) : Calls Tryz.prog 130 #[.agg t.cells.toArray] w (Gives .u8 (genB t) w) := by
 have hlim := tmL_lim ht
 obtain ⟨h1, h2, h3, h4, h5, h6⟩ := ht
 have hG := Lib.hid (show genB t = wr 24 ((tmL t).flatMap two2 ++ [90]) from rfl)
 have hb := blk_lit (k := .i64) (t := 3) (w.alloc (.cells t.cells.toArray 25)) (tmL t) #[.int .i64 ((t.y : Int) / 100), .int .i64 ((t.y : Int) % 100), .int .i64 (t.mo : Int), .int .i64 (t.d : Int), .int .i64 (t.h : Int), .int .i64 (t.mi : Int), .int .i64 (t.s : Int)] (by simp [ints, tmL])
 have e0 : Below w.heap.size w ((w.alloc (.cells t.cells.toArray 25)).alloc (.cells #[.int .i64 ((t.y : Int) / 100), .int .i64 ((t.y : Int) % 100), .int .i64 (t.mo : Int), .int .i64 (t.d : Int), .int .i64 (t.h : Int), .int .i64 (t.mi : Int), .int .i64 (t.s : Int)] 3)) := ((Below.refl _ _).alloc (Nat.le_refl _) _).alloc (by simp) _
 unfold Tm.cells at *
 go_enter Tryz.func130, Tryz.ntmps130
 rw [World.size_alloc] at hb
 go_wp2_with fail
 generalize (w.alloc (.cells #[.int .u16 (t.y : Int), .int .u8 (t.mo : Int), .int .u8 (t.d : Int), .int .u8 (t.h : Int), .int .u8 (t.mi : Int), .int .u8 (t.s : Int)] 25)).alloc (.cells #[.int .i64 ((t.y : Int) / 100), .int .i64 ((t.y : Int) % 100), .int .i64 (t.mo : Int), .int .i64 (t.d : Int), .int .i64 (t.h : Int), .int .i64 (t.mi : Int), .int .i64 (t.s : Int)] 3) = w2 at *
 generalize hds : tmL t = ds at *
 have hdl : ds.length = 7 := by rw [← hds]; rfl
 have HDL := Lib.hid hdl
 clear hds hdl
 have hgl : w.heap.size + 1 < w2.heap.size := hb.lt
 go_loopw [3, 5] (fun s u wr => ∃ (i n : Nat) (A : Option Addr) (c : Nat), s = .slice A n c ∧ u = .int .i64 (i : Int) ∧ i ≤ 7 ∧ n = 2 * i ∧ wr.ownsRow w2.heap.size 5 1 (.slice A n c) n (ints .u8 ((ds.take i).flatMap two2)) ∧ Below w2.heap.size w2 wr) (fun _ u _ => 7 - (intOf u).toNat)
 case atStart => exact ⟨0, 0, none, 0, rfl, rfl, by omega, rfl, World.ownsRow_nil _ _ _ _, Below.refl _ _⟩
 case round =>
  obtain ⟨i, n, A, c, rfl, rfl, hi, hn, hown, hbel⟩ := hrel
  by_cases hlt : i < 7
  ·obtain ⟨x, hx⟩ := get_of_lt (xs := ds) (i := i) (by rw [HDL.out]; exact hlt)
   have hxl := hlim.get hx
   have hst := Lib.hid (two_step hx)
   have cx := hb.cell hx
   have hSS : ∀ W, Below w2.heap.size w2 W → (Below w2.heap.size w2 W ∧ W.cell? ⟨w.heap.size + 1, i, none⟩ = some (.int .i64 (x : Int))) := fun W h => ⟨h, (h.cell (p := ⟨w.heap.size + 1, i, none⟩) hgl).trans cx⟩
   have hd0 : Below w2.heap.size w2 wr.drew := below_drewN hbel 1
   have hi0 : (0 : Int) ≤ (i : Int) := by omega
   have hi7 : (i : Int) < 7 := by omega
   have HN := Lib.hid hn
   obtain ⟨y1, hy1⟩ : ∃ y, y = x / 10 := ⟨_, rfl⟩
   obtain ⟨y2, hy2⟩ : ∃ y, y = y1 % 10 := ⟨_, rfl⟩
   obtain ⟨y3, hy3⟩ : ∃ y, y = 48 + y2 := ⟨_, rfl⟩
   obtain ⟨z2, hz2⟩ : ∃ y, y = x % 10 := ⟨_, rfl⟩
   obtain ⟨z3, hz3⟩ : ∃ y, y = 48 + z2 := ⟨_, rfl⟩
   have h2x : Hid (two2 x = [y3, z3]) := by
    show _ = _
    rw [hy3, hz3, hy2, hz2, hy1]
    rfl
   have f1 : IntKind.i64.wrap ((x : Int) / 10) = (y1 : Int) := by rw [IntWalk.i64_in _ (by omega)]; omega
   have f2 : ((y1 : Int)).tmod 10 = (y2 : Int) := by rw [Int.tmod_eq_emod_of_nonneg (by omega)]; omega
   have f3 : IntKind.i64.wrap (48 + (y2 : Int)) = (y3 : Int) := by rw [IntWalk.i64_in _ (by omega)]; omega
   have f4 : IntKind.u8.wrap (y3 : Int) = (y3 : Int) := by simp [IntKind.wrap, IntKind.bits, IntKind.signed]; omega
   have g2 : ((x : Int)).tmod 10 = (z2 : Int) := by rw [Int.tmod_eq_emod_of_nonneg (by omega)]; omega
   have g3 : IntKind.i64.wrap (48 + (z2 : Int)) = (z3 : Int) := by rw [IntWalk.i64_in _ (by omega)]; omega
   have g4 : IntKind.u8.wrap (z3 : Int) = (z3 : Int) := by simp [IntKind.wrap, IntKind.bits, IntKind.signed]; omega
   have hnl : n + 2 ≤ maxLen := by simp only [maxLen]; omega
   have hnb : (n + 2) * 1 ≤ 140737488355328 := by omega
   clear hx hn hy1 hy2 hy3 hz2 hz3
   go_wp2_with fail
   refine wp_region_held_drew (S := fun W => Below w2.heap.size w2 W ∧ W.cell? ⟨w.heap.size + 1, i, none⟩ = some (.int .i64 (x : Int))) (by kernel_rfl) (hSS _ hd0) (fun hHeld => ?_)
   refine wpAnyH_take (i := 0) (v := ?hv1) rfl (by kernel_rfl) (by kernel_rfl) (by kernel_rfl) (fun _ _ _ h => h) (Or.inl ⟨by rfl, ?hy1⟩) (by assumption) ?hr1
   case hy1 => ((intro _ hSw; (try dsimp only at hSw); go_simp) <;> with_reducible rfl)
   try simp only [List.getElem_toArray, List.getElem_cons_zero, List.getElem_cons_succ, Act.put, List.setIfInBounds_toArray, List.set_cons_zero, List.set_cons_succ]
   refine wpAnyH_take (i := 1) (v := ?hv2) rfl (by kernel_rfl) (by kernel_rfl) (by kernel_rfl) (fun _ _ _ h => h) (Or.inl ⟨by rfl, ?hy2⟩) (by assumption) ?hr2
   case hy2 => ((intro _ hSw; (try dsimp only at hSw); go_simp) <;> with_reducible rfl)
   try simp only [List.getElem_toArray, List.getElem_cons_zero, List.getElem_cons_succ, Act.put, List.setIfInBounds_toArray, List.set_cons_zero, List.set_cons_succ]
   refine wpAnyH_take (i := 2) (v := ?hv3) rfl (by kernel_rfl) (by kernel_rfl) (by kernel_rfl) (fun _ _ _ h => h) (Or.inl ⟨by rfl, ?hy3⟩) (by assumption) ?hr3
   case hy3 => ((intro _ hSw; (try dsimp only at hSw); go_simp) <;> with_reducible rfl)
   try simp only [List.getElem_toArray, List.getElem_cons_zero, List.getElem_cons_succ, Act.put, List.setIfInBounds_toArray, List.set_cons_zero, List.set_cons_succ]
   refine wpAnyH_take (i := 3) (v := ?hv4) rfl (by kernel_rfl) (by kernel_rfl) (by kernel_rfl) (fun _ _ _ h => h) (Or.inl ⟨by rfl, ?hy4⟩) (by assumption) ?hr4
   case hy4 => ((intro _ hSw; (try dsimp only at hSw); go_simp) <;> with_reducible rfl)
   try simp only [List.getElem_toArray, List.getElem_cons_zero, List.getElem_cons_succ, Act.put, List.setIfInBounds_toArray, List.set_cons_zero, List.set_cons_succ]
   refine wpAnyH_take (i := 4) (v := ?hv5) rfl (by kernel_rfl) (by kernel_rfl) (by kernel_rfl) (fun _ _ _ h => h) (Or.inl ⟨by rfl, ?hy5⟩) (by assumption) ?hr5
   case hy5 => ((intro _ hSw; (try dsimp only at hSw); go_simp) <;> with_reducible rfl)
   try simp only [List.getElem_toArray, List.getElem_cons_zero, List.getElem_cons_succ, Act.put, List.setIfInBounds_toArray, List.set_cons_zero, List.set_cons_succ]
   refine wpAnyH_take (i := 5) (v := ?hv6) rfl (by kernel_rfl) (by kernel_rfl) (by kernel_rfl) (fun _ _ _ h => h) (Or.inl ⟨by rfl, ?hy6⟩) (by assumption) ?hr6
   case hy6 => ((intro _ hSw; (try dsimp only at hSw); go_simp) <;> with_reducible rfl)
   try simp only [List.getElem_toArray, List.getElem_cons_zero, List.getElem_cons_succ, Act.put, List.setIfInBounds_toArray, List.set_cons_zero, List.set_cons_succ]
   refine wpAnyH_take (i := 6) (v := ?hv7) rfl (by kernel_rfl) (by kernel_rfl) (by kernel_rfl) (fun _ _ _ h => h) (Or.inl ⟨by rfl, ?hy7⟩) (by assumption) ?hr7
   case hy7 => ((intro _ hSw; (try dsimp only at hSw); go_simp) <;> with_reducible rfl)
   try simp only [List.getElem_toArray, List.getElem_cons_zero, List.getElem_cons_succ, Act.put, List.setIfInBounds_toArray, List.set_cons_zero, List.set_cons_succ]
   refine wpAnyH_take (i := 7) (v := ?hv8) rfl (by kernel_rfl) (by kernel_rfl) (by kernel_rfl) (fun _ _ _ h => h) (Or.inl ⟨by rfl, ?hy8⟩) (by assumption) ?hr8
   case hy8 => ((intro _ hSw; (try dsimp only at hSw); go_simp) <;> with_reducible rfl)
   try simp only [List.getElem_toArray, List.getElem_cons_zero, List.getElem_cons_succ, Act.put, List.setIfInBounds_toArray, List.set_cons_zero, List.set_cons_succ]
   refine wpAnyH_take (i := 8) (v := ?hv9) rfl (by kernel_rfl) (by kernel_rfl) (by kernel_rfl) (fun _ _ _ h => h) (Or.inl ⟨by rfl, ?hy9⟩) (by assumption) ?hr9
   case hy9 => ((intro _ hSw; (try dsimp only at hSw); go_simp) <;> with_reducible rfl)
   try simp only [List.getElem_toArray, List.getElem_cons_zero, List.getElem_cons_succ, Act.put, List.setIfInBounds_toArray, List.set_cons_zero, List.set_cons_succ]
   refine wpAnyH_take (i := 9) (v := ?hv10) rfl (by kernel_rfl) (by kernel_rfl) (by kernel_rfl) (fun _ _ _ h => h) (Or.inl ⟨by rfl, ?hy10⟩) (by assumption) ?hr10
   case hy10 => ((intro _ hSw; (try dsimp only at hSw); go_simp) <;> with_reducible rfl)
   try simp only [List.getElem_toArray, List.getElem_cons_zero, List.getElem_cons_succ, Act.put, List.setIfInBounds_toArray, List.set_cons_zero, List.set_cons_succ]
   refine wpAnyH_take (i := 10) (v := ?hv11) rfl (by kernel_rfl) (by kernel_rfl) (by kernel_rfl) (fun _ _ _ h => h) (Or.inl ⟨by rfl, ?hy11⟩) (by assumption) ?hr11
   case hy11 => ((intro _ hSw; (try dsimp only at hSw); go_simp) <;> with_reducible rfl)
   try simp only [List.getElem_toArray, List.getElem_cons_zero, List.getElem_cons_succ, Act.put, List.setIfInBounds_toArray, List.set_cons_zero, List.set_cons_succ]
   refine wpAnyH_take (i := 11) (v := ?hv12) rfl (by kernel_rfl) (by kernel_rfl) (by kernel_rfl) (fun _ _ _ h => h) (Or.inl ⟨by rfl, ?hy12⟩) (by assumption) ?hr12
   case hy12 => ((intro _ hSw; (try dsimp only at hSw); go_simp) <;> with_reducible rfl)
   try simp only [List.getElem_toArray, List.getElem_cons_zero, List.getElem_cons_succ, Act.put, List.setIfInBounds_toArray, List.set_cons_zero, List.set_cons_succ]
   refine wpAnyH_take (i := 12) (v := ?hv13) rfl (by kernel_rfl) (by kernel_rfl) (by kernel_rfl) (fun _ _ _ h => h) (Or.inl ⟨by rfl, ?hy13⟩) (by assumption) ?hr13
   case hy13 => ((intro _ hSw; (try dsimp only at hSw); go_simp) <;> with_reducible rfl)
   try simp only [List.getElem_toArray, List.getElem_cons_zero, List.getElem_cons_succ, Act.put, List.setIfInBounds_toArray, List.set_cons_zero, List.set_cons_succ]
   refine wpAnyH_take (i := 13) (v := ?hv14) rfl (by kernel_rfl) (by kernel_rfl) (by kernel_rfl) (fun _ _ _ h => h) (Or.inl ⟨by rfl, ?hy14⟩) (by assumption) ?hr14
   case hy14 => ((intro _ hSw; (try dsimp only at hSw); go_simp) <;> with_reducible rfl)
   try simp only [List.getElem_toArray, List.getElem_cons_zero, List.getElem_cons_succ, Act.put, List.setIfInBounds_toArray, List.set_cons_zero, List.set_cons_succ]
   refine wpAnyH_take (i := 14) (v := ?hv15) rfl (by kernel_rfl) (by kernel_rfl) (by kernel_rfl) (fun _ _ _ h => h) (Or.inl ⟨by rfl, ?hy15⟩) (by assumption) ?hr15
   case hy15 => ((intro _ hSw; (try dsimp only at hSw); go_simp) <;> with_reducible rfl)
   try simp only [List.getElem_toArray, List.getElem_cons_zero, List.getElem_cons_succ, Act.put, List.setIfInBounds_toArray, List.set_cons_zero, List.set_cons_succ]
   refine wpAnyH_take (i := 15) (v := ?hv16) rfl (by kernel_rfl) (by kernel_rfl) (by kernel_rfl) (fun _ _ _ h => h) (Or.inl ⟨by rfl, ?hy16⟩) (by assumption) ?hr16
   case hy16 => ((intro _ hSw; (try dsimp only at hSw); go_simp) <;> with_reducible rfl)
   try simp only [List.getElem_toArray, List.getElem_cons_zero, List.getElem_cons_succ, Act.put, List.setIfInBounds_toArray, List.set_cons_zero, List.set_cons_succ]
   refine wpAnyH_ready (rs := [16]) (by kernel_rfl) (by simp) (AllReadyH.cons rfl (fun K hK => ?_) AllReadyH.nil)
   go_simp
   refine hK.out _ _ ?hS17 (fun hHeldN => ?_)
   case hS17 => exact hSS _ (hHeld.1.alloc hHeld.1.size _)
   clear hHeld hK K
   have hHeld := hHeldN
   clear hHeldN
   try simp only [List.getElem_toArray, List.getElem_cons_zero, List.getElem_cons_succ, Act.put, List.setIfInBounds_toArray, List.set_cons_zero, List.set_cons_succ]
   refine wpAnyH_ready (rs := [17]) (by kernel_rfl) (by simp) (AllReadyH.cons rfl (fun K hK => ?_) AllReadyH.nil)
   refine step_append_ints (by rfl) (.tmp 36) (.tmp 52) 22 (by kernel_rfl) w2.heap.size 5 .u8 1 Tryz.underlying22 info_u8 (.slice A n c) n _ (by kernel_rfl) (row_below hown ((below_drewN (Below.refl _ _) 1).alloc (Nat.le_refl _) _)) _ 2 2 [y3, z3] (by kernel_rfl) rfl (Rd.of_all (blk_lit wr.drew [y3, z3] _ rfl)) hnl hnb hHeld.1.size ?_; intro A3 c3 w3 o3 g3 _; have b3 := grow_step hHeld.1 hHeld.1.size (row_below hown ((below_drewN (Below.refl _ _) 1).alloc (Nat.le_refl _) _)) g3
   clear hHeld
   refine hK.out _ _ ?hS18 (fun hHeld => ?_)
   case hS18 => exact hSS _ b3
   clear hK K
   try simp only [List.getElem_toArray, List.getElem_cons_zero, List.getElem_cons_succ, Act.put, List.setIfInBounds_toArray, List.set_cons_zero, List.set_cons_succ]
   refine wpAnyH_take (i := 18) (v := ?hv19) rfl (by kernel_rfl) (by kernel_rfl) (by kernel_rfl) (fun _ _ _ h => h) (Or.inl ⟨by rfl, ?hy19⟩) (by assumption) ?hr19
   case hy19 => ((intro _ hSw; (try dsimp only at hSw); go_simp) <;> with_reducible rfl)
   try simp only [List.getElem_toArray, List.getElem_cons_zero, List.getElem_cons_succ, Act.put, List.setIfInBounds_toArray, List.set_cons_zero, List.set_cons_succ]
   refine wpAnyH_done (by kernel_rfl) ?_ _
   go_wp2_with fail
   go_roundw
   case rel => exact ⟨i + 1, n + 2, A3, c3, rfl, by go_num, by omega, by have := HN.out; omega, by rw [hst.out, h2x.out]; exact o3, b3⟩
   case measure => simp [intOf]; omega
  ·obtain rfl : i = 7 := by omega
   obtain rfl : n = 14 := by omega
   go_wp2_with (at_builtin; (refine wpList_append_W _ rfl (.tmp 54) (.tmp 55) _ rfl w2.heap.size 5 .u8 1 Tryz.underlying22 info_u8 (.slice A 14 c) 14 _ rfl (row_below hown ((Below.refl _ _).alloc (Nat.le_refl _) _)) _ 1 1 [90] rfl rfl (Rd.of_all (blk_lit wr [90] _ rfl)) (by simp only [maxLen]; omega) (by omega) (hbel.alloc hbel.size _).size ?_; intro A3 c3 w3 o3 g3 _; have b3 := grow_step (hbel.alloc hbel.size _) (hbel.alloc hbel.size _).size (row_below hown ((Below.refl _ _).alloc (Nat.le_refl _) _)) g3))
   have b3 := e0.trans (b3.mono e0.size)
   obtain ⟨_, _, he, hn15, -, -, ho3⟩ := Own.of_row o3
   cases he
   skip
   have hq := refWrite_any 24 A3 15 c3 ((ds.take 7).flatMap two2 ++ [90]) w3 (by omega) (by rw [List.length_append, two_len]; simp [HDL.out]) (by omega) ho3.rd
   rw [show ((24 : Nat) : Int) = (24 : Int) from rfl] at hq
   rw [List.take_of_length_le (l := ds) (i := 7) (by rw [HDL.out]; exact Nat.le_refl _)] at hq
   refine hq.mono ?_
   clear hq
   rintro r w4 ⟨A4, c4, rfl, h4a, h4b, o4, b4⟩
   go_wp2_with fail
   go_ret
   rw [hG.out]
   exact ⟨A4, c4, rfl, h4a, h4b, o4.mono b3.size, b3.trans (b4.mono b3.size)⟩
end Go.Proofs.YtchaahnhpeoomaaGreat
namespace Go.Proofs.YtchaahnhpeoomaaGreat
set_option linter.unusedVariables false
set_option linter.unusedSimpArgs false
set_option maxRecDepth 20000
open Go.RowKit
structure Sub (w w' : World) : Prop where
 size : w.heap.size ≤ w'.heap.size
 cell : ∀ (p : Addr) (v : Value), w.cell? p = some v → w'.cell? p = some v
 shape : ∀ (g : Nat) (x : TypeId × Nat), w.shape? g = some x → w'.shape? g = some x
 keep : ∀ (g : Nat) (cs : Array Value) (t : TypeId) (fr : Nat × Nat), w.heap[g]? = some (.cells cs t fr) → t ≠ 5 → w'.heap[g]? = some (.cells cs t fr)
theorem Sub.refl (w : World) : Sub w w := ⟨Nat.le_refl _, fun _ _ h => h, fun _ _ h => h, fun _ _ _ _ h _ => h⟩
theorem Sub.trans {a b c : World} (h : Sub a b) (k : Sub b c) : Sub a c := ⟨Nat.le_trans h.size k.size, fun p v q => k.cell p v (h.cell p v q), fun p v q => k.shape p v (h.shape p v q), fun g cs t fr q n => k.keep g cs t fr (h.keep g cs t fr q n) n⟩
theorem heap_lt {w : World} {g : Nat} {o : Obj} (h : w.heap[g]? = some o) : g < w.heap.size := by
 rcases Nat.lt_or_ge g w.heap.size with h' | h'
 ·exact h'
 ·rw [Array.getElem?_eq_none h'] at h
  cases h
theorem shape_lt {w : World} {g : Nat} {x : TypeId × Nat} (h : w.shape? g = some x) : g < w.heap.size := by
 rcases Nat.lt_or_ge g w.heap.size with h' | h'
 ·exact h'
 ·unfold World.shape? at h
  rw [Array.getElem?_eq_none h'] at h
  cases h
theorem Sub.below {w w' : World} (h : Below w.heap.size w w') : Sub w w' :=
 ⟨h.size, fun p v q => (h.cell (World.block_lt_of_cell? _ _ q)).trans q, fun g x q => by
  have hl := shape_lt q
  unfold World.shape? at *
  rw [h.block g hl]
  exact q, fun g cs t fr q _ => (h.block g (heap_lt q)).trans q⟩
theorem Sub.freeze (w : World) (p : Addr) (n : Nat) {N : Nat} (hsh : w.shape? p.block = some (5, N)) : Sub w (w.freeze p n) := by
 unfold World.freeze
 split
 ·exact Sub.refl w
 ·refine ⟨by simp, fun q v h => ?_, fun g x h => ?_, fun g cs t fr h hne => ?_⟩
  ·unfold World.cell? at *
   dsimp only
   rw [Array.getElem?_modify]
   by_cases he : p.block = q.block
   ·rw [if_pos he]
    cases ho : w.heap[q.block]? with
    | none => rw [ho] at h; cases h
    | some o => rw [ho] at h; cases o <;> first | (simp at h; done) | (simp at h ⊢; exact h)
   ·rw [if_neg he]
    exact h
  ·unfold World.shape? at *
   dsimp only
   rw [Array.getElem?_modify]
   by_cases he : p.block = g
   ·rw [if_pos he]
    cases ho : w.heap[g]? with
    | none => rw [ho] at h; cases h
    | some o => rw [ho] at h; cases o <;> first | (simp at h; done) | (simp at h ⊢; exact h)
   ·rw [if_neg he]
    exact h
  ·dsimp only
   rw [Array.getElem?_modify]
   by_cases he : p.block = g
   ·exfalso
    subst he
    unfold World.shape? at hsh
    rw [h] at hsh
    simp at hsh
    exact hne hsh.1
   ·rw [if_neg he]
    exact h
theorem run_conv_mark {P : Program} (w : World) (t e : TypeId) (g n c N : Nat) (ht : P.underlying t = some (.slice e)) (he : P.underlying e = some (.int .u8)) (hsh : w.shape? g = some (e, N)) :
  (convert t t (.slice (some ⟨g, 0, none⟩) n c)).run P w = .ok (.slice (some ⟨g, 0, none⟩) n c) (w.freeze ⟨g, N, none⟩ 1) := by
 simp [convert, run_underlying ht, run_underlying he, markStringish, hsh]
theorem Rd.sub {k : IntKind} {w w' : World} {A : Option Addr} {xs : List Nat} (h : Rd k w A xs) (hs : Sub w w') : Rd k w' A xs := by
 rcases h with h | ⟨b, o, h1, h2, h3⟩
 ·exact .inl h
 ·exact .inr ⟨b, o, h1, Nat.lt_of_lt_of_le h2 hs.size, fun i x hx => hs.cell _ _ (h3 i x hx)⟩
section
variable {P : Program} {ops : Array Oper} {Q : Exit → Act → World → Prop}
def waitsBelow (ops : Array Oper) : Bool :=
 (List.range ops.size).all fun i => match ops[i]? with
  | none => true
  | some o => o.after.toList.all fun e => !(Region.binds .any e) || decide (e.on < i)
theorem waitsBelow_spec (h : waitsBelow ops = true) {i : Nat} {o : Oper} (ho : ops[i]? = some o) {e : Edge} (he : e ∈ o.after) (hb : Region.binds .any e = true) : e.on < i := by
 have hi : i < ops.size := (Array.getElem?_eq_some_iff.1 ho).1
 unfold waitsBelow at h
 have h1 := List.all_eq_true.1 h i (by simpa using hi)
 rw [ho] at h1
 have h2 := List.all_eq_true.1 h1 e (by simpa using he)
 rw [hb] at h2
 simpa using h2
structure RegInv (n : Nat) (dst : Nat → Nat) (a0 : Act) (Spec : Nat → Value → World → Prop) (G : World → Prop) (listed : Array Bool) (U : List Nat) (a : Act) (w : World) : Prop where
 size : listed.size = n
 left : ∀ i, i ∈ U ↔ listed.getD i true = false
 nodup : U.Nodup
 defers : a.defers = a0.defers
 tmps : a.tmps.size = a0.tmps.size
 base : ∀ s, (∀ i, i < n → dst i ≠ s) → a.tmps.getD s undef = a0.tmps.getD s undef
 spec : ∀ i, listed.getD i false = true → Spec i (a.tmps.getD (dst i) undef) w
 ground : G w
theorem getD_flip {l : Array Bool} {i : Nat} (h : i < l.size) : l.getD i true = l.getD i false := by
 simp [Array.getD, h]
theorem wpAny_spec {dst : Nat → Nat} {a0 : Act} {Spec : Nat → Value → World → Prop} {G : World → Prop}
  (hwait : waitsBelow ops = true) (hdst : ∀ (i : Nat) (o : Oper), ops[i]? = some o → o.dst = some (dst i))
  (hinj : ∀ i j, i < ops.size → j < ops.size → dst i = dst j → i = j) (hlt : ∀ i, i < ops.size → dst i < a0.tmps.size)
  (hmono : ∀ i v w w', Spec i v w → Sub w w' → Spec i v w')
  (hstep : ∀ (i : Nat) (o : Oper), ops[i]? = some o → ∀ a w, (∀ s, (∀ i, i < ops.size → dst i ≠ s) → a.tmps.getD s undef = a0.tmps.getD s undef) →
   (∀ e ∈ o.after, Region.binds .any e = true → Spec e.on (a.tmps.getD (dst e.on) undef) w) → G w →
   ∀ K : Act → World → Prop, (∀ v w', Spec i v w' → Sub w w' → G w' → K (a.put o.dst v) w') → if Region.wanted o (yielded ops a.tmps) = true then Oper.wp P o a w K Q else K (a.put o.dst undef) w)
  (hend : ∀ a w, a.defers = a0.defers → a.tmps.size = a0.tmps.size → (∀ s, (∀ i, i < ops.size → dst i ≠ s) → a.tmps.getD s undef = a0.tmps.getD s undef) → (∀ i, i < ops.size → Spec i (a.tmps.getD (dst i) undef) w) → G w → Q .normal a w) :
  ∀ (fuel : Nat) (U : List Nat) (listed : Array Bool) (a : Act) (w : World), U.length = fuel → RegInv ops.size dst a0 Spec G listed U a w → wpAny P .any ops Q fuel listed a w := by
 have hdone : ∀ (U : List Nat) (listed : Array Bool) (a : Act) (w : World), RegInv ops.size dst a0 Spec G listed U a w → Region.ready .any ops listed = [] → Q .normal a w := by
  intro U listed a w inv hr
  have hall : ∀ i, i < ops.size → listed.getD i false = true := by
   intro i
   induction i using Nat.strongRecOn with
   | _ i ih =>
    intro hi
    cases hl : listed.getD i false with
    | true => rfl
    | false =>
     exfalso
     obtain ⟨o, ho⟩ : ∃ o, ops[i]? = some o := ⟨ops[i], Array.getElem?_eq_getElem hi⟩
     have hm : i ∈ Region.ready .any ops listed := mem_ready.2 ⟨by rw [getD_flip (by rw [inv.size]; exact hi)]; exact hl, o, ho, fun e he hb => by
      have h1 := waitsBelow_spec hwait ho he hb
      exact ih e.on h1 (by omega)⟩
     rw [hr] at hm
     cases hm
  exact hend a w inv.defers inv.tmps inv.base (fun i hi => inv.spec i (hall i hi)) inv.ground
 intro fuel
 induction fuel with
 | zero =>
  intro U listed a w hU inv
  have hU0 : U = [] := List.eq_nil_of_length_eq_zero hU
  have hr : Region.ready .any ops listed = [] := by
   rw [List.eq_nil_iff_forall_not_mem]
   intro j hj
   have := (inv.left j).2 (mem_ready.1 hj).1
   rw [hU0] at this
   cases this
  exact ⟨hr, hdone U listed a w inv hr⟩
 | succ fuel ih =>
  intro U listed a w hU inv
  refine ⟨hdone U listed a w inv, fun i hi => ?_⟩
  obtain ⟨h0, o, ho, hall⟩ := mem_ready.1 hi
  have hin : i < ops.size := (Array.getElem?_eq_some_iff.1 ho).1
  have hs := hstep i o ho a w inv.base (fun e he hb => inv.spec e.on (hall e he hb)) inv.ground (wpAny P .any ops Q fuel (listed.setIfInBounds i true)) (fun v w' hv hsub hg => by
   have hd := hdst i o ho
   have hput : (a.put o.dst v).tmps = a.tmps.setIfInBounds (dst i) v := by rw [hd]; rfl
   have hget : ∀ s, s ≠ dst i → (a.put o.dst v).tmps.getD s undef = a.tmps.getD s undef := fun s hne => by
    rw [hput]
    simp [Array.getElem?_setIfInBounds_ne (Ne.symm hne)]
   have hgot : (a.put o.dst v).tmps.getD (dst i) undef = v := by
    rw [hput]
    have : dst i < a.tmps.size := by rw [inv.tmps]; exact hlt i hin
    simp [this]
   refine ih (U.erase i) _ _ w' ?_ ⟨?_, ?_, ?_, ?_, ?_, ?_, ?_, hg⟩
   ·rw [List.length_erase_of_mem ((inv.left i).2 h0), hU]
    rfl
   ·rw [Array.size_setIfInBounds, inv.size]
   ·intro j
    rw [inv.nodup.mem_erase_iff, inv.left j]
    by_cases hj : i = j
    ·subst hj
     have : i < listed.size := by rw [inv.size]; exact hin
     simp [this]
    ·rw [getD_set_ne true hj]
     exact ⟨fun h => h.2, fun h => ⟨Ne.symm hj, h⟩⟩
   ·exact inv.nodup.erase i
   ·rw [hd]; exact inv.defers
   ·rw [hput, Array.size_setIfInBounds]; exact inv.tmps
   ·intro s hs
    rw [hget s (Ne.symm (hs i hin))]
    exact inv.base s hs
   ·intro j hj
    by_cases hij : i = j
    ·subst hij
     rw [hgot]
     exact hv
    ·rw [getD_set_ne false hij] at hj
     have hjn : j < ops.size := by
      rcases Nat.lt_or_ge j listed.size with h' | h'
      ·rw [← inv.size]; exact h'
      ·simp [Array.getElem?_eq_none h'] at hj
     rw [hget _ (fun e => hij (hinj j i hjn hin e).symm)]
     exact hmono j _ w w' (inv.spec j hj) hsub)
  unfold wpOp
  rw [ho]
  by_cases hw : Region.wanted o (yielded ops a.tmps) = true
  ·rw [if_pos hw] at hs
   simp only [hw, if_true]
   exact .inl hs
  ·rw [if_neg hw] at hs
   have hwf : Region.wanted o (yielded ops a.tmps) = false := by simpa using hw
   simp only [hwf, Bool.false_eq_true, if_false]
   exact hs
theorem wp_region_spec {id : Nat} {a0 : Act} {w0 : World} (hm : P.follows .mixedOrders = true) (dst : Nat → Nat) (Spec : Nat → Value → World → Prop) (G : World → Prop)
  (hwait : waitsBelow ops = true) (hdst : ∀ (i : Nat) (o : Oper), ops[i]? = some o → o.dst = some (dst i))
  (hinj : ∀ i j, i < ops.size → j < ops.size → dst i = dst j → i = j) (hlt : ∀ i, i < ops.size → dst i < a0.tmps.size)
  (hmono : ∀ i v w w', Spec i v w → Sub w w' → Spec i v w') (hG : G w0.drew)
  (hstep : ∀ (i : Nat) (o : Oper), ops[i]? = some o → ∀ a w, (∀ s, (∀ i, i < ops.size → dst i ≠ s) → a.tmps.getD s undef = a0.tmps.getD s undef) →
   (∀ e ∈ o.after, Region.binds .any e = true → Spec e.on (a.tmps.getD (dst e.on) undef) w) → G w →
   ∀ K : Act → World → Prop, (∀ v w', Spec i v w' → Sub w w' → G w' → K (a.put o.dst v) w') → if Region.wanted o (yielded ops a.tmps) = true then Oper.wp P o a w K Q else K (a.put o.dst undef) w)
  (hend : ∀ a w, a.defers = a0.defers → a.tmps.size = a0.tmps.size → (∀ s, (∀ i, i < ops.size → dst i ≠ s) → a.tmps.getD s undef = a0.tmps.getD s undef) → (∀ i, i < ops.size → Spec i (a.tmps.getD (dst i) undef) w) → G w → Q .normal a w) :
  (Code.region id ops true).wp P Q a0 w0 := by
 refine wp_region_any hm ?_
 refine wpAny_spec hwait hdst hinj hlt hmono hstep hend ops.size (List.range ops.size) _ a0 _ (by simp) ⟨by simp, fun i => ?_, List.nodup_range, rfl, rfl, fun _ _ => rfl, fun i hi => ?_, hG⟩
 ·by_cases h : i < ops.size <;> simp [h]
 ·by_cases h : i < ops.size <;> simp [h] at hi
def dstOk (ops : Array Oper) (dst : Nat → Nat) : Bool :=
 (List.range ops.size).all fun i => match ops[i]? with
  | none => true
  | some o => o.dst == some (dst i)
theorem dstOk_spec {dst : Nat → Nat} (h : dstOk ops dst = true) (i : Nat) (o : Oper) (ho : ops[i]? = some o) : o.dst = some (dst i) := by
 have hi : i < ops.size := (Array.getElem?_eq_some_iff.1 ho).1
 unfold dstOk at h
 have h1 := List.all_eq_true.1 h i (by simpa using hi)
 rw [ho] at h1
 simpa using h1
def StepOk (P : Program) (ops : Array Oper) (Q : Exit → Act → World → Prop) (Base : Act → Prop) (dst : Nat → Nat) (Spec : Nat → Value → World → Prop) (G : World → Prop) (i : Nat) (o : Oper) : Prop :=
 ∀ a w, Base a → (∀ e ∈ o.after, Region.binds .any e = true → Spec e.on (a.tmps.getD (dst e.on) undef) w) → G w →
  ∀ K : Act → World → Prop, (∀ v w', Spec i v w' → Sub w w' → G w' → K (a.put o.dst v) w') → if Region.wanted o (yielded ops a.tmps) = true then Oper.wp P o a w K Q else K (a.put o.dst undef) w
def StepsOk (P : Program) (ops : Array Oper) (Q : Exit → Act → World → Prop) (Base : Act → Prop) (dst : Nat → Nat) (Spec : Nat → Value → World → Prop) (G : World → Prop) : Nat → List Oper → Prop
 | _, [] => True
 | i, o :: r => StepOk P ops Q Base dst Spec G i o ∧ StepsOk P ops Q Base dst Spec G (i + 1) r
theorem StepsOk.get {Base : Act → Prop} {dst : Nat → Nat} {Spec : Nat → Value → World → Prop} {G : World → Prop} : ∀ {l : List Oper} {n i : Nat} {o : Oper}, StepsOk P ops Q Base dst Spec G n l → l[i]? = some o → StepOk P ops Q Base dst Spec G (n + i) o
 | [], _, _, _, _, h => by simp at h
 | x :: r, n, 0, o, hs, h => by
  simp at h
  subst h
  exact hs.1
 | x :: r, n, i + 1, o, hs, h => by
  have := StepsOk.get (i := i) hs.2 (by simpa using h)
  rwa [Nat.add_assoc, Nat.add_comm 1 i] at this
theorem wp_region_steps {id : Nat} {a0 : Act} {w0 : World} (hm : P.follows .mixedOrders = true) (dst : Nat → Nat) (Spec : Nat → Value → World → Prop) (G : World → Prop)
  (hwait : waitsBelow ops = true) (hdst : dstOk ops dst = true)
  (hinj : ∀ i j, i < ops.size → j < ops.size → dst i = dst j → i = j) (hlt : ∀ i, i < ops.size → dst i < a0.tmps.size)
  (hmono : ∀ i v w w', Spec i v w → Sub w w' → Spec i v w') (hG : G w0.drew)
  (hsteps : StepsOk P ops Q (fun a => ∀ s, (∀ i, i < ops.size → dst i ≠ s) → a.tmps.getD s undef = a0.tmps.getD s undef) dst Spec G 0 ops.toList)
  (hend : ∀ a w, a.defers = a0.defers → a.tmps.size = a0.tmps.size → (∀ s, (∀ i, i < ops.size → dst i ≠ s) → a.tmps.getD s undef = a0.tmps.getD s undef) → (∀ i, i < ops.size → Spec i (a.tmps.getD (dst i) undef) w) → G w → Q .normal a w) :
  (Code.region id ops true).wp P Q a0 w0 :=
 wp_region_spec hm dst Spec G hwait (dstOk_spec hdst) hinj hlt hmono hG (fun i o ho => by
  have := StepsOk.get (i := i) (o := o) hsteps (by simpa using ho)
  rw [Nat.zero_add] at this
  exact this) hend
end
end Go.Proofs.YtchaahnhpeoomaaGreat
namespace Go.Proofs.YtchaahnhpeoomaaGreat
set_option linter.unusedVariables false
set_option linter.unusedSimpArgs false
set_option maxRecDepth 20000
open Go.RowKit
set_option maxRecDepth 100000 in
set_option maxHeartbeats 1600000 in
theorem refExt_any (xs ys : List Nat) (A : Option Addr) (n c : Nat) (w : World) (lx : Lim 256 xs) (hl : xs.length ≤ 1000) (hn : n = ys.length) (hm : n ≤ 1000000) (hy : Rd .u8 w A ys) :
  Calls Tryz.prog 128 #[.string (bstr xs), .slice A n c] w (Gives .u8 (extB xs ys) w) := by
 subst hn
 go_enter Tryz.func128, Tryz.ntmps128
 go_wp2_with (refine wpList_string_bytes rfl 9 22 5 (.tmp 5) rfl Tryz.underlying9 Tryz.underlying22 Tryz.underlying5 xs lx rfl ?_; intro g2 c2 w2 _ r2 k2)
 refine (refWrite_any 6 (some ⟨g2, 0, none⟩) xs.length c2 xs w2 (by omega) rfl (by omega) r2).mono ?_
 rintro r w3 ⟨A3, c3, rfl, -, -, o3, k3⟩
 have l3 : (wr 6 xs).length ≤ 1006 := Nat.le_trans (wr_len (by omega)) (by omega)
 have b3 := k2.trans (k3.mono k2.size)
 have o3 := o3.rd
 go_wp2_with fail
 refine (refWrite_any 4 A ys.length c ys w3 (by omega) rfl (by omega) (hy.below b3)).mono ?_
 rintro r w4 ⟨A4, c4, rfl, -, -, o4, k4⟩
 have l4 : (wr 4 ys).length ≤ 1000006 := Nat.le_trans (wr_len (by omega)) (by omega)
 have o3 := o3.below k4
 have o4 := o4.rd
 have b4 := b3.trans (k4.mono b3.size)
 go_wp2_with fail
 have hq := refSeq_any (some ⟨w4.heap.size, 0, none⟩) 2 2 [⟨A3, c3, wr 6 xs⟩, ⟨A4, c4, wr 4 ys⟩] (w4.alloc (.cells #[.slice A3 (wr 6 xs).length c3, .slice A4 (wr 4 ys).length c4] 22)) rfl (by omega) (by simp [joinS]; omega) (sls_lit _ rfl (all2 o3 o4))
 refine hq.mono ?_
 clear hq
 rintro r w6 ⟨A6, c6, rfl, h6a, h6b, o6, k6⟩
 have b6 := (b4.alloc b4.size (.cells #[.slice A3 (wr 6 xs).length c3, .slice A4 (wr 4 ys).length c4] 22))
 go_wp2_with fail
 go_ret
 exact ⟨A6, c6, rfl, h6a, h6b, o6.mono b6.size, b6.trans (k6.mono b6.size)⟩
theorem conv_const : ∀ (w : World) (C : Array Value) (n c : Nat), (convert 22 22 (.slice (some ⟨w.heap.size, 0, none⟩) n c)).run Tryz.prog (w.alloc (.cells C 5)) = .ok (.slice (some ⟨w.heap.size, 0, none⟩) n c) (w.alloc (.cells C 5 (C.size, C.size + 1))) :=
 fun w C n c => Lib.run_convert_bytes_const (P := Tryz.prog) w 22 5 C n c Tryz.underlying22 Tryz.underlying5
set_option maxRecDepth 100000 in
set_option maxHeartbeats 1600000 in
theorem refCert_any (A B : Option Addr) (n m c d : Nat) (xs ys : List Nat) (w : World) (hn : n = xs.length) (hm : m = ys.length) (hl : n ≤ 1000000) (hl' : m ≤ 1000000) (hx : Rd .u8 w A xs) (hy : Rd .u8 w B ys) :
  Calls Tryz.prog 99 #[.slice A n c, .slice B m d] w (Gives .u8 (certB xs ys) w) := by
 subst hn
 subst hm
 have kc := conv_const
 have hA : 1 + ys.length ≤ maxLen := by simp only [maxLen]; omega
 have hB : (1 + ys.length) * 1 ≤ 140737488355328 := by omega
 go_enter Tryz.func99, Tryz.ntmps99
 go_wp2_with (at_builtin; (refine wpList_append_W _ rfl (.tmp 7) (.tmp 8) _ rfl w.heap.size 5 .u8 1 Tryz.underlying22 info_u8 (.slice (some ⟨w.heap.size, 0, none⟩) 1 1) 1 [0] rfl (lit_own w [0] _ rfl (Nat.le_refl _) (by simp [maxLen])) _ ys.length _ ys rfl rfl (hy.alloc _) hA hB (by simp) ?_; intro A3 c3 w3 o3 g3 _; have b3 := grow_step ((Below.refl w.heap.size w).alloc (Nat.le_refl _) _) (by simp) (lit_own w [0] _ rfl (Nat.le_refl _) (by simp [maxLen])) g3; obtain ⟨_, _, he3, -, -, -, r3⟩ := Own.of_row o3; cases he3; have r3 := r3.rd))
 have rS : Rd .u8 (w3.alloc (.cells #[.int .u8 48, .int .u8 13, .int .u8 6, .int .u8 9, .int .u8 42, .int .u8 134, .int .u8 72, .int .u8 134, .int .u8 247, .int .u8 13, .int .u8 1, .int .u8 1, .int .u8 11, .int .u8 5, .int .u8 0] 5 (15, 16))) (some ⟨w3.heap.size, 0, none⟩) signAlgB := rd_mark9 w3 signAlgB _ rfl
 have b4 := b3.alloc b3.size (.cells #[.int .u8 48, .int .u8 13, .int .u8 6, .int .u8 9, .int .u8 42, .int .u8 134, .int .u8 72, .int .u8 134, .int .u8 247, .int .u8 13, .int .u8 1, .int .u8 1, .int .u8 11, .int .u8 5, .int .u8 0] 5 (15, 16))
 have r4 := r3.alloc (.cells #[.int .u8 48, .int .u8 13, .int .u8 6, .int .u8 9, .int .u8 42, .int .u8 134, .int .u8 72, .int .u8 134, .int .u8 247, .int .u8 13, .int .u8 1, .int .u8 1, .int .u8 11, .int .u8 5, .int .u8 0] 5 (15, 16))
 have hx4 := (hx.below b3).alloc (.cells #[.int .u8 48, .int .u8 13, .int .u8 6, .int .u8 9, .int .u8 42, .int .u8 134, .int .u8 72, .int .u8 134, .int .u8 247, .int .u8 13, .int .u8 1, .int .u8 1, .int .u8 11, .int .u8 5, .int .u8 0] 5 (15, 16))
 generalize w3.alloc (.cells #[.int .u8 48, .int .u8 13, .int .u8 6, .int .u8 9, .int .u8 42, .int .u8 134, .int .u8 72, .int .u8 134, .int .u8 247, .int .u8 13, .int .u8 1, .int .u8 1, .int .u8 11, .int .u8 5, .int .u8 0] 5 (15, 16)) = w4 at *
 have hlen : 1 + ys.length = ([0] ++ ys).length := by simp; omega
 refine (refWrite_any 3 A3 (1 + ys.length) c3 ([0] ++ ys) w4 (by omega) hlen (by omega) r4).mono ?_
 rintro r w5 ⟨A5, c5, rfl, -, -, o5, k5⟩
 have l5 : (wr 3 ([0] ++ ys)).length ≤ 1000010 := Nat.le_trans (wr_len (by omega)) (by omega)
 have rS := rS.below k5
 have hx5 := hx4.below k5
 have r5 := o5.rd
 have b5 := b4.trans (k5.mono b4.size)
 clear hlen
 go_wp2_with fail
 have hq := refSeq_any (some ⟨w5.heap.size, 0, none⟩) 3 3 [⟨A, c, xs⟩, ⟨some ⟨w3.heap.size, 0, none⟩, 15, signAlgB⟩, ⟨A5, c5, wr 3 ([0] ++ ys)⟩] (w5.alloc (.cells #[.slice A xs.length c, .slice (some ⟨w3.heap.size, 0, none⟩) 15 15, .slice A5 (wr 3 ([0] ++ ys)).length c5] 22)) rfl (by omega) (by simp [joinS, signAlgB] at l5 ⊢; omega) (sls_lit _ rfl (all3 hx5 rS r5))
 refine hq.mono ?_
 clear hq
 rintro r w6 ⟨A6, c6, rfl, h6a, h6b, o6, k6⟩
 have b6 := (b5.alloc b5.size (.cells #[.slice A xs.length c, .slice (some ⟨w3.heap.size, 0, none⟩) 15 15, .slice A5 (wr 3 ([0] ++ ys)).length c5] 22))
 go_wp2_with fail
 go_ret
 exact ⟨A6, c6, rfl, h6a, h6b, o6.mono b6.size, b6.trans (k6.mono b6.size)⟩
end Go.Proofs.YtchaahnhpeoomaaGreat
namespace Go.Proofs.YtchaahnhpeoomaaGreat
set_option linter.unusedVariables false
set_option linter.unusedSimpArgs false
set_option maxRecDepth 20000
def numB (xs : List Nat) : Nat := xs.foldl (fun n c => n * 256 + c) 0
theorem numB_snoc (xs : List Nat) (x : Nat) : numB (xs ++ [x]) = numB xs * 256 + x := by simp [numB]
theorem numB_le256 (n : Nat) : numB (le256 n).reverse = n := by
 induction n using Nat.strongRecOn with
 | _ n ih =>
  by_cases h : n = 0
  ·subst h
   rw [le256_zero]
   rfl
  ·rw [le256_pos h, List.reverse_cons, numB_snoc, ih (n / 256) (Nat.div_lt_self (by omega) (by omega))]
   omega
theorem le256_top {n : Nat} (h : n ≠ 0) : ∃ x, (le256 n).reverse.head? = some x ∧ x ≠ 0 := by
 induction n using Nat.strongRecOn with
 | _ n ih =>
  rw [le256_pos h, List.reverse_cons]
  by_cases h2 : n / 256 = 0
  ·rw [h2, le256_zero]
   exact ⟨n % 256, rfl, by omega⟩
  ·obtain ⟨x, hx, h3⟩ := ih (n / 256) (Nat.div_lt_self (by omega) (by omega)) h2
   refine ⟨x, ?_, h3⟩
   rw [List.head?_append, hx]
   rfl
def headB (b : List Nat) : Option (Nat × Nat) :=
 match b with
 | t :: l :: r =>
  if t % 32 = 31 then none
  else if l < 128 then some (2, l)
  else if l - 128 = 0 ∨ 4 < l - 128 ∨ r.length < l - 128 ∨ r.head? = some 0 then none
  else if 128 ≤ numB (r.take (l - 128)) then some (2 + (l - 128), numB (r.take (l - 128))) else none
 | _ => none
def elemB (b : List Nat) : Option (Nat × Nat) :=
 match headB b with
 | some (f, n) => if f + n ≤ b.length then some (f, n) else none
 | none => none
theorem elemB_some {b : List Nat} {f n : Nat} : elemB b = some (f, n) ↔ headB b = some (f, n) ∧ f + n ≤ b.length := by
 unfold elemB
 cases h : headB b with
 | none => simp
 | some p =>
  obtain ⟨g, m⟩ := p
  dsimp only
  by_cases h2 : g + m ≤ b.length
  ·rw [if_pos h2]
   constructor
   ·intro e
    cases e
    exact ⟨rfl, h2⟩
   ·rintro ⟨e, _⟩
    exact e
  ·rw [if_neg h2]
   constructor
   ·intro e
    cases e
   ·rintro ⟨e, h3⟩
    cases e
    exact absurd h3 h2
theorem headB_take {b : List Nat} {k f n : Nat} (h : headB (b.take k) = some (f, n)) : headB b = some (f, n) := by
 rcases b with _ | ⟨t, _ | ⟨l, r⟩⟩
 ·simpa using h
 ·rcases k with _ | k <;> simp [headB] at h
 ·rcases k with _ | _ | k
  ·simp [headB] at h
  ·simp [headB] at h
  ·simp only [List.take_succ_cons] at h
   unfold headB at h ⊢
   dsimp only at h ⊢
   split at h
   ·cases h
   ·rename_i h1
    rw [if_neg h1]
    split at h
    ·rename_i h2
     rw [if_pos h2]
     exact h
    ·rename_i h2
     rw [if_neg h2]
     split at h
     ·cases h
     ·rename_i h3
      have h4 : l - 128 ≤ k ∧ l - 128 ≤ r.length := by
       simp only [List.length_take, not_or] at h3
       omega
      have h5 : (r.take k).head? = r.head? := by
       rcases k with _ | k
       ·exfalso; simp at h3; omega
       ·cases r <;> rfl
      rw [h5] at h3
      rw [if_neg (fun hc => h3 (hc.imp id (Or.imp id (Or.imp (fun q => absurd q (by omega)) id))))]
      rw [List.take_take, Nat.min_eq_left h4.1] at h
      exact h
theorem head_wr {tag : Nat} {b ys : List Nat} (ht : tag % 32 ≠ 31) (hl : b.length < 4294967296) : headB (wr tag b ++ ys) = some (1 + (derLen b.length).length, b.length) := by
 unfold wr derLen
 by_cases h : b.length < 128
 ·rw [if_pos h]
  simp [headB, ht, h]
 ·rw [if_neg h]
  have h4 := le256_len4 hl
  have h1 := le256_len_pos (n := b.length) (by omega)
  obtain ⟨x, hx, hx0⟩ := le256_top (n := b.length) (by omega)
  simp only [List.cons_append, headB]
  rw [if_neg ht, if_neg (by omega), if_neg ?_]
  ·rw [show 128 + (le256 b.length).length - 128 = (le256 b.length).reverse.length by simp, List.append_assoc, List.take_left' (by simp), numB_le256, if_pos (by omega)]
   simp
   omega
  ·simp only [not_or]
   refine ⟨by omega, by omega, by simp, ?_⟩
   rw [List.append_assoc, List.head?_append, hx]
   simpa using hx0
theorem wr_full {tag : Nat} {b : List Nat} : (wr tag b).length = 1 + (derLen b.length).length + b.length := by
 simp [wr]
 omega
theorem elem_wr {tag : Nat} {b ys : List Nat} (ht : tag % 32 ≠ 31) (hl : b.length < 4294967296) : elemB (wr tag b ++ ys) = some (1 + (derLen b.length).length, b.length) :=
 elemB_some.2 ⟨head_wr ht hl, by rw [List.length_append, wr_full]; omega⟩
end Go.Proofs.YtchaahnhpeoomaaGreat
namespace Go.Proofs.YtchaahnhpeoomaaGreat
set_option linter.unusedVariables false
set_option linter.unusedSimpArgs false
set_option maxRecDepth 20000
open Go.RowKit
end Go.Proofs.YtchaahnhpeoomaaGreat
namespace Go.Proofs.YtchaahnhpeoomaaGreat
set_option linter.unusedVariables false
set_option linter.unusedSimpArgs false
set_option maxRecDepth 20000
open Go.RowKit
end Go.Proofs.YtchaahnhpeoomaaGreat
namespace Go.Proofs.YtchaahnhpeoomaaGreat
set_option linter.unusedVariables false
set_option linter.unusedSimpArgs false
set_option maxRecDepth 20000
open Go.RowKit
theorem slEq_any (A B : Option Addr) (n m c d : Nat) (xs ys : List Nat) (w : World) (hn : n = xs.length) (hm : m = ys.length) (hl : n ≤ 9223372036854775807) (hx : Rd .u8 w A xs) (hy : Rd .u8 w B ys) :
  Calls Tryz.prog 60 #[.slice A n c, .slice B m d] w (Quiet (.bool (decide (xs = ys))) w) := by
 subst hn
 subst hm
 by_cases hlen : xs.length = ys.length
 ·have hne : ((xs.length : Int) != (ys.length : Int)) = false := by simp [hlen]
  have HL := Lib.hid hlen
  clear hlen
  go_enter Tryz.func60, Tryz.ntmps60
  go_wp2
  go_loopw [5, 13] (fun _ t wr => ∃ k q : Nat, t = .int .i64 k ∧ k ≤ xs.length ∧ Hid (xs.take k = ys.take k) ∧ wr = w.drewN q) (fun _ t _ => xs.length - (intOf t).toNat)
  case atStart => exact ⟨0, 0, rfl, Nat.zero_le _, by simp [Hid], rfl⟩
  case round =>
   obtain ⟨k, q, rfl, hk, ht, rfl⟩ := hrel
   by_cases hlt : k < xs.length
   ·have hlt' : k < ys.length := by have := HL.out; omega
    obtain ⟨x, hgx⟩ := get_of_lt hlt
    obtain ⟨y, hgy⟩ := get_of_lt hlt'
    obtain ⟨b, o, rfl, hbw, hcx⟩ := hx.pos hgx
    obtain ⟨b', o', rfl, hbw', hcy⟩ := hy.pos hgy
    have hcellx := hcx k x hgx
    have hcelly := hcy k y hgy
    have HX := Lib.hid hgx
    have HY := Lib.hid hgy
    clear hcx hcy hgx hgy
    by_cases hxy : x = y
    ·subst hxy
     go_wp2
     go_quiet (fail)
     go_wp2
     go_roundw
     case rel => exact ⟨k + 1, _, by go_num, by omega, by
      show _ = _
      rw [List.take_add_one, List.take_add_one, ht.out, HX.out, HY.out], rfl⟩
     case measure => simp [intOf] <;> omega
    ·have hxy' : ((x : Int) != (y : Int)) = true := by simp; omega
     have hres : decide (xs = ys) = false := by
      simp only [decide_eq_false_iff_not]
      rintro rfl
      have h1 := HX.out
      rw [HY.out] at h1
      injection h1 with h1
      exact hxy h1.symm
     have HR := Lib.hid hres
     clear hres
     go_wp2
     go_quiet (fail)
     go_wp2
     go_ret
     first | exact Quiet.mk (congrArg Value.bool HR.out.symm) _ | exact Quiet.mk2 (congrArg Value.bool HR.out.symm) _ _ | exact Quiet.mk3 (congrArg Value.bool HR.out.symm) _ _ _
   ·have hres : decide (xs = ys) = true := by
     have h1 := ht.out
     have h2 := HL.out
     rw [List.take_of_length_le (by omega), List.take_of_length_le (by omega)] at h1
     simpa using h1
    have HR := Lib.hid hres
    clear hres
    go_wp2
    go_ret
    first | exact Quiet.mk (congrArg Value.bool HR.out.symm) _ | exact Quiet.mk2 (congrArg Value.bool HR.out.symm) _ _ | exact Quiet.mk3 (congrArg Value.bool HR.out.symm) _ _ _
 ·have hne : ((xs.length : Int) != (ys.length : Int)) = true := by simp; omega
  have hres : decide (xs = ys) = false := by
   simp only [decide_eq_false_iff_not]
   rintro rfl
   exact hlen rfl
  have HR := Lib.hid hres
  clear hres hlen
  go_enter Tryz.func60, Tryz.ntmps60
  go_wp2
  go_ret
  exact Quiet.mk0 (congrArg Value.bool HR.out.symm)
end Go.Proofs.YtchaahnhpeoomaaGreat
