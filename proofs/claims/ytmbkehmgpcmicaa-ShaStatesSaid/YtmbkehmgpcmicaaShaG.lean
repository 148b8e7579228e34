/-
  States, in memory; slices.Clone; New.
-/
import Derived.Test.YtmbkehmgpcmicaaShaF
import Derived.Test.YtmbkehmgpcmicaaShaQ
namespace Go.Proofs.Ytmbkehmgpcmicaa
set_option linter.unusedVariables false
set_option linter.unusedSimpArgs false
open Go.RowKit

/-- A new slice of these bytes, in memory of its own (nil, if it was). -/
def ClonePost (xs : List Nat) (w : World) (e : Ending) (w' : World) : Prop :=
  ∃ A c, e = .returned (.slice A xs.length c) ∧ w'.ownsRow w.heap.size 5 1 (.slice A xs.length c) xs.length (ints .u8 xs) ∧ Below w.heap.size w w'
theorem row_form {w : World} {B : Nat} {e : TypeId} {k : IntKind} {v : Value} {n : Nat} {xs : List Nat} (h : w.ownsRow B e 1 v n (ints k xs)) : ∃ A c, v = .slice A n c ∧ n = xs.length ∧ n ≤ c ∧ c ≤ maxLen ∧ Rd k w A xs := by
  obtain ⟨A, c, h1, h2, h3, h4, h5⟩ := Own.of_row h
  exact ⟨A, c, h1, h2, h3, h4, h5.rd⟩
theorem info_u8' : (Try.prog.info? 5).map (fun i => (i.zero, i.size, i.bytes)) = some (some (.int .u8 0), 1, 1) := info_u8
set_option maxHeartbeats 400000 in
theorem clone_any (A : Option Addr) (n c : Nat) (xs : List Nat) (w : World) (hn : n = xs.length) (hl : n ≤ 1099511627776) (hx : Rd .u8 w A xs) :
    Calls Try.prog 27 #[.slice A n c] w (ClonePost xs w) := by
  subst hn
  rcases A with _ | ad
  · have h0 : xs = [] := by
      rcases hx with h | ⟨b, o, h, _⟩
      · exact h
      · cases h
    subst h0
    have hq := fun w => Lib.run_eql_slice_nil (P := Try.prog) w 22 5 none 0 c 0 0 Try.underlying22
    go_enter Try.func27, Try.ntmps27
    go_wp2_with fail
    go_ret
    exact ⟨none, 0, rfl, World.ownsRow_nil _ _ _ _, Below.refl _ _⟩
  · have hq := fun w => Lib.run_eql_slice_nil (P := Try.prog) w 22 5 (some ad) xs.length c 0 0 Try.underlying22
    go_enter Try.func27, Try.ntmps27
    go_wp2_with (at_builtin; refine wpList_append_ints _ rfl (.tmp 5) (.tmp 6) _ rfl w.heap.size 5 .u8 1 Try.underlying22 info_u8 _ 0 [] rfl (World.ownsRow_made w #[] 0 (Nat.le_refl _) (Nat.zero_le _) rfl) _ _ _ xs rfl rfl (hx.alloc _) ?_ ?_ ?_ ?_)
    · simp only [maxLen]; omega
    · omega
    · simp
    · intro v' w1 hown hgrow _
      obtain ⟨A', c', rfl, _⟩ := row_form hown
      go_wp2_with fail
      go_ret
      exact ⟨A', c', rfl, hown, below_only ((Below.refl _ _).alloc (Nat.le_refl _) _) (show (w.alloc _).grownBy w1 (some w.heap.size) from hgrow) (by simp) (Nat.le_refl _)⟩

/-! ### States -/
/-- A state that New has made: so many bytes have been written. -/
def MstN (w : World) (g : Nat) (v : Value) (m : List Nat) (z : Nat) : Prop :=
  Cut w g 0 [.bool true] ∧ Cut w g 1 (ints .u32 K64) ∧ Cut w g 65 (ints .u32 (hashed m)) ∧ Cut w g 73 [v, .int .u64 (z : Int)] ∧ w.ownsRow 0 5 1 v (m.length % 64) (ints .u8 (left m)) ∧ v.ownBlock ≠ some g ∧ Lim 256 m ∧ m.length ≤ 2199023255552 ∧ z ≤ m.length
/-- A state of noughts. -/
def Zst (w : World) (g : Nat) : Prop := ∃ ks hs, Cut w g 0 [.bool false] ∧ Cut w g 1 (ints .u32 ks) ∧ Cut w g 65 (ints .u32 hs) ∧ Cut w g 73 [.slice none 0 0, .int .u64 0] ∧ ks.length = 64 ∧ hs.length = 8
def StN (w : World) (g : Nat) (v : Value) (m : List Nat) (z : Nat) : Prop := MstN w g v m z ∨ (Zst w g ∧ v = .slice none 0 0 ∧ m = [] ∧ z = 0)
theorem MstN.keep {w w' : World} {g : Nat} {v : Value} {m : List Nat} {z : Nat} (h : MstN w g v m z) (hs : w.heap.size ≤ w'.heap.size) (hg : w'.heap[g]? = w.heap[g]?) (hv : ∀ j, v.ownBlock = some j → w'.heap[j]? = w.heap[j]?) : MstN w' g v m z := by
  obtain ⟨h0, h1, h2, h3, h4, h5⟩ := h
  refine ⟨h0.keep hs hg, h1.keep hs hg, h2.keep hs hg, h3.keep hs hg, ⟨h4.1, ?_⟩, h5⟩
  rcases h4.2 with hn | ⟨b, cap, cur, rfl, hb, hgg, rest⟩
  · exact .inl hn
  · exact .inr ⟨b, cap, cur, rfl, hb, (hv b rfl).trans hgg, rest⟩
theorem Zst.keep {w w' : World} {g : Nat} (h : Zst w g) (hs : w.heap.size ≤ w'.heap.size) (hg : w'.heap[g]? = w.heap[g]?) : Zst w' g := by
  obtain ⟨ks, hs', h0, h1, h2, h3, h4⟩ := h
  exact ⟨ks, hs', h0.keep hs hg, h1.keep hs hg, h2.keep hs hg, h3.keep hs hg, h4⟩
theorem StN.keep {w w' : World} {g : Nat} {v : Value} {m : List Nat} {z : Nat} (h : StN w g v m z) (hs : w.heap.size ≤ w'.heap.size) (hg : w'.heap[g]? = w.heap[g]?) (hv : ∀ j, v.ownBlock = some j → w'.heap[j]? = w.heap[j]?) : StN w' g v m z := by
  rcases h with h | ⟨h, h1⟩
  · exact .inl (h.keep hs hg hv)
  · exact .inr ⟨h.keep hs hg, h1⟩
theorem MstN.lt {w : World} {g : Nat} {v : Value} {m : List Nat} {z : Nat} (h : MstN w g v m z) : g < w.heap.size := h.1.lt
theorem StN.lt {w : World} {g : Nat} {v : Value} {m : List Nat} {z : Nat} (h : StN w g v m z) : g < w.heap.size := by
  rcases h with h | ⟨⟨ks, hs, h0, _⟩, _⟩
  · exact h.lt
  · exact h0.lt
theorem StN.own_lt {w : World} {g : Nat} {v : Value} {m : List Nat} {z : Nat} (h : StN w g v m z) : ∀ j, v.ownBlock = some j → j < w.heap.size := by
  rcases h with h | ⟨_, rfl, _, _⟩
  · exact fun j hj => (h.2.2.2.2.1.lt j hj).2
  · intro j hj
    cases hj
theorem StN.own_ne {w : World} {g : Nat} {v : Value} {m : List Nat} {z : Nat} (h : StN w g v m z) : v.ownBlock ≠ some g := by
  rcases h with h | ⟨_, rfl, _, _⟩
  · exact h.2.2.2.2.2.1
  · intro h; cases h
theorem StN.below {w w' : World} {g : Nat} {v : Value} {m : List Nat} {z : Nat} (h : StN w g v m z) (hb : Below w.heap.size w w') : StN w' g v m z :=
  h.keep hb.size (hb.block g h.lt) fun j hj => hb.block j (h.own_lt j hj)
def Mst (w : World) (g : Nat) (v : Value) (m : List Nat) : Prop := MstN w g v m m.length
def St (w : World) (g : Nat) (v : Value) (m : List Nat) : Prop := StN w g v m m.length
theorem St.of_mst {w : World} {g : Nat} {v : Value} {m : List Nat} (h : Mst w g v m) : St w g v m := .inl h
theorem St.zero {w : World} {g : Nat} (h : Zst w g) : St w g (.slice none 0 0) [] := .inr ⟨h, rfl, rfl, rfl⟩
theorem cut_parts {w : World} {g : Nat} {t : TypeId} {C : List Value} (pre vs post : List Value) (h : w.heap[g]? = some (.cells C.toArray t (0, 0))) (hC : C = pre ++ vs ++ post) : Cut w g pre.length vs := by
  subst hC
  refine Cut.of_heap h fun i v hv => ?_
  have hi : i < vs.length := (List.getElem?_eq_some_iff.1 hv).1
  rw [List.getElem?_toArray, List.append_assoc, List.getElem?_append_right (by omega), Nat.add_sub_cancel_left, List.getElem?_append_left hi]
  exact hv
theorem wpList_build0 {P : Program} {ops : Array Oper} {rest : List Oper} {o : Oper} {a : Act} {w : World} {Q : Exit → Act → World → Prop} (hg : o.guard = none) (t : TypeId) (ho : o.op = .build t #[]) (C : Array Value) (hC : P.built t [] = some C)
    (h : wpList P ops Q rest (a.put o.dst (.agg C)) w) : wpList P ops Q (o :: rest) a w :=
  wpList_build hg t #[] ho (by simp [hC]) (by simpa [hC] using h)
def zeroCells : List Value := [.bool false] ++ ints .u32 (List.replicate 64 0) ++ ints .u32 (List.replicate 8 0) ++ [.slice none 0 0, .int .u64 0]
theorem zst_new (w : World) (t : TypeId) (C : Array Value) (h : C = zeroCells.toArray) : Zst (w.alloc (.cells C t)) w.heap.size := by
  subst h
  have h := heap_alloc_new w (.cells zeroCells.toArray t)
  refine ⟨List.replicate 64 0, List.replicate 8 0, ?_, ?_, ?_, ?_, by simp, by simp⟩
  · exact cut_parts [] [.bool false] (ints .u32 (List.replicate 64 0) ++ ints .u32 (List.replicate 8 0) ++ [.slice none 0 0, .int .u64 0]) h (by unfold zeroCells; simp only [List.append_assoc, List.nil_append])
  · exact cut_parts [.bool false] (ints .u32 (List.replicate 64 0)) (ints .u32 (List.replicate 8 0) ++ [.slice none 0 0, .int .u64 0]) h (by unfold zeroCells; simp only [List.append_assoc])
  · have h9 := cut_parts ([.bool false] ++ ints .u32 (List.replicate 64 0)) (ints .u32 (List.replicate 8 0)) [.slice none 0 0, .int .u64 0] h rfl
    rwa [show ([Value.bool false] ++ ints .u32 (List.replicate 64 0)).length = 65 from rfl] at h9
  · have h9 := cut_parts ([.bool false] ++ ints .u32 (List.replicate 64 0) ++ ints .u32 (List.replicate 8 0)) [.slice none 0 0, .int .u64 0] [] h (by unfold zeroCells; simp only [List.append_nil])
    rwa [show ([Value.bool false] ++ ints .u32 (List.replicate 64 0) ++ ints .u32 (List.replicate 8 0)).length = 73 from rfl] at h9
theorem built_state : Try.prog.built 37 [] = some zeroCells.toArray := by kernel_rfl

/-- make makes a state of any state. -/
def MadePost (g : Nat) (v : Value) (m : List Nat) (z : Nat) (w : World) (e : Ending) (w' : World) : Prop := e = .returned (.tuple #[]) ∧ MstN w' g v m z ∧ w.grownBy w' (some g)
set_option maxHeartbeats 400000 in
theorem made_any (g : Nat) (v : Value) (m : List Nat) (z : Nat) (w : World) (h : StN w g v m z) : Calls Try.prog 26 #[.pointer (some ⟨g, 0, none⟩)] w (MadePost g v m z w) := by
  rcases h with h | ⟨⟨ks, hs, h0, h1, h2, h3, h4, h5⟩, rfl, rfl, rfl⟩
  · have hc := h.1.cell (i := 0) rfl
    have H := Lib.hid h
    clear h
    go_enter Try.func26, Try.ntmps26
    go_wp2_with fail
    go_end0
    exact ⟨rfl, H.out, only_refl _ _⟩
  · refine (make_any g ks hs _ w h0 h1 h2 h3 h4 h5).mono ?_
    rintro e w' ⟨rfl, k0, k1, k2, k3, k4⟩
    exact ⟨rfl, ⟨k0, k1, k2, k3, World.ownsRow_nil _ _ _ _, (by intro h; cases h), Lim.nil _, (by simp), Nat.le_refl _⟩, k4⟩

def NewPost (w : World) (e : Ending) (w' : World) : Prop := ∃ g v, e = .returned (.pointer (some ⟨g, 0, none⟩)) ∧ w.heap.size ≤ g ∧ v = .slice none 0 0 ∧ Mst w' g v [] ∧ Below w.heap.size w w'
set_option maxRecDepth 100000 in
set_option maxHeartbeats 800000 in
theorem new_any (w : World) : Calls Try.prog 17 #[] w (NewPost w) := by
  obtain ⟨C, hC, hZ⟩ : ∃ C, Try.prog.built 37 [] = some C ∧ Zst (w.alloc (.cells C 37)) w.heap.size := ⟨_, built_state, zst_new w _ _ rfl⟩
  go_enter Try.func17, Try.ntmps17
  go_wp2_with (refine wpList_build0 rfl 37 rfl C hC ?_)
  refine (made_any _ (.slice none 0 0) [] 0 _ (.inr ⟨hZ, rfl, rfl, rfl⟩)).mono ?_
  rintro e w1 ⟨rfl, h1, h2⟩
  go_wp2_with fail
  go_ret
  exact ⟨w.heap.size, _, rfl, Nat.le_refl _, rfl, h1, below_only ((Below.refl _ _).alloc (Nat.le_refl _) _) h2 (by simp) (Nat.le_refl _)⟩
end Go.Proofs.Ytmbkehmgpcmicaa
