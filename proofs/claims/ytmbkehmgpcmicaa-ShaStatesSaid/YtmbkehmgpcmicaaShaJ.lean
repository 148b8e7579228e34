/-
  The sum of a state (Sum), in the program: the walk.
-/
import Derived.Test.YtmbkehmgpcmicaaShaI
namespace Go.Proofs.Ytmbkehmgpcmicaa
set_option linter.unusedVariables false
set_option linter.unusedSimpArgs false
open Go.RowKit

theorem zero_32u8 : (Try.prog.info? 25).map (fun i => i.zero) = some (some (.agg (ints .u8 (List.replicate 32 0)).toArray)) := by kernel_rfl
theorem size_32u8 : (Try.prog.info? 25).map (·.size) = some 32 := by kernel_rfl
theorem zero_state : (Try.prog.info? 37).map (fun i => i.zero) = some (some (.agg zeroCells.toArray)) := by kernel_rfl
theorem size_state : (Try.prog.info? 37).map (·.size) = some 75 := by kernel_rfl
theorem stateCells_length {ks hv : List Nat} {s : Value} (hk : ks.length = 64) (h8 : hv.length = 8) : (stateCells ks hv s).length = 75 := by simp [stateCells, ints_length, hk, h8]
theorem stateCells_one {ks hv : List Nat} {s : Value} (hs : s.oneCell' = true) : ∀ v ∈ stateCells ks hv s, v.oneCell' = true := by
  intro v hv'
  simp only [stateCells, List.mem_append, List.mem_cons, List.not_mem_nil, or_false] at hv'
  rcases hv' with ((rfl | h) | h) | rfl | rfl
  · rfl
  · exact ints_one _ _ v h
  · exact ints_one _ _ v h
  · exact hs
  · rfl
theorem own_mono {w : World} {B B' : Nat} {e : TypeId} {v : Value} {n : Nat} {xs : List Value} (h : w.ownsRow B e 1 v n xs) (hB : B' ≤ B) : w.ownsRow B' e 1 v n xs := by
  refine ⟨h.1, ?_⟩
  rcases h.2 with h | ⟨g, cap, cur, h1, h0, h2⟩
  · exact .inl h
  · exact .inr ⟨g, cap, cur, h1, Nat.le_trans hB h0, h2⟩
theorem own_below {w w' : World} {B : Nat} {e : TypeId} {v : Value} {n : Nat} {xs : List Value} (h : w.ownsRow B e 1 v n xs) (hb : Below w.heap.size w w') : w'.ownsRow B e 1 v n xs := by
  refine h.kept (only_of_below hb none) ?_
  cases v.ownBlock with
  | none => exact .inl rfl
  | some x => exact .inr (by simp)
theorem own_lit (w : World) (x : Nat) (e : TypeId) : (w.alloc (.cells #[.int .u8 (x : Int)] e)).ownsRow w.heap.size e 1 (.slice (some ⟨w.heap.size, 0, none⟩) 1 1) 1 (ints .u8 (x :: List.replicate 0 0)) :=
  ⟨rfl, .inr ⟨w.heap.size, 1, _, rfl, Nat.le_refl _, heap_alloc_new w _, Nat.le_refl _, by simp [maxLen], rfl, rfl⟩⟩
theorem be64_succ {n i y : Nat} (hi : i < 8) (hy : y = n / 2 ^ (56 - 8 * i) % 256) : (be64 n).take i ++ [y] = (be64 n).take (i + 1) := by
  have h : (be64 n)[i]? = some y := by rw [be64, List.getElem?_map, List.getElem?_range hi, hy]; rfl
  rw [List.take_add_one, h]
  rfl
theorem padding_lim (n : Nat) : Lim 256 (padding n) := by
  intro x hx
  simp only [padding, be64, List.mem_append, List.mem_cons, List.mem_replicate, List.mem_map] at hx
  rcases hx with (rfl | ⟨_, rfl⟩) | ⟨i, _, rfl⟩
  · decide
  · decide
  · exact Nat.mod_lt _ (by decide)
theorem MstN.below' {w w' : World} {g : Nat} {v : Value} {m : List Nat} {z : Nat} (h : MstN w g v m z) (hb : Below w.heap.size w w') : MstN w' g v m z :=
  h.keep hb.size (hb.block g h.1.lt) fun j hj => hb.block j (h.2.2.2.2.1.lt j hj).2
def outTo (h : List Nat) (i : Nat) : List Nat := (List.range i).map fun i => h.getD (i / 4) 0 / 2 ^ (24 - 8 * (i % 4)) % 256
theorem outTo_length (h : List Nat) (i : Nat) : (outTo h i).length = i := by simp [outTo]
theorem outTo_succ (h : List Nat) (i : Nat) : outTo h (i + 1) = outTo h i ++ [h.getD (i / 4) 0 / 2 ^ (24 - 8 * (i % 4)) % 256] := by simp [outTo, List.range_succ]
theorem mst_far {w : World} {g x : Nat} {v : Value} {m : List Nat} {z : Nat} (h : MstN w g v m z) (hg : g ≠ x) (hv : ∀ j, v.ownBlock = some j → j < x) (i : Nat) (u : Value) : MstN (w.setCell ⟨x, i, none⟩ u) g v m z :=
  h.keep (by simp) (Below.heap_setCell w ⟨x, i, none⟩ u g hg) fun j hj => Below.heap_setCell w ⟨x, i, none⟩ u j (by have := hv j hj; show j ≠ x; omega)
theorem mst_grown {w w' : World} {g x : Nat} {v : Value} {m : List Nat} {z : Nat} (h : MstN w g v m z) (hw : w.grownBy w' (some x)) (hg : g ≠ x) (hv : ∀ j, v.ownBlock = some j → j < x) : MstN w' g v m z :=
  h.keep hw.size (hw.block g h.1.lt (by simpa using hg)) fun j hj => hw.block j (h.2.2.2.2.1.lt j hj).2 (by have := hv j hj; simp; omega)
theorem grown_new {a b c : World} {g x : Nat} (h : a.grownBy b (some g)) (k : b.grownBy c (some x)) (hx : a.heap.size ≤ x) : a.grownBy c (some g) :=
  ⟨k.os.trans h.os, k.tape.trans h.tape, k.output.trans h.output, Nat.le_trans h.size k.size, fun i hi hn => (k.block i (Nat.lt_of_lt_of_le hi h.size) (by simp; omega)).trans (h.block i hi hn)⟩
theorem mkS2 {w1 w' : World} {g : Nat} {k h : List Value} {v n : Value} (h1 : Cut w1 g 1 k) (h2 : Cut w1 g 65 h) (h3 : Cut w1 g 73 [v, n]) (hb : Below w1.heap.size w1 w') :
    Below w1.heap.size w1 w' ∧ w'.rangeAt g 1 k ∧ w'.rangeAt g 65 h ∧ w'.cell? ⟨g, 73, none⟩ = some v := ⟨hb, (h1.below hb).range, (h2.below hb).range, (h3.below hb).cell (i := 0) rfl⟩
theorem yields_build {P : Program} {o : Oper} {a : Act} {C : Array Value} (t : TypeId) (parts : Array (Nat × Operand)) (ho : o.op = .build t parts) (L : List (Nat × Value)) (hL : parts.toList.map (fun x => (x.1, a.eval x.2)) = L) (hC : P.built t L = some C) (w : World) :
    (execOp a.eval o).run P w = .ok (.value (.agg C)) w := by
  have h : P.built t (parts.map fun (i, x) => (i, a.eval x)).toList = some C := by rw [Array.toList_map]; rw [← hL] at hC; exact hC
  unfold execOp
  simp only [ho, Sem.run_bind, run_build w t _ C h, Result.andThen_ok]
  rfl
section
variable {P : Program} {ops : Array Oper} {o : Oper} {a : Act} {w : World} {K : Act → World → Prop} {Q : Exit → Act → World → Prop} {E : Prop}
/-- A new variable of whatever cells. -/
theorem step_alloc_cells (hgd : o.guard = none) (ty : TypeId) (ho : o.op = .alloc ty) (C : List Value) (hz : (P.info? ty).map (fun i => i.zero) = some (some (.agg C.toArray)))
    (h : ∀ g w', Hid (g = w.heap.size) → Cut w' g 0 C → w'.heap.size = w.heap.size + 1 → Below w.heap.size w w' → K (a.put o.dst (.pointer (some ⟨g, 0, none⟩))) w') :
    if Region.wanted o (yielded ops a.tmps) = true then Oper.wp P o a w K Q else E := by
  have hw : Region.wanted o (yielded ops a.tmps) = true := by simp [Region.wanted, hgd]
  rw [if_pos hw]
  obtain ⟨i, hi, hzz⟩ := Option.map_eq_some_iff.1 hz
  have hzero : (zeroValue ty).run P w = .ok (.agg C.toArray) w := by simp [zeroValue, typeInfo, hi, hzz]
  unfold Oper.wp execOp
  simp only [ho, Instr.alloc, Sem.run_bind, Sem.run_pure, hzero, Result.andThen, newVar, run_newObj_alloc]
  exact h w.heap.size _ rfl (cut_parts [] C [] (heap_alloc_new w _) (by simp)) (by simp) ((Below.refl _ _).alloc (Nat.le_refl _) _)
end
/-- Out of the cells of a state. -/
theorem mst_cells {w : World} {g : Nat} {m : List Nat} {v : Value} (h : Cut w g 0 (stateCells K64 (hashed m) v)) : Cut w g 0 [.bool true] ∧ Cut w g 1 (ints .u32 K64) ∧ Cut w g 65 (ints .u32 (hashed m)) ∧ Cut w g 73 [v, .int .u64 0] := by
  have sub : ∀ (pre vs post : List Value), stateCells K64 (hashed m) v = pre ++ vs ++ post → Cut w g pre.length vs := fun pre vs post e => ⟨h.lt, fun i u hu => by
    have hi : i < vs.length := (List.getElem?_eq_some_iff.1 hu).1
    have := h.2 (pre.length + i) u (by rw [e, List.append_assoc, List.getElem?_append_right (by omega), Nat.add_sub_cancel_left, List.getElem?_append_left hi]; exact hu)
    rwa [Nat.zero_add] at this⟩
  have a := sub [] [.bool true] (ints .u32 K64 ++ ints .u32 (hashed m) ++ [v, .int .u64 0]) (by simp only [stateCells, List.append_assoc, List.nil_append])
  have b := sub [.bool true] (ints .u32 K64) (ints .u32 (hashed m) ++ [v, .int .u64 0]) (by simp only [stateCells, List.append_assoc])
  have c := sub ([.bool true] ++ ints .u32 K64) (ints .u32 (hashed m)) [v, .int .u64 0] rfl
  have d := sub ([.bool true] ++ ints .u32 K64 ++ ints .u32 (hashed m)) [v, .int .u64 0] [] (by simp only [stateCells, List.append_nil])
  rw [List.length_append, ints_length, K64_length] at c
  rw [List.length_append, List.length_append, ints_length, ints_length, K64_length, (hashed_ok m).1] at d
  exact ⟨a, b, c, d⟩

def SumPost (g : Nat) (v : Value) (m : List Nat) (w : World) (e : Ending) (w' : World) : Prop :=
  e = .returned (.agg (ints .u8 (digest m)).toArray) ∧ Mst w' g v m ∧ w.grownBy w' (some g)

set_option maxRecDepth 100000 in
set_option maxHeartbeats 3200000 in
theorem stateSum_any (g : Nat) (v : Value) (m : List Nat) (w : World) (hs : St w g v m) (hml : m.length ≤ 1099511627776) :
    Calls Try.prog 18 #[.pointer (some ⟨g, 0, none⟩)] w (SumPost g v m w) := by
  go_enter Try.func18, Try.ntmps18
  go_wp2_with fail
  have hw2 : Whl .u8 25 (w.alloc (.cells (ints .u8 (List.replicate 32 0)).toArray 25)) w.heap.size (List.replicate 32 0) := whl_new0 w _
  have hba : Below w.heap.size w (w.alloc (.cells (ints .u8 (List.replicate 32 0)).toArray 25)) := (Below.refl _ _).alloc (Nat.le_refl _) _
  have hsa := StN.below hs hba
  have hglt : g < w.heap.size := StN.lt hs
  change Calls _ _ _ (w.alloc (.cells (ints .u8 (List.replicate 32 0)).toArray 25)) _
  generalize w.alloc (.cells (ints .u8 (List.replicate 32 0)).toArray 25) = wa at *
  refine (made_any g v m m.length _ hsa).mono ?_
  rintro e w1 ⟨rfl, hst, hg1⟩
  replace hw2 := hw2.grown hg1 (by simp; omega)
  have hgr : w.grownBy w1 (some g) := only_trans (only_of_below hba _) hg1
  have hsz1 : w.heap.size < w1.heap.size := Nat.lt_of_lt_of_le hw2.lt (Nat.le_refl _)
  have hvlt0 : ∀ j, v.ownBlock = some j → j < w.heap.size := StN.own_lt hs
  clear hs hsa hba hg1
  have HST := Lib.hid hst
  have hvlt : ∀ j, v.ownBlock = some j → j < w.heap.size := hvlt0
  obtain ⟨h0, h1, h2, h3, h4, h5, h6, h7, _⟩ := hst
  obtain ⟨A0, c0, rfl, hr, hrc, hcm, hrd⟩ := row_form h4
  obtain ⟨r, hrr⟩ : ∃ r, r = m.length % 64 := ⟨_, rfl⟩
  have q1 : w1.cell? ⟨g, 73, none⟩ = some (.slice A0 (m.length % 64) c0) := h3.cell (i := 0) rfl
  rw [← hrr] at q1 hr hrc h3 h4 h5
  have HR := Lib.hid hr
  have HRR := Lib.hid hrr
  have hrl : r < 64 := by omega
  obtain ⟨KK, hKK⟩ : ∃ KK, KK = K64 := ⟨_, rfl⟩
  have hK64 := Lib.hid (show KK.length = 64 by rw [hKK, K64_length])
  rw [← hKK] at h1
  have HKK := Lib.hid hKK
  obtain ⟨hv, hhv⟩ : ∃ hv, hv = hashed m := ⟨_, rfl⟩
  have hv8 := Lib.hid (show hv.length = 8 by rw [hhv]; exact (hashed_ok m).1)
  rw [← hhv] at h2
  have HHV := Lib.hid hhv
  obtain ⟨lf, hlf⟩ : ∃ lf, lf = left m := ⟨_, rfl⟩
  rw [← hlf] at hrd h4
  have hll := Lib.hid (show r = lf.length by rw [hlf]; exact hr)
  have HLF := Lib.hid hlf
  clear hr hrr hKK hhv hlf
  go_upto_region 4 with fail
  go_cut [3] (fun s3 wx => ∃ g3 A c, s3 = .pointer (some ⟨g3, 0, none⟩) ∧ Cut wx g3 0 (stateCells KK hv (.slice A lf.length c)) ∧ wx.ownsRow w1.heap.size 5 1 (.slice A lf.length c) lf.length (ints .u8 lf) ∧ (Value.slice A lf.length c).ownBlock ≠ some g3 ∧ w1.heap.size ≤ g3 ∧ Below w1.heap.size w1 wx)
  case first =>
    refine wp_region_held_drew (S := fun w' => Below w1.heap.size w1 w' ∧ w'.rangeAt g 1 (ints .u32 KK) ∧ w'.rangeAt g 65 (ints .u32 hv) ∧ w'.cell? ⟨g, 73, none⟩ = some (.slice A0 r c0)) (by kernel_rfl) (mkS2 h1 h2 h3 (below_drewN (Below.refl _ _) 1)) (fun hS => ?_)
    have hbd := hS.1
    generalize w1.drew = wd at *
    refine wpAnyH_take (i := 0) (oi := { dst := some 12, op := .move (.tmp 0), type := 30, pos := _, after := _, guard := none }) (v := .pointer (some ⟨g, 0, none⟩)) rfl (by kernel_rfl) (by kernel_rfl) (by kernel_rfl) (fun _ _ _ h => h) (Or.inl ⟨by rfl, fun _ _ => rfl⟩) hS ?_
    try simp only [Act.put, List.setIfInBounds_toArray, List.set_cons_zero, List.set_cons_succ]
    refine wpAnyH_take (i := 1) (oi := { dst := some 13, op := .nilCheck (.tmp 12), type := 0, pos := _, after := _, guard := none }) (v := .pointer (some ⟨g, 0, none⟩)) rfl (by kernel_rfl) (by kernel_rfl) (by kernel_rfl) (fun _ _ _ h => h) (Or.inl ⟨by rfl, fun _ _ => rfl⟩) hS ?_
    try simp only [Act.put, List.setIfInBounds_toArray, List.set_cons_zero, List.set_cons_succ]
    refine wpAnyH_take (i := 2) (oi := { dst := some 14, op := .fieldAddr 37 (.tmp 13) 1, type := 0, pos := _, after := _, guard := none }) (v := .pointer (some ⟨g, 1, none⟩)) rfl (by kernel_rfl) (by kernel_rfl) (by kernel_rfl) (fun _ _ _ h => h) (Or.inl ⟨by rfl, fun w _ => ?_⟩) hS ?_
    · go_simp
    try simp only [Act.put, List.setIfInBounds_toArray, List.set_cons_zero, List.set_cons_succ]
    refine wpAnyH_take (i := 3) (oi := { dst := some 15, op := .load 33 (.tmp 14), type := 33, pos := _, after := _, guard := none }) (v := .agg (ints .u32 KK).toArray) rfl (by kernel_rfl) (by kernel_rfl) (by kernel_rfl) (fun _ _ _ h => h) (yieldsIf_load_mid (by rfl) 33 (.tmp 14) rfl g 1 rfl (ints .u32 KK) _ (fun _ h => h.2.1) Try.underlying33 rfl (by rw [ints_length, hK64.out]; exact size_64u32)) hS ?_
    try simp only [Act.put, List.setIfInBounds_toArray, List.set_cons_zero, List.set_cons_succ]
    refine wpAnyH_take (i := 4) (oi := { dst := some 16, op := .move (.tmp 0), type := 30, pos := _, after := _, guard := none }) (v := .pointer (some ⟨g, 0, none⟩)) rfl (by kernel_rfl) (by kernel_rfl) (by kernel_rfl) (fun _ _ _ h => h) (Or.inl ⟨by rfl, fun _ _ => rfl⟩) hS ?_
    try simp only [Act.put, List.setIfInBounds_toArray, List.set_cons_zero, List.set_cons_succ]
    refine wpAnyH_take (i := 5) (oi := { dst := some 17, op := .nilCheck (.tmp 16), type := 0, pos := _, after := _, guard := none }) (v := .pointer (some ⟨g, 0, none⟩)) rfl (by kernel_rfl) (by kernel_rfl) (by kernel_rfl) (fun _ _ _ h => h) (Or.inl ⟨by rfl, fun _ _ => rfl⟩) hS ?_
    try simp only [Act.put, List.setIfInBounds_toArray, List.set_cons_zero, List.set_cons_succ]
    refine wpAnyH_take (i := 6) (oi := { dst := some 18, op := .fieldAddr 37 (.tmp 17) 2, type := 0, pos := _, after := _, guard := none }) (v := .pointer (some ⟨g, 65, none⟩)) rfl (by kernel_rfl) (by kernel_rfl) (by kernel_rfl) (fun _ _ _ h => h) (Or.inl ⟨by rfl, fun w _ => ?_⟩) hS ?_
    · go_simp
    try simp only [Act.put, List.setIfInBounds_toArray, List.set_cons_zero, List.set_cons_succ]
    refine wpAnyH_take (i := 7) (oi := { dst := some 19, op := .load 34 (.tmp 18), type := 34, pos := _, after := _, guard := none }) (v := .agg (ints .u32 hv).toArray) rfl (by kernel_rfl) (by kernel_rfl) (by kernel_rfl) (fun _ _ _ h => h) (yieldsIf_load_mid (by rfl) 34 (.tmp 18) rfl g 65 rfl (ints .u32 hv) _ (fun _ h => h.2.2.1) Try.underlying34 rfl (by rw [ints_length, hv8.out]; exact size_8u32)) hS ?_
    try simp only [Act.put, List.setIfInBounds_toArray, List.set_cons_zero, List.set_cons_succ]
    refine wpAnyH_take (i := 8) (oi := { dst := some 20, op := .move (.tmp 0), type := 30, pos := _, after := _, guard := none }) (v := .pointer (some ⟨g, 0, none⟩)) rfl (by kernel_rfl) (by kernel_rfl) (by kernel_rfl) (fun _ _ _ h => h) (Or.inl ⟨by rfl, fun _ _ => rfl⟩) hS ?_
    try simp only [Act.put, List.setIfInBounds_toArray, List.set_cons_zero, List.set_cons_succ]
    refine wpAnyH_take (i := 9) (oi := { dst := some 21, op := .nilCheck (.tmp 20), type := 0, pos := _, after := _, guard := none }) (v := .pointer (some ⟨g, 0, none⟩)) rfl (by kernel_rfl) (by kernel_rfl) (by kernel_rfl) (fun _ _ _ h => h) (Or.inl ⟨by rfl, fun _ _ => rfl⟩) hS ?_
    try simp only [Act.put, List.setIfInBounds_toArray, List.set_cons_zero, List.set_cons_succ]
    refine wpAnyH_take (i := 10) (oi := { dst := some 22, op := .fieldAddr 37 (.tmp 21) 3, type := 0, pos := _, after := _, guard := none }) (v := .pointer (some ⟨g, 73, none⟩)) rfl (by kernel_rfl) (by kernel_rfl) (by kernel_rfl) (fun _ _ _ h => h) (Or.inl ⟨by rfl, fun w _ => ?_⟩) hS ?_
    · go_simp
    try simp only [Act.put, List.setIfInBounds_toArray, List.set_cons_zero, List.set_cons_succ]
    refine wpAnyH_take (i := 11) (oi := { dst := some 23, op := .load 22 (.tmp 22), type := 22, pos := _, after := _, guard := none }) (v := .slice A0 r c0) rfl (by kernel_rfl) (by kernel_rfl) (by kernel_rfl) (fun _ _ _ h => h) (Or.inl ⟨by rfl, fun w hSw => ?_⟩) hS ?_
    · obtain ⟨_, _, _, hq⟩ := hSw
      go_simp
    try simp only [Act.put, List.setIfInBounds_toArray, List.set_cons_zero, List.set_cons_succ]
    try simp only [Act.put, List.setIfInBounds_toArray, List.set_cons_zero, List.set_cons_succ]
    refine wpAnyH_ready (rs := [12, 14]) (by kernel_rfl) (by simp) ?_
    refine AllReadyH.cons (o := { dst := some 24, op := .call { callee := .value (.func 27), args := #[.tmp 23], argTypes := #[22] }, type := 22, pos := _, after := _, guard := none }) rfl (fun K hK => ?_) ?_
    · go_simp
      refine (clone_any A0 r c0 lf _ hll.out (by omega) (hrd.below hbd)).mono ?_
      rintro e wc ⟨A4, c4, rfl, hown, hbc⟩
      go_simp
      refine hK.out _ _ (mkS2 h1 h2 h3 (tr1 hbc hbd)) (fun _ => ?_)
      clear hK K
      try simp only [Act.put, List.setIfInBounds_toArray, List.set_cons_zero, List.set_cons_succ]
      refine wpAnyH_take (i := 13) (oi := { dst := some 25, op := .build 37 #[(0, .const (.bool true)), (1, .tmp 15), (2, .tmp 19), (3, .tmp 24)], type := 37, pos := _, after := _, guard := none }) (v := .agg (stateCells KK hv (.slice A4 lf.length c4)).toArray) rfl (by kernel_rfl) (by kernel_rfl) (by kernel_rfl) (fun _ _ _ h => h) (Or.inl ⟨by rfl, fun w _ => yields_build 37 _ rfl _ rfl (built_end KK hv (.slice A4 lf.length c4) hK64.out hv8.out rfl) w⟩) (mkS2 h1 h2 h3 (tr1 hbc hbd)) ?_
      try simp only [Act.put, List.setIfInBounds_toArray, List.set_cons_zero, List.set_cons_succ]
      refine wpAnyH_ready (rs := [14]) (by kernel_rfl) (by simp) ?_
      refine AllReadyH.cons (o := { dst := some 3, op := .alloc 37, type := 0, pos := _, after := _, guard := none }) rfl (fun K hK => ?_) ?_
      rotate_left
      · exact AllReadyH.nil
      refine step_alloc_cells rfl 37 rfl zeroCells zero_state ?_
      intro g3 w5 hg3 hc5 hs5 hb5
      have hk3 : w1.heap.size ≤ g3 := by rw [hg3.out]; exact (tr1 hbc hbd).size
      clear hs5
      refine hK.out _ _ (mkS2 h1 h2 h3 (tr1 hb5 (tr1 hbc hbd))) (fun _ => ?_)
      clear hK K
      try simp only [Act.put, List.setIfInBounds_toArray, List.set_cons_zero, List.set_cons_succ]
      have hne : (Value.slice A4 lf.length c4).ownBlock ≠ some g3 := fun e => by have h8 := (hown.lt g3 e).2; rw [hg3.out] at h8; omega
      refine wpAnyH_ready (rs := [15]) (by kernel_rfl) (by simp) ?_
      refine AllReadyH.cons (o := { dst := none, op := .store 37 (.tmp 3) (.tmp 25), type := 0, pos := _, after := _, guard := none }) rfl (fun K hK => ?_) ?_
      rotate_left
      · exact AllReadyH.nil
      refine step_store_cut rfl 37 (.tmp 3) (.tmp 25) rfl g3 0 (stateCells KK hv (.slice A4 lf.length c4)) zeroCells rfl rfl hc5 (by rw [stateCells_length hK64.out hv8.out]; rfl) (by rw [stateCells_length hK64.out hv8.out]; exact size_state) (stateCells_one rfl) ?_
      intro w6 hst
      refine hK.out _ _ (mkS2 h1 h2 h3 (tr2 hst.1 (tr1 hb5 (tr1 hbc hbd)) hk3)) (fun _ => ?_)
      clear hK K
      try simp only [Act.put, List.setIfInBounds_toArray, List.set_cons_zero, List.set_cons_succ]
      refine wpAnyH_done (by kernel_rfl) ?_ _
      go_wp2_with fail
      go_meet
      exact ⟨g3, A4, c4, rfl, hst.2.2.1, (own_below (own_mono hown hbd.size) hb5).kept hst.1 (Or.inr hne), hne, hk3, tr2 hst.1 (tr1 hb5 (tr1 hbc hbd)) hk3⟩
    refine AllReadyH.cons (o := { dst := some 3, op := .alloc 37, type := 0, pos := _, after := _, guard := none }) rfl (fun K hK => ?_) ?_
    · refine step_alloc_cells rfl 37 rfl zeroCells zero_state ?_
      intro g3 w5 hg3 hc5 hs5 hb5
      have hk3 : w1.heap.size ≤ g3 := by rw [hg3.out]; exact hbd.size
      clear hs5
      refine hK.out _ _ (mkS2 h1 h2 h3 (tr1 hb5 hbd)) (fun _ => ?_)
      clear hK K
      try simp only [Act.put, List.setIfInBounds_toArray, List.set_cons_zero, List.set_cons_succ]
      refine wpAnyH_ready (rs := [12]) (by kernel_rfl) (by simp) ?_
      refine AllReadyH.cons (o := { dst := some 24, op := .call { callee := .value (.func 27), args := #[.tmp 23], argTypes := #[22] }, type := 22, pos := _, after := _, guard := none }) rfl (fun K hK => ?_) ?_
      rotate_left
      · exact AllReadyH.nil
      go_simp
      refine (clone_any A0 r c0 lf _ hll.out (by omega) (hrd.below (tr1 hb5 hbd))).mono ?_
      rintro e wc ⟨A4, c4, rfl, hown, hbc⟩
      go_simp
      refine hK.out _ _ (mkS2 h1 h2 h3 (tr1 hbc (tr1 hb5 hbd))) (fun _ => ?_)
      clear hK K
      try simp only [Act.put, List.setIfInBounds_toArray, List.set_cons_zero, List.set_cons_succ]
      refine wpAnyH_take (i := 13) (oi := { dst := some 25, op := .build 37 #[(0, .const (.bool true)), (1, .tmp 15), (2, .tmp 19), (3, .tmp 24)], type := 37, pos := _, after := _, guard := none }) (v := .agg (stateCells KK hv (.slice A4 lf.length c4)).toArray) rfl (by kernel_rfl) (by kernel_rfl) (by kernel_rfl) (fun _ _ _ h => h) (Or.inl ⟨by rfl, fun w _ => yields_build 37 _ rfl _ rfl (built_end KK hv (.slice A4 lf.length c4) hK64.out hv8.out rfl) w⟩) (mkS2 h1 h2 h3 (tr1 hbc (tr1 hb5 hbd))) ?_
      try simp only [Act.put, List.setIfInBounds_toArray, List.set_cons_zero, List.set_cons_succ]
      have hne : (Value.slice A4 lf.length c4).ownBlock ≠ some g3 := fun e => by have h8 := (hown.lt g3 e).1; have h9 := hc5.lt; omega
      refine wpAnyH_ready (rs := [15]) (by kernel_rfl) (by simp) ?_
      refine AllReadyH.cons (o := { dst := none, op := .store 37 (.tmp 3) (.tmp 25), type := 0, pos := _, after := _, guard := none }) rfl (fun K hK => ?_) ?_
      rotate_left
      · exact AllReadyH.nil
      refine step_store_cut rfl 37 (.tmp 3) (.tmp 25) rfl g3 0 (stateCells KK hv (.slice A4 lf.length c4)) zeroCells rfl rfl (hc5.below hbc) (by rw [stateCells_length hK64.out hv8.out]; rfl) (by rw [stateCells_length hK64.out hv8.out]; exact size_state) (stateCells_one rfl) ?_
      intro w6 hst
      refine hK.out _ _ (mkS2 h1 h2 h3 (tr2 hst.1 (tr1 hbc (tr1 hb5 hbd)) hk3)) (fun _ => ?_)
      clear hK K
      try simp only [Act.put, List.setIfInBounds_toArray, List.set_cons_zero, List.set_cons_succ]
      refine wpAnyH_done (by kernel_rfl) ?_ _
      go_wp2_with fail
      go_meet
      exact ⟨g3, A4, c4, rfl, hst.2.2.1, (own_mono hown (tr1 hb5 hbd).size).kept hst.1 (Or.inr hne), hne, hk3, tr2 hst.1 (tr1 hbc (tr1 hb5 hbd)) hk3⟩
    exact AllReadyH.nil
  case rest =>
    obtain ⟨g3, A4, c4, rfl, hc3, hown, hne, hk3, hbx⟩ := hcut
    have hcc := mst_cells (m := m) (w := wc) (g := g3) (v := .slice A4 lf.length c4) (by rw [← HKK.out, ← HHV.out]; exact hc3)
    have hM : Hid (MstN wc g3 (.slice A4 lf.length c4) m 0) := ⟨hcc.1, hcc.2.1, hcc.2.2.1, hcc.2.2.2, by rw [← HRR.out, hll.out, ← HLF.out]; exact own_mono hown (Nat.zero_le _), hne, h6, h7, Nat.zero_le _⟩
    have hown4 : ∀ j, (Value.slice A4 lf.length c4).ownBlock = some j → w1.heap.size ≤ j := fun j hj => (hown.lt j hj).1
    have hgw1 : g < w1.heap.size := h0.lt
    have hg3w : g3 < wc.heap.size := hc3.lt
    have q1' := (h3.below hbx).cell (i := 0) rfl
    have q2' := (h3.below hbx).cell (i := 1) rfl
    obtain ⟨J, hJ⟩ : ∃ J, J = (119 - r) % 64 := ⟨_, rfl⟩
    have HJ := Lib.hid hJ
    have hJl : J < 64 := by omega
    clear hcc hc3 hown hJ q1 h0 h1 h2
    go_wp2_with fail
    go_loopw [4] (fun s wr => ∃ j p A c, s = .slice A p c ∧ Hid (p = j + 1) ∧ j ≤ J ∧ p ≤ c ∧ c ≤ maxLen ∧ wr.ownsRow wc.heap.size 5 1 (.slice A p c) p (ints .u8 (128 :: List.replicate j 0)) ∧ Below wc.heap.size wc wr) (fun s _ => 65 - sliceLen s)
    case atStart => exact ⟨0, 1, _, 1, rfl, rfl, Nat.zero_le _, Nat.le_refl _, by simp [maxLen], own_lit wc 128 5, (Below.refl _ _).alloc (Nat.le_refl _) _⟩
    case round =>
      obtain ⟨j, p, A, c, rfl, hp, hj, hpc, hcmx, howr, hbr⟩ := hrel
      have hp1 : p = j + 1 := hp.out
      have hpl : p < 65 := by omega
      have q1 : wr.cell? ⟨g, 73, none⟩ = some (.slice A0 r c0) := ((h3.below hbx).below hbr).cell (i := 0) rfl
      by_cases hlt : j < J
      · have hz1 : (((r : Int) + (p : Int)) % 64 == 56) = false := by have := HJ.out; simp; omega
        have hz2 : (((r : Int) + (p : Int)) % 64 != 56) = true := by have := HJ.out; simp; omega
        clear hp1
        go_wp2_with (at_builtin; refine wpList_append_ints _ rfl (.tmp 37) (.tmp 38) _ rfl wc.heap.size 5 .u8 1 Try.underlying22 info_u8 (.slice A p c) p (128 :: List.replicate j 0) rfl (howr.alloc _) _ 1 1 [0] rfl rfl (Rd.of_all (blk_lit wr [0] _ rfl)) (by simp only [maxLen]; omega) (by omega) (by have := hbr.size; simp; omega) ?_; intro v5 w5 hown5 hgrow5 _)
        obtain ⟨A5, c5, rfl, _, hpc5, hcm5, _⟩ := row_form2 hown5
        have hbr5 : Below wc.heap.size wc w5 := (hbr.alloc hbr.size _).grown hgrow5 (by have := hbr.size; simp; omega) (fun k hk => (howr.lt k hk).1)
        clear hz1 hz2
        go_wp2_with fail
        go_roundw
        case rel =>
          refine ⟨j + 1, p + 1, A5, c5, rfl, by rw [hp.out]; rfl, hlt, hpc5, hcm5, ?_, hbr5⟩
          rw [show 128 :: List.replicate (j + 1) 0 = 128 :: List.replicate j 0 ++ [0] by rw [List.replicate_succ']; rfl]
          exact hown5
        case measure => show 65 - (p + 1) < 65 - p; omega
      · obtain rfl : j = J := by omega
        have hz1 : (((r : Int) + (p : Int)) % 64 == 56) = true := by have := HJ.out; simp; omega
        have hz2 : (((r : Int) + (p : Int)) % 64 != 56) = false := by have := HJ.out; simp; omega
        clear hp1
        go_wp2_with fail
        obtain ⟨L1, hL1⟩ : ∃ L1, L1 = 128 :: List.replicate j 0 := ⟨_, rfl⟩
        rw [← hL1] at howr
        have hpL := Lib.hid (show p = L1.length by rw [hL1, hp.out]; simp)
        have HL1 := Lib.hid hL1
        clear hL1 hz1 hz2
        go_loopw [4, 40] (fun s u wr => ∃ i p A c, s = .slice A p c ∧ u = .int .i64 ((i : Nat) : Int) ∧ i ≤ 8 ∧ Hid (p = L1.length + i) ∧ p ≤ c ∧ c ≤ maxLen ∧ wr.ownsRow wc.heap.size 5 1 (.slice A p c) p (ints .u8 (L1 ++ (be64 (8 * m.length % 18446744073709551616)).take i)) ∧ Below wc.heap.size wc wr) (fun s u _ => 8 - (intOf u).toNat)
        case atStart => exact ⟨0, p, A, c, rfl, rfl, Nat.zero_le _, hpL.out, hpc, hcmx, by simpa using howr, hbr⟩
        case round =>
          clear howr hbr q1 hpc hcmx
          obtain ⟨i, p2, A2, c2, rfl, rfl, hi, hp2, hpc, hcmx, howr, hbr⟩ := hrel
          have q2 : wr.cell? ⟨g, 74, none⟩ = some (.int .u64 ((m.length : Nat) : Int)) := ((h3.below hbx).below hbr).cell (i := 1) rfl
          have hp2l : p2 < 80 := by have := hp2.out; have := hpL.out; omega
          by_cases hlt8 : i < 8
          · obtain ⟨y, hy⟩ : ∃ y, y = 8 * m.length / 2 ^ (56 - 8 * i) % 256 := ⟨_, rfl⟩
            have hv := Lib.hid (show ((y : Nat) : Int) = 8 * (m.length : Int) / 2 ^ (56 - 8 * i) % 256 by rw [hy]; push_cast; rfl)
            have hbt := Lib.hid (be64_succ (n := 8 * m.length % 18446744073709551616) (y := y) hlt8 (by rw [hy, Nat.mod_eq_of_lt (show 8 * m.length < 18446744073709551616 by omega)]))
            clear hy
            go_wp2_with (at_builtin; refine wpList_append_ints _ rfl (.tmp 43) (.tmp 54) _ rfl wc.heap.size 5 .u8 1 Try.underlying22 info_u8 (.slice A2 p2 c2) p2 (L1 ++ (be64 (8 * m.length % 18446744073709551616)).take i) rfl (howr.alloc _) _ 1 1 [y] rfl rfl (Rd.of_all (blk_lit wr [y] _ (by rw [← hv.out]; rfl))) (by simp only [maxLen]; omega) (by omega) (by have := hbr.size; simp; omega) ?_; intro v5 w5 hown5 hgrow5 _)
            obtain ⟨A5, c5, rfl, _, hpc5, hcm5, _⟩ := row_form2 hown5
            have hbr5 : Below wc.heap.size wc w5 := (hbr.alloc hbr.size _).grown hgrow5 (by have := hbr.size; simp; omega) (fun k hk => (howr.lt k hk).1)
            rw [List.append_assoc, hbt.out] at hown5
            go_wp2_with fail
            go_roundw
            case rel => exact ⟨i + 1, p2 + 1, A5, c5, rfl, by go_num, hlt8, by show p2 + 1 = L1.length + (i + 1); have := hp2.out; omega, hpc5, hcm5, hown5, hbr5⟩
            case measure => simp [intOf]; omega
          · have hi8 : i = 8 := by omega
            have hpad := Lib.hid (show L1 ++ (be64 (8 * m.length % 18446744073709551616)).take i = padding m.length by rw [hi8, HL1.out, padding, HJ.out, HRR.out]; rfl)
            rw [hpad.out] at howr
            have hplen := Lib.hid (show p2 = (padding m.length).length by rw [← hpad.out, List.length_append, hp2.out]; simp [be64]; omega)
            have hge8 : ((i : Int) < 8) = False := by simp; omega
            obtain ⟨A3, c3, he3, hA3, _, _, hrd3⟩ := row_form2 howr
            injection he3 with he3 _ he4
            subst he3
            subst he4
            have hoff3 : Off A2 (padding m.length) g3 := by
              rcases hA3 with rfl | ⟨b, rfl⟩
              · exact .inr fun ad h => by cases h
              · exact .inr fun ad h => by
                  injection h with h
                  subst h
                  have := (howr.lt b rfl).1
                  show b ≠ g3
                  omega
            have hlim3 : Lim 256 (padding m.length) := padding_lim _
            have hM3 := hM.out.below' hbr
            have hpb : (padding m.length).length < 80 := by rw [← hplen.out]; exact hp2l
            clear hi8
            go_wp2_with fail
            refine (write_any g3 (.slice A4 lf.length c4) A2 p2 c2 m (padding m.length) 0 _ (.inl hM3) hplen.out hrd3 hlim3 hoff3 (by omega)).mono ?_
            rintro e w6 ⟨rfl, v6, hM6, hbut6, _⟩
            go_wp2_with fail
            have hbA : Below w1.heap.size w1 w6 := But.below (hbx.trans (hbr.mono hbx.size)) hbut6 (Nat.le_trans hbx.size hbr.size) (by
              intro k hk
              rcases hk with rfl | hk
              · exact hk3
              · exact hown4 k hk)
            have hC65 := hM6.2.2.1
            obtain ⟨HH, hHH⟩ : ∃ HH, HH = hashed (m ++ padding m.length) := ⟨_, rfl⟩
            have hH8 := Lib.hid (show HH.length = 8 by rw [hHH]; exact (hashed_ok _).1)
            have hHl : Lim 4294967296 HH := by rw [hHH]; exact (hashed_ok _).2
            rw [← hHH] at hC65
            have HHD := Lib.hid (show digest m = outTo HH 32 by rw [digest_eq, hHH]; rfl)
            have hMs : MstN w6 g (.slice A0 (m.length % 64) c0) m m.length := HST.out.below' hbA
            have hw26 := hw2.below hbA
            have hgr6 : w.grownBy w6 (some g) := only_trans hgr (only_of_below hbA _)
            have hg3n : g3 ≠ w.heap.size := by omega
            have hgn : g ≠ w.heap.size := by omega
            clear hHH hM6 hbut6 hbr howr hbx hw2 hgr h3 hrd3 hoff3 hM3 hrd
            go_loopw [59] (fun s wr => ∃ i : Nat, s = .int .i64 (i : Int) ∧ i ≤ 32 ∧ Whl .u8 25 wr w.heap.size (pad 32 (outTo HH i)) ∧ Cut wr g3 65 (ints .u32 HH) ∧ MstN wr g (.slice A0 (m.length % 64) c0) m m.length ∧ w.grownBy wr (some g)) (fun s _ => 32 - (intOf s).toNat)
            case atStart => exact ⟨0, rfl, by omega, hw26, hC65, hMs, hgr6⟩
            case round =>
              clear hw26 hC65 hMs hgr6
              obtain ⟨i, rfl, hi32, hw26, hC65, hMs, hgr6⟩ := hrel
              by_cases hlt32 : i < 32
              · obtain ⟨x, hx⟩ := get_of_lt (xs := HH) (i := i / 4) (by rw [hH8.out]; omega)
                have q1 := hC65.cell (ints_get hx)
                obtain ⟨y, hy⟩ : ∃ y, y = x / 2 ^ (24 - 8 * (i % 4)) % 256 := ⟨_, rfl⟩
                have hv := Lib.hid (show ((y : Nat) : Int) = (x : Int) / 2 ^ (24 - 8 * (i % 4)) % 256 by rw [hy]; push_cast; rfl)
                have HS := Lib.hid (show outTo HH (i + 1) = outTo HH i ++ [y] by rw [outTo_succ, List.getD_eq_getElem?_getD, hx, hy]; rfl)
                have hpl : (outTo HH i).length < 32 := by rw [outTo_length]; exact hlt32
                have hat := pad_at hpl
                rw [outTo_length] at hat
                have q3 := hw26.blk.cell hat
                have q4 := hw26.blk.frozen hat
                clear hx hy hat hpl
                go_wp2_with fail
                go_roundw
                case rel =>
                  refine ⟨i + 1, by go_num, by omega, ?_, hC65.far (p := ⟨w.heap.size, i, none⟩) hg3n _, mst_far hMs hgn hvlt0 i _, only_set hgr6 (p := ⟨w.heap.size, i, none⟩) (Or.inr (Nat.le_refl _)) _⟩
                  have h := hw26.set i y
                  have h7 := pad_set (n := 32) (l := outTo HH i) (by rw [outTo_length]; exact hlt32) y
                  rw [outTo_length] at h7
                  rw [h7, ← HS.out, hv.out] at h
                  exact h
                case measure => simp [intOf]; omega
              · obtain rfl : i = 32 := by omega
                rw [pad_full (outTo_length HH 32), ← HHD.out] at hw26
                have hdl := Lib.hid (digest_length m)
                obtain ⟨D, hD⟩ : ∃ D, D = digest m := ⟨_, rfl⟩
                have hDl := Lib.hid (show D.length = 32 by rw [hD]; exact digest_length m)
                rw [← hD] at hw26
                have HD := Lib.hid hD
                clear hD HHD hC65
                go_wp2_with (first | (refine wpList_load_whl rfl 25 (.tmp 2) rfl w.heap.size rfl .u8 _ D hw26 _ Try.underlying25 rfl (by rw [hDl.out]; exact size_32u8) ?_) | (refine wpList_store_whl rfl 25 (.tmp 2) (.tmp 76) rfl w.heap.size .u8 _ D D rfl rfl hw26 rfl (by rw [hDl.out]; exact size_32u8) ?_; intro w7 hw7 hg7 hs7))
                refine bodyPost_ret (v := .agg (ints .u8 D).toArray) (results_whl rfl _ _ w.heap.size .u8 _ D _ rfl hw7 Try.underlying25 rfl (by rw [hDl.out]; exact size_32u8)) rfl ⟨?_, ?_, ?_⟩
                · rw [HD.out]
                · exact mst_grown hMs hg7 hgn hvlt0
                · exact grown_new hgr6 hg7 (Nat.le_refl _)
end Go.Proofs.Ytmbkehmgpcmicaa
