/-
  The eight words behind a block (behind), in the program.
-/
import Derived.Test.YtmbkehmgpcmicaaShaD
import Derived.Deep.RegionHeld3
import Derived.Deep.DeepCutAuto
import Derived.Outline
namespace Go.Proofs.Ytmbkehmgpcmicaa
set_option linter.unusedVariables false
set_option linter.unusedSimpArgs false
open Go.RowKit

theorem zero_64u32 : (Try.prog.info? 33).map (fun i => i.zero) = some (some (.agg (ints .u32 (List.replicate 64 0)).toArray)) := by kernel_rfl
theorem zero_8u32 : (Try.prog.info? 34).map (fun i => i.zero) = some (some (.agg (ints .u32 (List.replicate 8 0)).toArray)) := by kernel_rfl
theorem size_8u32 : (Try.prog.info? 34).map (·.size) = some 8 := by kernel_rfl

theorem mkS {wa w' : World} {g o : Nat} {vs : List Value} (hc : Cut wa g o vs) (h : Below wa.heap.size wa w') : Below wa.heap.size wa w' ∧ w'.rangeAt g o vs := ⟨h, (hc.below h).range⟩
theorem tr1 {a b c : World} (h2 : Below b.heap.size b c) (h1 : Below a.heap.size a b) : Below a.heap.size a c := h1.trans (h2.mono h1.size)
theorem tr2 {a b c : World} {g : Nat} (h2 : b.grownBy c (some g)) (h1 : Below a.heap.size a b) (hg : a.heap.size ≤ g) : Below a.heap.size a c := below_only h1 h2 h1.size hg
theorem ne_of_new {k : IntKind} {t : TypeId} {w : World} {g g' : Nat} {cs : List Nat} (h : Whl k t w g cs) (hg : Hid (g' = w.heap.size)) : g ≠ g' := by
  have := h.lt
  rw [hg.out]
  omega
theorem ne_of_new2 {k : IntKind} {t : TypeId} {w w' : World} {g g' : Nat} {cs : List Nat} (h : Whl k t w g cs) (hb : Below w.heap.size w w') (hg : Hid (g' = w'.heap.size)) : g ≠ g' := ne_of_new (h.below hb) hg
theorem list8 {l : List Nat} (h : l.length = 8) : ∃ a b c d e f g i, l = [a, b, c, d, e, f, g, i] := by
  match l, h with
  | [a, b, c, d, e, f, g, i], _ => exact ⟨a, b, c, d, e, f, g, i, rfl⟩
theorem step8_length {l : List Nat} (h : l.length = 8) (k w : Nat) : (step8 l k w).length = 8 := by
  obtain ⟨a, b, c, d, e, f, g, i, rfl⟩ := list8 h
  rfl
theorem step8_lim {l : List Nat} (h : l.length = 8) (ll : Lim 4294967296 l) (k w : Nat) : Lim 4294967296 (step8 l k w) := by
  obtain ⟨a, b, c, d, e, f, g, i, rfl⟩ := list8 h
  intro x hx
  simp only [step8, List.mem_cons, List.not_mem_nil, or_false] at hx
  rcases hx with rfl | rfl | rfl | rfl | rfl | rfl | rfl | rfl
  · exact addw_lt _ _
  · exact ll _ (by simp)
  · exact ll _ (by simp)
  · exact ll _ (by simp)
  · exact addw_lt _ _
  · exact ll _ (by simp)
  · exact ll _ (by simp)
  · exact ll _ (by simp)
theorem rounds8_ok (hv ks ws : List Nat) (t : Nat) (h : hv.length = 8) (ll : Lim 4294967296 hv) : (rounds8 hv ks ws t).length = 8 ∧ Lim 4294967296 (rounds8 hv ks ws t) := by
  induction t with
  | zero => exact ⟨h, ll⟩
  | succ t ih => exact ⟨step8_length ih.1 _ _, step8_lim ih.1 ih.2 _ _⟩
theorem rounds8_form (hv ks ws : List Nat) (t : Nat) (h : hv.length = 8) (ll : Lim 4294967296 hv) :
    ∃ a b c d e f g i, rounds8 hv ks ws t = [a, b, c, d, e, f, g, i] ∧ a < 4294967296 ∧ b < 4294967296 ∧ c < 4294967296 ∧ d < 4294967296 ∧ e < 4294967296 ∧ f < 4294967296 ∧ g < 4294967296 ∧ i < 4294967296 := by
  obtain ⟨h1, h2⟩ := rounds8_ok hv ks ws t h ll
  obtain ⟨a, b, c, d, e, f, g, i, h3⟩ := list8 h1
  rw [h3] at h2
  exact ⟨a, b, c, d, e, f, g, i, h3, h2 _ (by simp), h2 _ (by simp), h2 _ (by simp), h2 _ (by simp), h2 _ (by simp), h2 _ (by simp), h2 _ (by simp), h2 _ (by simp)⟩
def outs (h v : List Nat) (i : Nat) : List Nat := (List.range i).map fun j => addw (h.getD j 0) (v.getD j 0)
theorem outs_length (h v : List Nat) (i : Nat) : (outs h v i).length = i := by simp [outs]
theorem outs_succ (h v : List Nat) (i : Nat) : outs h v (i + 1) = outs h v i ++ [addw (h.getD i 0) (v.getD i 0)] := by simp [outs, List.range_succ]
set_option maxRecDepth 100000 in
set_option maxHeartbeats 3200000 in
theorem behind_any (gs : Nat) (A : Option Addr) (c : Nat) (hv b : List Nat) (w : World) (hK : Cut w gs 1 (ints .u32 K64)) (hH : Cut w gs 65 (ints .u32 hv)) (lh : Lim 4294967296 hv)
    (hb : Rd .u8 w A b) (h8 : hv.length = 8) (hl : b.length = 64) (lb : Lim 256 b) (hc : 64 ≤ c) (hcl : c ≤ 9223372036854775807) :
    Calls Try.prog 28 #[.pointer (some ⟨gs, 0, none⟩), .slice A 64 c] w (GivesArr .u32 (compress hv b) w) := by
  obtain ⟨ws, hws⟩ : ∃ ws, ws = sched b 48 := ⟨_, rfl⟩
  have hwl := Lib.hid (show ws.length = 64 by rw [hws, sched_length])
  have HWS := Lib.hid hws
  have H8 := Lib.hid h8
  have hsc : Hid (∀ w, Rd .u8 w A b → Calls Try.prog 36 #[.slice A 64 c] w (GivesArr .u32 ws w)) := fun w hr => by rw [hws]; exact sched_any A c b w hr hl lb hc hcl
  have HL := Lib.hid hl
  clear hl hws h8
  go_enter Try.func28, Try.ntmps28
  go_upto_region 1 with fail
  have hw4 : Whl .u32 34 (w.alloc (.cells (ints .u32 (List.replicate 8 0)).toArray 34)) w.heap.size (List.replicate 8 0) := whl_new0 w _
  have hba : Below w.heap.size w (w.alloc (.cells (ints .u32 (List.replicate 8 0)).toArray 34)) := (Below.refl _ _).alloc (Nat.le_refl _) _
  have hHa := hH.alloc (.cells (ints .u32 (List.replicate 8 0)).toArray 34)
  have hKa := hK.alloc (.cells (ints .u32 (List.replicate 8 0)).toArray 34)
  have hra := hb.alloc (.cells (ints .u32 (List.replicate 8 0)).toArray 34)
  change Code.wp _ _ _ _ (w.alloc (.cells (ints .u32 (List.replicate 8 0)).toArray 34))
  generalize w.alloc (.cells (ints .u32 (List.replicate 8 0)).toArray 34) = wa at *
  have hH0 := hH
  clear hK hH hb
  go_cut [5, 6] (fun s5 s6 wx => ∃ g5 g6, s5 = .pointer (some ⟨g5, 0, none⟩) ∧ s6 = .pointer (some ⟨g6, 0, none⟩) ∧ Whl .u32 33 wx g5 ws ∧ Whl .u32 34 wx g6 hv ∧ wa.heap.size ≤ g5 ∧ wa.heap.size ≤ g6 ∧ g5 ≠ g6 ∧ Below wa.heap.size wa wx)
  case first =>
    refine wp_region_held_drew (S := fun w' => Below wa.heap.size wa w' ∧ w'.rangeAt gs 65 (ints .u32 hv)) (by kernel_rfl) (mkS hHa (below_drewN (Below.refl _ _) 1)) (fun hS => ?_)
    have hbd := hS.1
    generalize wa.drew = wd at *
    refine wpAnyH_take (i := 0) (v := .slice A 64 c) rfl (by kernel_rfl) (by kernel_rfl) (by kernel_rfl) (fun _ _ _ h => h) (Or.inl ⟨by rfl, fun _ _ => rfl⟩) hS ?_
    refine wpAnyH_take (i := 2) (v := .pointer (some ⟨gs, 0, none⟩)) rfl (by kernel_rfl) (by kernel_rfl) (by kernel_rfl) (fun _ _ _ h => h) (Or.inl ⟨by rfl, fun _ _ => rfl⟩) hS ?_
    refine wpAnyH_take (i := 3) (v := .pointer (some ⟨gs, 0, none⟩)) rfl (by kernel_rfl) (by kernel_rfl) (by kernel_rfl) (fun _ _ _ h => h) (Or.inl ⟨by rfl, fun _ _ => rfl⟩) hS ?_
    refine wpAnyH_take (i := 4) (v := .pointer (some ⟨gs, 65, none⟩)) rfl (by kernel_rfl) (by kernel_rfl) (by kernel_rfl) (fun _ _ _ h => h) (Or.inl ⟨by rfl, fun w _ => ?_⟩) hS ?_
    · go_simp
    refine wpAnyH_take (i := 5) (v := .agg (ints .u32 hv).toArray) rfl (by kernel_rfl) (by kernel_rfl) (by kernel_rfl) (fun _ _ _ h => h) (yieldsIf_load_mid (by rfl) 34 (.tmp 17) rfl gs 65 rfl (ints .u32 hv) _ (fun _ h => h.2) Try.underlying34 rfl (by rw [ints_length, H8.out]; exact size_8u32)) hS ?_
    try simp only [Act.put, List.setIfInBounds_toArray, List.set_cons_zero, List.set_cons_succ]
    refine wpAnyH_ready (rs := [1, 6, 7]) (by kernel_rfl) (by simp) ?_
    refine AllReadyH.cons (o := { dst := some 14, op := .call { callee := .value (.func 36), args := #[.tmp 13], argTypes := #[22] }, type := 33, pos := _, after := _, guard := none }) rfl (fun K hK => ?_) ?_
    · go_simp
      refine (hsc.out _ (hra.below hbd)).mono ?_
      rintro e wc ⟨rfl, hbc⟩
      go_simp
      refine hK.out _ _ (mkS hHa (tr1 hbc hbd)) (fun _ => ?_)
      clear hK K
      try simp only [Act.put, List.setIfInBounds_toArray, List.set_cons_zero, List.set_cons_succ]
      refine wpAnyH_ready (rs := [6, 7]) (by kernel_rfl) (by simp) ?_
      refine AllReadyH.cons (o := { dst := some 5, op := .alloc 33, type := 0, pos := _, after := _, guard := none }) rfl (fun K hK => ?_) ?_
      · refine step_alloc_arr rfl 33 rfl .u32 64 zero_64u32 ?_
        intro g5 w5 hg5 hw5 hs5 hb5
        have hk5 : wa.heap.size ≤ g5 := by rw [hg5.out]; exact (tr1 hbc hbd).size
        clear hs5
        refine hK.out _ _ (mkS hHa (tr1 hb5 (tr1 hbc hbd))) (fun _ => ?_)
        clear hK K
        try simp only [Act.put, List.setIfInBounds_toArray, List.set_cons_zero, List.set_cons_succ]
        refine wpAnyH_ready (rs := [7]) (by kernel_rfl) (by simp) ?_
        refine AllReadyH.cons (o := { dst := some 6, op := .alloc 34, type := 0, pos := _, after := _, guard := none }) rfl (fun K hK => ?_) ?_
        · refine step_alloc_arr rfl 34 rfl .u32 8 zero_8u32 ?_
          intro g6 w6 hg6 hw6 hs6 hb6
          have hk6 : wa.heap.size ≤ g6 := by rw [hg6.out]; exact (tr1 hb5 (tr1 hbc hbd)).size
          clear hs6
          refine hK.out _ _ (mkS hHa (tr1 hb6 (tr1 hb5 (tr1 hbc hbd)))) (fun _ => ?_)
          clear hK K
          try simp only [Act.put, List.setIfInBounds_toArray, List.set_cons_zero, List.set_cons_succ]
          have hne : g6 ≠ g5 := (ne_of_new hw5 hg6).symm
          refine wpAnyH_ready (rs := [8]) (by kernel_rfl) (by simp) ?_
          refine AllReadyH.cons (o := { dst := none, op := .store 33 (.tmp 5) (.tmp 14), type := 0, pos := _, after := _, guard := none }) rfl (fun K hK => ?_) ?_
          rotate_left
          · exact AllReadyH.nil
          refine step_store_whl rfl 33 (.tmp 5) (.tmp 14) rfl g5 .u32 _ _ ws rfl rfl ((hw5.below hb6)) hwl.out size_64u32 ?_
          intro w8 hw8 hg8 hs8
          refine hK.out _ _ (mkS hHa (tr2 hg8 (tr1 hb6 (tr1 hb5 (tr1 hbc hbd))) hk5)) (fun _ => ?_)
          clear hK K hs8
          try simp only [Act.put, List.setIfInBounds_toArray, List.set_cons_zero, List.set_cons_succ]
          refine wpAnyH_ready (rs := [9]) (by kernel_rfl) (by simp) ?_
          refine AllReadyH.cons (o := { dst := none, op := .store 34 (.tmp 6) (.tmp 18), type := 0, pos := _, after := _, guard := none }) rfl (fun K hK => ?_) ?_
          rotate_left
          · exact AllReadyH.nil
          refine step_store_whl rfl 34 (.tmp 6) (.tmp 18) rfl g6 .u32 _ _ hv rfl rfl ((hw6).grown hg8 (by simpa using hne.symm)) H8.out size_8u32 ?_
          intro w9 hw9 hg9 hs9
          refine hK.out _ _ (mkS hHa (tr2 hg9 (tr2 hg8 (tr1 hb6 (tr1 hb5 (tr1 hbc hbd))) hk5) hk6)) (fun _ => ?_)
          clear hK K hs9
          try simp only [Act.put, List.setIfInBounds_toArray, List.set_cons_zero, List.set_cons_succ]
          refine wpAnyH_done (by kernel_rfl) ?_ _
          go_wp2_with fail
          go_meet
          exact ⟨g5, g6, rfl, rfl, hw8.grown hg9 (by simpa using hne), hw9, hk5, hk6, hne.symm, (tr2 hg9 (tr2 hg8 (tr1 hb6 (tr1 hb5 (tr1 hbc hbd))) hk5) hk6)⟩
        exact AllReadyH.nil
      refine AllReadyH.cons (o := { dst := some 6, op := .alloc 34, type := 0, pos := _, after := _, guard := none }) rfl (fun K hK => ?_) ?_
      · refine step_alloc_arr rfl 34 rfl .u32 8 zero_8u32 ?_
        intro g6 w6 hg6 hw6 hs6 hb6
        have hk6 : wa.heap.size ≤ g6 := by rw [hg6.out]; exact (tr1 hbc hbd).size
        clear hs6
        refine hK.out _ _ (mkS hHa (tr1 hb6 (tr1 hbc hbd))) (fun _ => ?_)
        clear hK K
        try simp only [Act.put, List.setIfInBounds_toArray, List.set_cons_zero, List.set_cons_succ]
        refine wpAnyH_ready (rs := [6]) (by kernel_rfl) (by simp) ?_
        refine AllReadyH.cons (o := { dst := some 5, op := .alloc 33, type := 0, pos := _, after := _, guard := none }) rfl (fun K hK => ?_) ?_
        · refine step_alloc_arr rfl 33 rfl .u32 64 zero_64u32 ?_
          intro g5 w5 hg5 hw5 hs5 hb5
          have hk5 : wa.heap.size ≤ g5 := by rw [hg5.out]; exact (tr1 hb6 (tr1 hbc hbd)).size
          clear hs5
          refine hK.out _ _ (mkS hHa (tr1 hb5 (tr1 hb6 (tr1 hbc hbd)))) (fun _ => ?_)
          clear hK K
          try simp only [Act.put, List.setIfInBounds_toArray, List.set_cons_zero, List.set_cons_succ]
          have hne : g6 ≠ g5 := ne_of_new hw6 hg5
          refine wpAnyH_ready (rs := [8]) (by kernel_rfl) (by simp) ?_
          refine AllReadyH.cons (o := { dst := none, op := .store 33 (.tmp 5) (.tmp 14), type := 0, pos := _, after := _, guard := none }) rfl (fun K hK => ?_) ?_
          rotate_left
          · exact AllReadyH.nil
          refine step_store_whl rfl 33 (.tmp 5) (.tmp 14) rfl g5 .u32 _ _ ws rfl rfl (hw5) hwl.out size_64u32 ?_
          intro w8 hw8 hg8 hs8
          refine hK.out _ _ (mkS hHa (tr2 hg8 (tr1 hb5 (tr1 hb6 (tr1 hbc hbd))) hk5)) (fun _ => ?_)
          clear hK K hs8
          try simp only [Act.put, List.setIfInBounds_toArray, List.set_cons_zero, List.set_cons_succ]
          refine wpAnyH_ready (rs := [9]) (by kernel_rfl) (by simp) ?_
          refine AllReadyH.cons (o := { dst := none, op := .store 34 (.tmp 6) (.tmp 18), type := 0, pos := _, after := _, guard := none }) rfl (fun K hK => ?_) ?_
          rotate_left
          · exact AllReadyH.nil
          refine step_store_whl rfl 34 (.tmp 6) (.tmp 18) rfl g6 .u32 _ _ hv rfl rfl (((hw6.below hb5)).grown hg8 (by simpa using hne.symm)) H8.out size_8u32 ?_
          intro w9 hw9 hg9 hs9
          refine hK.out _ _ (mkS hHa (tr2 hg9 (tr2 hg8 (tr1 hb5 (tr1 hb6 (tr1 hbc hbd))) hk5) hk6)) (fun _ => ?_)
          clear hK K hs9
          try simp only [Act.put, List.setIfInBounds_toArray, List.set_cons_zero, List.set_cons_succ]
          refine wpAnyH_done (by kernel_rfl) ?_ _
          go_wp2_with fail
          go_meet
          exact ⟨g5, g6, rfl, rfl, hw8.grown hg9 (by simpa using hne), hw9, hk5, hk6, hne.symm, (tr2 hg9 (tr2 hg8 (tr1 hb5 (tr1 hb6 (tr1 hbc hbd))) hk5) hk6)⟩
        exact AllReadyH.nil
      exact AllReadyH.nil
    refine AllReadyH.cons (o := { dst := some 5, op := .alloc 33, type := 0, pos := _, after := _, guard := none }) rfl (fun K hK => ?_) ?_
    · refine step_alloc_arr rfl 33 rfl .u32 64 zero_64u32 ?_
      intro g5 w5 hg5 hw5 hs5 hb5
      have hk5 : wa.heap.size ≤ g5 := by rw [hg5.out]; exact hbd.size
      clear hs5
      refine hK.out _ _ (mkS hHa (tr1 hb5 hbd)) (fun _ => ?_)
      clear hK K
      try simp only [Act.put, List.setIfInBounds_toArray, List.set_cons_zero, List.set_cons_succ]
      refine wpAnyH_ready (rs := [1, 7]) (by kernel_rfl) (by simp) ?_
      refine AllReadyH.cons (o := { dst := some 14, op := .call { callee := .value (.func 36), args := #[.tmp 13], argTypes := #[22] }, type := 33, pos := _, after := _, guard := none }) rfl (fun K hK => ?_) ?_
      · go_simp
        refine (hsc.out _ (hra.below (tr1 hb5 hbd))).mono ?_
        rintro e wc ⟨rfl, hbc⟩
        go_simp
        refine hK.out _ _ (mkS hHa (tr1 hbc (tr1 hb5 hbd))) (fun _ => ?_)
        clear hK K
        try simp only [Act.put, List.setIfInBounds_toArray, List.set_cons_zero, List.set_cons_succ]
        refine wpAnyH_ready (rs := [7]) (by kernel_rfl) (by simp) ?_
        refine AllReadyH.cons (o := { dst := some 6, op := .alloc 34, type := 0, pos := _, after := _, guard := none }) rfl (fun K hK => ?_) ?_
        · refine step_alloc_arr rfl 34 rfl .u32 8 zero_8u32 ?_
          intro g6 w6 hg6 hw6 hs6 hb6
          have hk6 : wa.heap.size ≤ g6 := by rw [hg6.out]; exact (tr1 hbc (tr1 hb5 hbd)).size
          clear hs6
          refine hK.out _ _ (mkS hHa (tr1 hb6 (tr1 hbc (tr1 hb5 hbd)))) (fun _ => ?_)
          clear hK K
          try simp only [Act.put, List.setIfInBounds_toArray, List.set_cons_zero, List.set_cons_succ]
          have hne : g6 ≠ g5 := (ne_of_new2 hw5 hbc hg6).symm
          refine wpAnyH_ready (rs := [8]) (by kernel_rfl) (by simp) ?_
          refine AllReadyH.cons (o := { dst := none, op := .store 33 (.tmp 5) (.tmp 14), type := 0, pos := _, after := _, guard := none }) rfl (fun K hK => ?_) ?_
          rotate_left
          · exact AllReadyH.nil
          refine step_store_whl rfl 33 (.tmp 5) (.tmp 14) rfl g5 .u32 _ _ ws rfl rfl (((hw5.below hbc).below hb6)) hwl.out size_64u32 ?_
          intro w8 hw8 hg8 hs8
          refine hK.out _ _ (mkS hHa (tr2 hg8 (tr1 hb6 (tr1 hbc (tr1 hb5 hbd))) hk5)) (fun _ => ?_)
          clear hK K hs8
          try simp only [Act.put, List.setIfInBounds_toArray, List.set_cons_zero, List.set_cons_succ]
          refine wpAnyH_ready (rs := [9]) (by kernel_rfl) (by simp) ?_
          refine AllReadyH.cons (o := { dst := none, op := .store 34 (.tmp 6) (.tmp 18), type := 0, pos := _, after := _, guard := none }) rfl (fun K hK => ?_) ?_
          rotate_left
          · exact AllReadyH.nil
          refine step_store_whl rfl 34 (.tmp 6) (.tmp 18) rfl g6 .u32 _ _ hv rfl rfl ((hw6).grown hg8 (by simpa using hne.symm)) H8.out size_8u32 ?_
          intro w9 hw9 hg9 hs9
          refine hK.out _ _ (mkS hHa (tr2 hg9 (tr2 hg8 (tr1 hb6 (tr1 hbc (tr1 hb5 hbd))) hk5) hk6)) (fun _ => ?_)
          clear hK K hs9
          try simp only [Act.put, List.setIfInBounds_toArray, List.set_cons_zero, List.set_cons_succ]
          refine wpAnyH_done (by kernel_rfl) ?_ _
          go_wp2_with fail
          go_meet
          exact ⟨g5, g6, rfl, rfl, hw8.grown hg9 (by simpa using hne), hw9, hk5, hk6, hne.symm, (tr2 hg9 (tr2 hg8 (tr1 hb6 (tr1 hbc (tr1 hb5 hbd))) hk5) hk6)⟩
        exact AllReadyH.nil
      refine AllReadyH.cons (o := { dst := some 6, op := .alloc 34, type := 0, pos := _, after := _, guard := none }) rfl (fun K hK => ?_) ?_
      · refine step_alloc_arr rfl 34 rfl .u32 8 zero_8u32 ?_
        intro g6 w6 hg6 hw6 hs6 hb6
        have hk6 : wa.heap.size ≤ g6 := by rw [hg6.out]; exact (tr1 hb5 hbd).size
        clear hs6
        refine hK.out _ _ (mkS hHa (tr1 hb6 (tr1 hb5 hbd))) (fun _ => ?_)
        clear hK K
        try simp only [Act.put, List.setIfInBounds_toArray, List.set_cons_zero, List.set_cons_succ]
        refine wpAnyH_ready (rs := [1]) (by kernel_rfl) (by simp) ?_
        refine AllReadyH.cons (o := { dst := some 14, op := .call { callee := .value (.func 36), args := #[.tmp 13], argTypes := #[22] }, type := 33, pos := _, after := _, guard := none }) rfl (fun K hK => ?_) ?_
        · go_simp
          refine (hsc.out _ (hra.below (tr1 hb6 (tr1 hb5 hbd)))).mono ?_
          rintro e wc ⟨rfl, hbc⟩
          go_simp
          refine hK.out _ _ (mkS hHa (tr1 hbc (tr1 hb6 (tr1 hb5 hbd)))) (fun _ => ?_)
          clear hK K
          try simp only [Act.put, List.setIfInBounds_toArray, List.set_cons_zero, List.set_cons_succ]
          have hne : g6 ≠ g5 := (ne_of_new hw5 hg6).symm
          refine wpAnyH_ready (rs := [8]) (by kernel_rfl) (by simp) ?_
          refine AllReadyH.cons (o := { dst := none, op := .store 33 (.tmp 5) (.tmp 14), type := 0, pos := _, after := _, guard := none }) rfl (fun K hK => ?_) ?_
          rotate_left
          · exact AllReadyH.nil
          refine step_store_whl rfl 33 (.tmp 5) (.tmp 14) rfl g5 .u32 _ _ ws rfl rfl (((hw5.below hb6).below hbc)) hwl.out size_64u32 ?_
          intro w8 hw8 hg8 hs8
          refine hK.out _ _ (mkS hHa (tr2 hg8 (tr1 hbc (tr1 hb6 (tr1 hb5 hbd))) hk5)) (fun _ => ?_)
          clear hK K hs8
          try simp only [Act.put, List.setIfInBounds_toArray, List.set_cons_zero, List.set_cons_succ]
          refine wpAnyH_ready (rs := [9]) (by kernel_rfl) (by simp) ?_
          refine AllReadyH.cons (o := { dst := none, op := .store 34 (.tmp 6) (.tmp 18), type := 0, pos := _, after := _, guard := none }) rfl (fun K hK => ?_) ?_
          rotate_left
          · exact AllReadyH.nil
          refine step_store_whl rfl 34 (.tmp 6) (.tmp 18) rfl g6 .u32 _ _ hv rfl rfl (((hw6.below hbc)).grown hg8 (by simpa using hne.symm)) H8.out size_8u32 ?_
          intro w9 hw9 hg9 hs9
          refine hK.out _ _ (mkS hHa (tr2 hg9 (tr2 hg8 (tr1 hbc (tr1 hb6 (tr1 hb5 hbd))) hk5) hk6)) (fun _ => ?_)
          clear hK K hs9
          try simp only [Act.put, List.setIfInBounds_toArray, List.set_cons_zero, List.set_cons_succ]
          refine wpAnyH_done (by kernel_rfl) ?_ _
          go_wp2_with fail
          go_meet
          exact ⟨g5, g6, rfl, rfl, hw8.grown hg9 (by simpa using hne), hw9, hk5, hk6, hne.symm, (tr2 hg9 (tr2 hg8 (tr1 hbc (tr1 hb6 (tr1 hb5 hbd))) hk5) hk6)⟩
        exact AllReadyH.nil
      exact AllReadyH.nil
    refine AllReadyH.cons (o := { dst := some 6, op := .alloc 34, type := 0, pos := _, after := _, guard := none }) rfl (fun K hK => ?_) ?_
    · refine step_alloc_arr rfl 34 rfl .u32 8 zero_8u32 ?_
      intro g6 w6 hg6 hw6 hs6 hb6
      have hk6 : wa.heap.size ≤ g6 := by rw [hg6.out]; exact hbd.size
      clear hs6
      refine hK.out _ _ (mkS hHa (tr1 hb6 hbd)) (fun _ => ?_)
      clear hK K
      try simp only [Act.put, List.setIfInBounds_toArray, List.set_cons_zero, List.set_cons_succ]
      refine wpAnyH_ready (rs := [1, 6]) (by kernel_rfl) (by simp) ?_
      refine AllReadyH.cons (o := { dst := some 14, op := .call { callee := .value (.func 36), args := #[.tmp 13], argTypes := #[22] }, type := 33, pos := _, after := _, guard := none }) rfl (fun K hK => ?_) ?_
      · go_simp
        refine (hsc.out _ (hra.below (tr1 hb6 hbd))).mono ?_
        rintro e wc ⟨rfl, hbc⟩
        go_simp
        refine hK.out _ _ (mkS hHa (tr1 hbc (tr1 hb6 hbd))) (fun _ => ?_)
        clear hK K
        try simp only [Act.put, List.setIfInBounds_toArray, List.set_cons_zero, List.set_cons_succ]
        refine wpAnyH_ready (rs := [6]) (by kernel_rfl) (by simp) ?_
        refine AllReadyH.cons (o := { dst := some 5, op := .alloc 33, type := 0, pos := _, after := _, guard := none }) rfl (fun K hK => ?_) ?_
        · refine step_alloc_arr rfl 33 rfl .u32 64 zero_64u32 ?_
          intro g5 w5 hg5 hw5 hs5 hb5
          have hk5 : wa.heap.size ≤ g5 := by rw [hg5.out]; exact (tr1 hbc (tr1 hb6 hbd)).size
          clear hs5
          refine hK.out _ _ (mkS hHa (tr1 hb5 (tr1 hbc (tr1 hb6 hbd)))) (fun _ => ?_)
          clear hK K
          try simp only [Act.put, List.setIfInBounds_toArray, List.set_cons_zero, List.set_cons_succ]
          have hne : g6 ≠ g5 := ne_of_new2 hw6 hbc hg5
          refine wpAnyH_ready (rs := [8]) (by kernel_rfl) (by simp) ?_
          refine AllReadyH.cons (o := { dst := none, op := .store 33 (.tmp 5) (.tmp 14), type := 0, pos := _, after := _, guard := none }) rfl (fun K hK => ?_) ?_
          rotate_left
          · exact AllReadyH.nil
          refine step_store_whl rfl 33 (.tmp 5) (.tmp 14) rfl g5 .u32 _ _ ws rfl rfl (hw5) hwl.out size_64u32 ?_
          intro w8 hw8 hg8 hs8
          refine hK.out _ _ (mkS hHa (tr2 hg8 (tr1 hb5 (tr1 hbc (tr1 hb6 hbd))) hk5)) (fun _ => ?_)
          clear hK K hs8
          try simp only [Act.put, List.setIfInBounds_toArray, List.set_cons_zero, List.set_cons_succ]
          refine wpAnyH_ready (rs := [9]) (by kernel_rfl) (by simp) ?_
          refine AllReadyH.cons (o := { dst := none, op := .store 34 (.tmp 6) (.tmp 18), type := 0, pos := _, after := _, guard := none }) rfl (fun K hK => ?_) ?_
          rotate_left
          · exact AllReadyH.nil
          refine step_store_whl rfl 34 (.tmp 6) (.tmp 18) rfl g6 .u32 _ _ hv rfl rfl ((((hw6.below hbc).below hb5)).grown hg8 (by simpa using hne.symm)) H8.out size_8u32 ?_
          intro w9 hw9 hg9 hs9
          refine hK.out _ _ (mkS hHa (tr2 hg9 (tr2 hg8 (tr1 hb5 (tr1 hbc (tr1 hb6 hbd))) hk5) hk6)) (fun _ => ?_)
          clear hK K hs9
          try simp only [Act.put, List.setIfInBounds_toArray, List.set_cons_zero, List.set_cons_succ]
          refine wpAnyH_done (by kernel_rfl) ?_ _
          go_wp2_with fail
          go_meet
          exact ⟨g5, g6, rfl, rfl, hw8.grown hg9 (by simpa using hne), hw9, hk5, hk6, hne.symm, (tr2 hg9 (tr2 hg8 (tr1 hb5 (tr1 hbc (tr1 hb6 hbd))) hk5) hk6)⟩
        exact AllReadyH.nil
      refine AllReadyH.cons (o := { dst := some 5, op := .alloc 33, type := 0, pos := _, after := _, guard := none }) rfl (fun K hK => ?_) ?_
      · refine step_alloc_arr rfl 33 rfl .u32 64 zero_64u32 ?_
        intro g5 w5 hg5 hw5 hs5 hb5
        have hk5 : wa.heap.size ≤ g5 := by rw [hg5.out]; exact (tr1 hb6 hbd).size
        clear hs5
        refine hK.out _ _ (mkS hHa (tr1 hb5 (tr1 hb6 hbd))) (fun _ => ?_)
        clear hK K
        try simp only [Act.put, List.setIfInBounds_toArray, List.set_cons_zero, List.set_cons_succ]
        refine wpAnyH_ready (rs := [1]) (by kernel_rfl) (by simp) ?_
        refine AllReadyH.cons (o := { dst := some 14, op := .call { callee := .value (.func 36), args := #[.tmp 13], argTypes := #[22] }, type := 33, pos := _, after := _, guard := none }) rfl (fun K hK => ?_) ?_
        · go_simp
          refine (hsc.out _ (hra.below (tr1 hb5 (tr1 hb6 hbd)))).mono ?_
          rintro e wc ⟨rfl, hbc⟩
          go_simp
          refine hK.out _ _ (mkS hHa (tr1 hbc (tr1 hb5 (tr1 hb6 hbd)))) (fun _ => ?_)
          clear hK K
          try simp only [Act.put, List.setIfInBounds_toArray, List.set_cons_zero, List.set_cons_succ]
          have hne : g6 ≠ g5 := ne_of_new hw6 hg5
          refine wpAnyH_ready (rs := [8]) (by kernel_rfl) (by simp) ?_
          refine AllReadyH.cons (o := { dst := none, op := .store 33 (.tmp 5) (.tmp 14), type := 0, pos := _, after := _, guard := none }) rfl (fun K hK => ?_) ?_
          rotate_left
          · exact AllReadyH.nil
          refine step_store_whl rfl 33 (.tmp 5) (.tmp 14) rfl g5 .u32 _ _ ws rfl rfl ((hw5.below hbc)) hwl.out size_64u32 ?_
          intro w8 hw8 hg8 hs8
          refine hK.out _ _ (mkS hHa (tr2 hg8 (tr1 hbc (tr1 hb5 (tr1 hb6 hbd))) hk5)) (fun _ => ?_)
          clear hK K hs8
          try simp only [Act.put, List.setIfInBounds_toArray, List.set_cons_zero, List.set_cons_succ]
          refine wpAnyH_ready (rs := [9]) (by kernel_rfl) (by simp) ?_
          refine AllReadyH.cons (o := { dst := none, op := .store 34 (.tmp 6) (.tmp 18), type := 0, pos := _, after := _, guard := none }) rfl (fun K hK => ?_) ?_
          rotate_left
          · exact AllReadyH.nil
          refine step_store_whl rfl 34 (.tmp 6) (.tmp 18) rfl g6 .u32 _ _ hv rfl rfl ((((hw6.below hb5).below hbc)).grown hg8 (by simpa using hne.symm)) H8.out size_8u32 ?_
          intro w9 hw9 hg9 hs9
          refine hK.out _ _ (mkS hHa (tr2 hg9 (tr2 hg8 (tr1 hbc (tr1 hb5 (tr1 hb6 hbd))) hk5) hk6)) (fun _ => ?_)
          clear hK K hs9
          try simp only [Act.put, List.setIfInBounds_toArray, List.set_cons_zero, List.set_cons_succ]
          refine wpAnyH_done (by kernel_rfl) ?_ _
          go_wp2_with fail
          go_meet
          exact ⟨g5, g6, rfl, rfl, hw8.grown hg9 (by simpa using hne), hw9, hk5, hk6, hne.symm, (tr2 hg9 (tr2 hg8 (tr1 hbc (tr1 hb5 (tr1 hb6 hbd))) hk5) hk6)⟩
        exact AllReadyH.nil
      exact AllReadyH.nil
    exact AllReadyH.nil
  case rest =>
    obtain ⟨g5, g6, rfl, rfl, hw5, hw6, hk5, hk6, hne, hbx⟩ := hcut
    have hlt4 : w.heap.size < wa.heap.size := hw4.lt
    go_wp2_with fail
    go_loopw [19] (fun s wr => ∃ t : Nat, s = .int .i64 (t : Int) ∧ t ≤ 64 ∧ Whl .u32 33 wr g5 ws ∧ Whl .u32 34 wr g6 (rounds8 hv K64 ws t) ∧ Below wa.heap.size wa wr) (fun s _ => 64 - (intOf s).toNat)
    case atStart => exact ⟨0, rfl, by omega, hw5, hw6, hbx⟩
    case round =>
      clear hw5 hw6 hbx
      obtain ⟨t, rfl, ht, hw5, hw6, hbx⟩ := hrel
      by_cases hlt : t < 64
      · obtain ⟨a, b1, c1, d, e, f, g, h, hV, la, lb1, lc1, ld, le, lf, lg, lh1⟩ := rounds8_form hv K64 ws t H8.out lh
        obtain ⟨k, hk⟩ : ∃ k, k = K64.getD t 0 := ⟨_, rfl⟩
        obtain ⟨x, hx⟩ : ∃ x, x = ws.getD t 0 := ⟨_, rfl⟩
        have hstep := Lib.hid (show rounds8 hv K64 ws (t + 1) = [addw (oneW h e f g k x) (twoW a b1 c1), a, b1, c1, addw d (oneW h e f g k x), e, f, g] by rw [rounds8, hV, hk, hx]; rfl)
        rw [hV] at hw6
        have HV := Lib.hid hV
        have q0 := hw6.blk.cell (i := 0) rfl
        have q1 := hw6.blk.cell (i := 1) rfl
        have q2 := hw6.blk.cell (i := 2) rfl
        have q3 := hw6.blk.cell (i := 3) rfl
        have q4 := hw6.blk.cell (i := 4) rfl
        have q5 := hw6.blk.cell (i := 5) rfl
        have q6 := hw6.blk.cell (i := 6) rfl
        have q7 := hw6.blk.cell (i := 7) rfl
        have qx := hw5.blk.cell (i := t) (x := x) (by rw [hx, List.getD_eq_getElem?_getD, List.getElem?_eq_getElem (by rw [hwl.out]; exact hlt)]; rfl)
        have qk := (hKa.below hbx).cell (i := t) (v := .int .u32 (k : Int)) (by rw [hk]; exact ints_get (by rw [List.getD_eq_getElem?_getD, List.getElem?_eq_getElem (by rw [K64_length]; exact hlt)]; rfl))
        have hkl : k < 4294967296 := by rw [hk]; exact getD_lt (by decide) K64_lim t
        clear hk hx hV
        go_wp2_with fail
        go_quiet (fail)
        replace q0 : (wr.drewN nq).cell? ⟨g6, 0, none⟩ = some (.int .u32 (a : Int)) := q0
        replace q1 : (wr.drewN nq).cell? ⟨g6, 1, none⟩ = some (.int .u32 (b1 : Int)) := q1
        replace q2 : (wr.drewN nq).cell? ⟨g6, 2, none⟩ = some (.int .u32 (c1 : Int)) := q2
        replace q3 : (wr.drewN nq).cell? ⟨g6, 3, none⟩ = some (.int .u32 (d : Int)) := q3
        replace q4 : (wr.drewN nq).cell? ⟨g6, 4, none⟩ = some (.int .u32 (e : Int)) := q4
        replace q5 : (wr.drewN nq).cell? ⟨g6, 5, none⟩ = some (.int .u32 (f : Int)) := q5
        replace q6 : (wr.drewN nq).cell? ⟨g6, 6, none⟩ = some (.int .u32 (g : Int)) := q6
        replace q7 : (wr.drewN nq).cell? ⟨g6, 7, none⟩ = some (.int .u32 (h : Int)) := q7
        replace qx : (wr.drewN nq).cell? ⟨g5, t, none⟩ = some (.int .u32 (x : Int)) := qx
        replace qk : (wr.drewN nq).cell? ⟨gs, 1 + t, none⟩ = some (.int .u32 (k : Int)) := qk
        replace hw5 : Whl .u32 33 (wr.drewN nq) g5 ws := hw5
        replace hw6 : Whl .u32 34 (wr.drewN nq) g6 [a, b1, c1, d, e, f, g, h] := hw6
        replace hbx : Below wa.heap.size wa (wr.drewN nq) := below_drewN hbx nq
        generalize wr.drewN nq = wr at *
        have hsg : IntKind.u32.signed = false := rfl
        have f1 : bits .xor .u32 ((rotr e 6 : Nat) : Int) ((rotr e 11 : Nat) : Int) = ((rotr e 6 ^^^ rotr e 11 : Nat) : Int) := u32_xor_nat _ _ (rotr_lt _ _ le) (rotr_lt _ _ le)
        have f2 : bits .xor .u32 ((rotr e 6 ^^^ rotr e 11 : Nat) : Int) ((rotr e 25 : Nat) : Int) = ((Sig1 e : Nat) : Int) := u32_xor_nat _ _ (xor_lt (rotr_lt _ _ le) (rotr_lt _ _ le)) (rotr_lt _ _ le)
        have f3 := wrap_add h (Sig1 e)
        have f4 := u32_and_nat e f le lf
        have f5 := not_cast e le
        have f6 := u32_and_nat (4294967295 ^^^ e) g (xor_lt (by decide) le) lg
        have f7 : bits .xor .u32 ((e &&& f : Nat) : Int) (((4294967295 ^^^ e) &&& g : Nat) : Int) = ((chw e f g : Nat) : Int) := u32_xor_nat _ _ (and_lt le f) (and_lt (xor_lt (by decide) le) g)
        have f8 := wrap_add (addw h (Sig1 e)) (chw e f g)
        have f9 := wrap_add (addw (addw h (Sig1 e)) (chw e f g)) k
        have f10 : IntKind.u32.wrap (((addw (addw (addw h (Sig1 e)) (chw e f g)) k : Nat) : Int) + (x : Int)) = ((oneW h e f g k x : Nat) : Int) := wrap_add _ _
        go_wp2_with fail
        go_quiet (first
          | ((go_at_call 37; with_reducible exact Calls.quiet_of_same (still_of (right_6 e _ le))))
          | ((go_at_call 37; with_reducible exact Calls.quiet_of_same (still_of (right_11 e _ le))))
          | ((go_at_call 37; with_reducible exact Calls.quiet_of_same (still_of (right_25 e _ le)))))
        replace q0 : (wr.drewN nq).cell? ⟨g6, 0, none⟩ = some (.int .u32 (a : Int)) := q0
        replace q1 : (wr.drewN nq).cell? ⟨g6, 1, none⟩ = some (.int .u32 (b1 : Int)) := q1
        replace q2 : (wr.drewN nq).cell? ⟨g6, 2, none⟩ = some (.int .u32 (c1 : Int)) := q2
        replace q3 : (wr.drewN nq).cell? ⟨g6, 3, none⟩ = some (.int .u32 (d : Int)) := q3
        replace q4 : (wr.drewN nq).cell? ⟨g6, 4, none⟩ = some (.int .u32 (e : Int)) := q4
        replace q5 : (wr.drewN nq).cell? ⟨g6, 5, none⟩ = some (.int .u32 (f : Int)) := q5
        replace q6 : (wr.drewN nq).cell? ⟨g6, 6, none⟩ = some (.int .u32 (g : Int)) := q6
        replace q7 : (wr.drewN nq).cell? ⟨g6, 7, none⟩ = some (.int .u32 (h : Int)) := q7
        replace qx : (wr.drewN nq).cell? ⟨g5, t, none⟩ = some (.int .u32 (x : Int)) := qx
        replace qk : (wr.drewN nq).cell? ⟨gs, 1 + t, none⟩ = some (.int .u32 (k : Int)) := qk
        replace hw5 : Whl .u32 33 (wr.drewN nq) g5 ws := hw5
        replace hw6 : Whl .u32 34 (wr.drewN nq) g6 [a, b1, c1, d, e, f, g, h] := hw6
        replace hbx : Below wa.heap.size wa (wr.drewN nq) := below_drewN hbx nq
        generalize wr.drewN nq = wr at *
        clear f1 f2 f3 f4 f5 f6 f7 f8 f9 f10
        have f1 : bits .xor .u32 ((rotr a 2 : Nat) : Int) ((rotr a 13 : Nat) : Int) = ((rotr a 2 ^^^ rotr a 13 : Nat) : Int) := u32_xor_nat _ _ (rotr_lt _ _ la) (rotr_lt _ _ la)
        have f2 : bits .xor .u32 ((rotr a 2 ^^^ rotr a 13 : Nat) : Int) ((rotr a 22 : Nat) : Int) = ((Sig0 a : Nat) : Int) := u32_xor_nat _ _ (xor_lt (rotr_lt _ _ la) (rotr_lt _ _ la)) (rotr_lt _ _ la)
        have f3 := u32_and_nat a b1 la lb1
        have f4 := u32_and_nat a c1 la lc1
        have f5 := u32_and_nat b1 c1 lb1 lc1
        have f6 := u32_xor_nat (a &&& b1) (a &&& c1) (and_lt la _) (and_lt la _)
        have f7 : bits .xor .u32 (((a &&& b1) ^^^ (a &&& c1) : Nat) : Int) ((b1 &&& c1 : Nat) : Int) = ((maj a b1 c1 : Nat) : Int) := u32_xor_nat _ _ (xor_lt (and_lt la _) (and_lt la _)) (and_lt lb1 _)
        have f8 : IntKind.u32.wrap (((Sig0 a : Nat) : Int) + ((maj a b1 c1 : Nat) : Int)) = ((twoW a b1 c1 : Nat) : Int) := wrap_add _ _
        go_wp2_with fail
        go_quiet (first
          | ((go_at_call 37; with_reducible exact Calls.quiet_of_same (still_of (right_2 a _ la))))
          | ((go_at_call 37; with_reducible exact Calls.quiet_of_same (still_of (right_13 a _ la))))
          | ((go_at_call 37; with_reducible exact Calls.quiet_of_same (still_of (right_22 a _ la)))))
        replace q0 : (wr.drewN nq).cell? ⟨g6, 0, none⟩ = some (.int .u32 (a : Int)) := q0
        replace q1 : (wr.drewN nq).cell? ⟨g6, 1, none⟩ = some (.int .u32 (b1 : Int)) := q1
        replace q2 : (wr.drewN nq).cell? ⟨g6, 2, none⟩ = some (.int .u32 (c1 : Int)) := q2
        replace q3 : (wr.drewN nq).cell? ⟨g6, 3, none⟩ = some (.int .u32 (d : Int)) := q3
        replace q4 : (wr.drewN nq).cell? ⟨g6, 4, none⟩ = some (.int .u32 (e : Int)) := q4
        replace q5 : (wr.drewN nq).cell? ⟨g6, 5, none⟩ = some (.int .u32 (f : Int)) := q5
        replace q6 : (wr.drewN nq).cell? ⟨g6, 6, none⟩ = some (.int .u32 (g : Int)) := q6
        replace q7 : (wr.drewN nq).cell? ⟨g6, 7, none⟩ = some (.int .u32 (h : Int)) := q7
        replace hw5 : Whl .u32 33 (wr.drewN nq) g5 ws := hw5
        replace hw6 : Whl .u32 34 (wr.drewN nq) g6 [a, b1, c1, d, e, f, g, h] := hw6
        replace hbx : Below wa.heap.size wa (wr.drewN nq) := below_drewN hbx nq
        clear qx qk
        generalize wr.drewN nq = wr at *
        clear f1 f2 f3 f4 f5 f6 f7 f8
        have f1 := wrap_add (oneW h e f g k x) (twoW a b1 c1)
        have f2 := wrap_add d (oneW h e f g k x)
        go_wp2_with (refine wpList_store_whl rfl 34 (.tmp 6) (.tmp 100) rfl g6 .u32 _ [a, b1, c1, d, e, f, g, h] [addw (oneW h e f g k x) (twoW a b1 c1), a, b1, c1, addw d (oneW h e f g k x), e, f, g] rfl rfl hw6 rfl size_8u32 ?_; intro w8 hw8 hg8 hs8; clear hs8 hw6)
        go_roundw
        case rel => exact ⟨t + 1, by go_num, by omega, hw5.grown hg8 (by simpa using hne.symm), by rw [hstep.out]; exact hw8, tr2 hg8 hbx hk6⟩
        case measure => simp [intOf]; omega
      · have h64 : t = 64 := by omega
        rw [h64] at hw6
        have hge : ((t : Int) < 64) = False := by simp; omega
        obtain ⟨V, hV⟩ : ∃ V, V = rounds8 hv K64 ws 64 := ⟨_, rfl⟩
        have hVl := Lib.hid (show V.length = 8 by rw [hV]; exact (rounds8_ok hv K64 ws 64 H8.out lh).1)
        have hVb : Lim 4294967296 V := by rw [hV]; exact (rounds8_ok hv K64 ws 64 H8.out lh).2
        have HV := Lib.hid hV
        rw [← hV] at hw6
        have hbw : Below w.heap.size w wr := hba.trans (hbx.mono hba.size)
        have hw4' := hw4.below hbx
        clear h64 hV hw5 hbx
        obtain ⟨t64, rfl⟩ : ∃ j, j = t := ⟨_, rfl⟩
        go_wp2_with fail
        go_loopw [102] (fun s wr => ∃ i : Nat, s = .int .i64 (i : Int) ∧ i ≤ 8 ∧ Whl .u32 34 wr g6 V ∧ Whl .u32 34 wr w.heap.size (pad 8 (outs hv V i)) ∧ Below w.heap.size w wr) (fun s _ => 8 - (intOf s).toNat)
        case atStart => exact ⟨0, rfl, by omega, hw6, hw4', hbw⟩
        case round =>
          clear hw6 hw4' hbw
          obtain ⟨i, rfl, hi, hw6, hw4', hbw⟩ := hrel
          by_cases hlt8 : i < 8
          · obtain ⟨a, hga⟩ := get_of_lt (xs := hv) (i := i) (by rw [H8.out]; exact hlt8)
            obtain ⟨v, hgv⟩ := get_of_lt (xs := V) (i := i) (by rw [hVl.out]; exact hlt8)
            have HS := Lib.hid (show outs hv V (i + 1) = outs hv V i ++ [addw a v] by rw [outs_succ, List.getD_eq_getElem?_getD, hga, List.getD_eq_getElem?_getD, hgv]; rfl)
            have q1 := (hH0.below hbw).cell (i := i) (ints_get hga)
            have q2 := hw6.blk.cell hgv
            have hpl : (outs hv V i).length < 8 := by rw [outs_length]; exact hlt8
            have hat := pad_at hpl
            rw [outs_length] at hat
            have q3 := hw4'.blk.cell hat
            have q4 := hw4'.blk.frozen hat
            have f1 := wrap_add a v
            clear hga hgv hat hpl
            go_wp2_with fail
            refine wp_region_still_tail 12 (by kernel_rfl) (by kernel_rfl) ?_
            simp only [List.take_succ_cons, List.take_zero, List.drop_succ_cons, List.drop_zero]
            show wpStill Try.prog _ wr.drew (fun a' => wpList Try.prog _ _ _ a' wr.drew) _ _
            replace q1 : wr.drew.cell? ⟨gs, 65 + i, none⟩ = some (.int .u32 (a : Int)) := q1
            replace q2 : wr.drew.cell? ⟨g6, i, none⟩ = some (.int .u32 (v : Int)) := q2
            replace q3 : wr.drew.cell? ⟨w.heap.size, i, none⟩ = some (.int .u32 ((0 : Nat) : Int)) := q3
            replace q4 : wr.drew.frozen? ⟨w.heap.size, i, none⟩ = false := q4
            replace hw6 : Whl .u32 34 wr.drew g6 V := hw6
            replace hw4' : Whl .u32 34 wr.drew w.heap.size (pad 8 (outs hv V i)) := hw4'
            replace hbw : Below w.heap.size w wr.drew := below_drewN hbw 1
            generalize wr.drew = wz at *
            have i1 : (0 : Int) ≤ (i : Int) := by omega
            have i2 : (i : Int) < 8 := by omega
            iterate 12 still_step
            refine wpStill_nil ?_
            clear i1 i2
            go_wp2_with fail
            go_roundw
            case rel =>
              refine ⟨i + 1, by go_num, by omega, hw6.far (p := ⟨w.heap.size, i, none⟩) (by show g6 ≠ w.heap.size; omega) _, ?_, hbw.setCell (p := ⟨w.heap.size, i, none⟩) (Nat.le_refl _) _⟩
              have h := hw4'.set i (addw a v)
              have h7 := pad_set (n := 8) (l := outs hv V i) (by rw [outs_length]; exact hlt8) (addw a v)
              rw [outs_length] at h7
              rw [h7, ← HS.out] at h
              exact h
            case measure => simp [intOf]; omega
          · obtain rfl : i = 8 := by omega
            have hfin : pad 8 (outs hv V 8) = compress hv b := by rw [pad_full (outs_length hv V 8), HV.out, HWS.out]; rfl
            rw [hfin] at hw4'
            have hcl8 := Lib.hid (show (compress hv b).length = 8 by simp [compress])
            have hsz : Hid ((Try.prog.info? 34).map (·.size) = some (compress hv b).length) := by rw [hcl8.out]; exact size_8u32
            clear hfin hw6
            generalize compress hv b = O at *
            go_wp2_with (first | (refine wpList_load_whl rfl 34 (.tmp 4) rfl w.heap.size rfl .u32 _ O hw4' _ Try.underlying34 rfl hsz.out ?_) | (refine wpList_store_whl rfl 34 (.tmp 4) (.tmp 118) rfl w.heap.size .u32 _ O O rfl rfl hw4' rfl hsz.out ?_; intro w3 hw3 hg3 hs3; clear hs3))
            exact bodyPost_ret (v := .agg (ints .u32 O).toArray) (results_whl rfl _ _ w.heap.size .u32 _ O _ rfl hw3 Try.underlying34 rfl hsz.out) rfl ⟨rfl, below_only hbw hg3 hbw.size (Nat.le_refl _)⟩
end Go.Proofs.Ytmbkehmgpcmicaa
