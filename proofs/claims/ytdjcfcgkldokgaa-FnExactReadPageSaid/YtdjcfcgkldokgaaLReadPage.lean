/- FnExactReadPage: the walk of the law's own text over the contracts of what it calls. Printed by gen_law.py, a program of this session. -/
import Derived.Test.YtdjcfcgkldokgaaE7
import Derived.Deep.RegionHeld3
namespace Go.Proofs.Ytdjcfcgkldokgaa
open Go.RowKit
set_option linter.unusedSimpArgs false
set_option linter.unusedVariables false

set_option maxRecDepth 100000 in
set_option maxHeartbeats 8000000 in
theorem ReadPage_walk (w : World) (v0 : Value) (x0 : DDisk) (F0 : List Nat) (h0 : Rep.Disk.V w v0 x0 F0) (v1 : Value) (x1 : DGeometry) (F1 : List Nat) (h1 : Rep.Geometry.V w v1 x1 F1) (x2 : Int) (e2 : (Lit.int .i64 x2).wf = true) :
    Calls Try.prog 9 #[v0, v1, .int .i64 x2] w fun e w' => e = .returned (.bool true) ∧ Ext w w' := by
  obtain ⟨_, ⟨A_P0_1, c_P0_1, F_P0_1, A_P0_2, c_P0_2, F_P0_2, rfl, rfl, wf_P0_, s_P0_1, s_P0_2⟩, rfl⟩ := h0
  have LT_P0 : Hid (∀ b ∈ F_P0_1 ++ F_P0_2, b < w.heap.size) := by
    intro b hb
    simp only [List.mem_append] at hb
    rcases hb with (hb | hb)
    · exact Rep.sl_lt s_P0_1 b hb
    · exact Rep.sl_lt s_P0_2 b hb
  obtain ⟨_, ⟨rfl, rfl, wf_P1_⟩, rfl⟩ := h1
  have hu_laws_Disk := Try.underlying25
  have hu_impl_Disk := Try.underlying29
  have hu_laws_Geometry := Try.underlying73
  have hu_impl_Geometry := Try.underlying75
  show Calls _ _ #[.agg #[_, _], .agg #[_, _, _], _] _ _
  go_enter Try.func9, Try.ntmps9
  have E_B_0 := Lib.hid (Only.refl [] w)
  have E_P0_0 := Lib.hid (Only.refl [] w)
  have E_P1_0 := Lib.hid (Only.refl [] w)
  go_wp2_with fail
  refine (szDisk_calls _ x0 _ _ _ ⟨_, ⟨A_P0_1, c_P0_1, _, A_P0_2, c_P0_2, _, rfl, rfl, wf_P0_, Rep.sl_ext s_P0_1 (((E_P0_0.out.alloc _).alloc _)), Rep.sl_ext s_P0_2 (((E_P0_0.out.alloc _).alloc _))⟩, rfl⟩ (by omega) (by omega)).mono ?_
  rintro e w1 ⟨⟨l0, rfl, hr⟩, hO⟩
  have SZ_1 : Hid (w.heap.size + 2 ≤ w1.heap.size) := by have := Only.size hO; (try simp at this); exact (by omega : w.heap.size + 2 ≤ w1.heap.size)
  have E_B_1 := Lib.hid (Only.ext (((E_B_0.out.alloc _).alloc _)) hO)
  have HBX_P0 := Lib.hid (Only.heap (Only.ext ((Only.refl [] (w.alloc (.cells #[.slice A_P0_1 x0.Durable.length c_P0_1, .slice A_P0_2 x0.Pending.length c_P0_2] 25))).alloc _) hO) (heap_alloc_new _ _) (by simp))
  have HBX_P1 := Lib.hid (Only.heap hO (heap_at (k := w.heap.size + 1) _ _ (by simp)) (by simp))
  have t_ := Rep.sl_ext s_P0_1 (Only.ext (((E_P0_0.out.alloc _).alloc _)) hO)
  clear s_P0_1
  have s_P0_1 := t_
  clear t_
  have t_ := Rep.sl_ext s_P0_2 (Only.ext (((E_P0_0.out.alloc _).alloc _)) hO)
  clear s_P0_2
  have s_P0_2 := t_
  clear t_
  clear E_P0_0
  have E_P0_1 := Lib.hid (Only.refl [] w1)
  clear E_P1_0
  have E_P1_1 := Lib.hid (Only.refl [] w1)
  clear E_B_0
  clear hO
  rcases hr with rfl | ⟨hr0, hr1⟩
  · go_wp2_with fail
    go_ret
    exact ⟨rfl, (E_B_1.out)⟩
  have h_aD : wtDisk x0 ≤ 1048576 := by omega
  have hq0_l0 : 0 ≤ l0 := hr0
  have hq1_l0 : l0 ≤ 1048576 := by omega
  clear hr0 hr1
  go_wp2_with fail
  have hO : Ext w1 (w1).drew := (Only.refl _ _).drew
  refine wp_region_noPanic ?_
  refine wp_region_held_drew (S := (fun w' => w'.cell? ⟨w.heap.size, 0, none⟩ = some (.slice A_P0_1 x0.Durable.length c_P0_1) ∧ w'.cell? ⟨w.heap.size, 1, none⟩ = some (.slice A_P0_2 x0.Pending.length c_P0_2) ∧ w'.cell? ⟨w.heap.size + 1, 0, none⟩ = some (.int .i64 x1.Pages) ∧ w'.cell? ⟨w.heap.size + 1, 1, none⟩ = some (.int .i64 x1.Frames) ∧ w'.cell? ⟨w.heap.size + 1, 2, none⟩ = some (.int .i64 x1.LogSectors))) (by kernel_rfl) ?_ (fun hHeld => ?_)
  · exact ⟨cell_of_row _ _ 0 _ _ _ (hO.heap (Only.heap (E_P0_1.out) HBX_P0.out (by simp)) (by simp)), cell_of_row _ _ 1 _ _ _ (hO.heap (Only.heap (E_P0_1.out) HBX_P0.out (by simp)) (by simp)), cell_of_row _ _ 0 _ _ _ (hO.heap (Only.heap (E_P1_1.out) HBX_P1.out (by simp)) (by simp)), cell_of_row _ _ 1 _ _ _ (hO.heap (Only.heap (E_P1_1.out) HBX_P1.out (by simp)) (by simp)), cell_of_row _ _ 2 _ _ _ (hO.heap (Only.heap (E_P1_1.out) HBX_P1.out (by simp)) (by simp))⟩
  generalize (w1).drew = w2 at hO hHeld ⊢
  have SZ_2 : Hid (w1.heap.size + 0 ≤ w2.heap.size) := by have := Only.size hO; (try simp at this); exact (by omega : w1.heap.size + 0 ≤ w2.heap.size)
  have E_B_2 := Lib.hid (Only.ext (E_B_1.out) hO)
  have E_P0_2 := Lib.hid (Only.ext (E_P0_1.out) hO)
  have E_P1_2 := Lib.hid (Only.ext (E_P1_1.out) hO)
  clear E_B_1 E_P0_1 E_P1_1
  clear hO
  refine wpAnyH_take (i := 0) (v := ?_) rfl (by kernel_rfl) (by kernel_rfl) (by kernel_rfl) (fun _ _ _ h => h) (Or.inl ⟨by rfl, ?_⟩) (by assumption) ?_
  rotate_left
  · intro w hSw; (try dsimp only at hSw); go_simp <;> with_reducible rfl
  try simp only [Act.put, List.setIfInBounds_toArray, List.set_cons_zero, List.set_cons_succ]
  refine wpAnyH_take (i := 2) (v := ?_) rfl (by kernel_rfl) (by kernel_rfl) (by kernel_rfl) (fun _ _ _ h => h) (Or.inl ⟨by rfl, ?_⟩) (by assumption) ?_
  rotate_left
  · intro w hSw; (try dsimp only at hSw); go_simp <;> with_reducible rfl
  try simp only [Act.put, List.setIfInBounds_toArray, List.set_cons_zero, List.set_cons_succ]
  refine wpAnyH_take (i := 4) (v := ?_) rfl (by kernel_rfl) (by kernel_rfl) (by kernel_rfl) (fun _ _ _ h => h) (Or.inl ⟨by rfl, ?_⟩) (by assumption) ?_
  rotate_left
  · intro w hSw; (try dsimp only at hSw); go_simp <;> with_reducible rfl
  try simp only [Act.put, List.setIfInBounds_toArray, List.set_cons_zero, List.set_cons_succ]
  refine wpAnyH_ready (rs := [1]) (by kernel_rfl) (by simp) ?_
  refine AllReadyH.cons rfl (fun K hK => ?_) ?_
  rotate_left
  · exact AllReadyH.nil
  go_simp
  refine (toDisk_calls _ x0 _ _ ⟨_, ⟨A_P0_1, c_P0_1, _, A_P0_2, c_P0_2, _, rfl, rfl, wf_P0_, Rep.sl_ext s_P0_1 (E_P0_2.out), Rep.sl_ext s_P0_2 (E_P0_2.out)⟩, rfl⟩ h_aD).mono ?_
  rintro e w3 ⟨v_T0w0, F_T0w0_, rfl, hV, hN⟩
  obtain ⟨_, ⟨A_T0w0_1, c_T0w0_1, F_T0w0_1, A_T0w0_2, c_T0w0_2, F_T0w0_2, rfl, rfl, wf_T0w0_, s_T0w0_1, s_T0w0_2⟩, hv⟩ := hV
  replace hv : v_T0w0 = .agg #[_, _] := hv
  subst hv
  have LT_T0w0 : Hid (∀ b ∈ F_T0w0_1 ++ F_T0w0_2, b < w3.heap.size) := (by
    intro b hb
    simp only [List.mem_append] at hb
    rcases hb with (hb | hb)
    · exact Rep.sl_lt s_T0w0_1 b hb
    · exact Rep.sl_lt s_T0w0_2 b hb)
  have GE_T0w0 : Hid (∀ b ∈ F_T0w0_1 ++ F_T0w0_2, w2.heap.size + 0 ≤ b) := by
    have h : ∀ b ∈ F_T0w0_1 ++ F_T0w0_2, _ := hN.new
    try simp only [World.alloc, Array.size_push] at h
    exact h
  have U_T0w0 := Lib.hid hN.unfr
  have ND_T0w0 := Lib.hid hN.nodup
  have SZ_3 : Hid (w2.heap.size + 0 ≤ w3.heap.size) := by have := Only.size hN.ext; (try simp at this); exact (by omega : w2.heap.size + 0 ≤ w3.heap.size)
  have E_B_3 := Lib.hid (Only.ext (E_B_2.out) hN.ext)
  have E_P0_3 := Lib.hid (Only.ext (E_P0_2.out) hN.ext)
  have E_P1_3 := Lib.hid (Only.ext (E_P1_2.out) hN.ext)
  clear E_B_2 E_P0_2 E_P1_2
  clear hN
  have cl_P0 := fun o => cell_of_row _ _ o _ _ _ (E_P0_3.out.heap HBX_P0.out (by simp))
  have cl_P1 := fun o => cell_of_row _ _ o _ _ _ (E_P1_3.out.heap HBX_P1.out (by simp))
  refine hK.out _ _ ?_ (fun hHeld => ?_)
  · (try dsimp only); exact ⟨cl_P0 0, cl_P0 1, cl_P1 0, cl_P1 1, cl_P1 2⟩
  clear hK K cl_P0 cl_P1
  try simp only [Act.put, List.setIfInBounds_toArray, List.set_cons_zero, List.set_cons_succ]
  have E_T0w0_3 := Lib.hid (Only.refl [] w3)
  refine wpAnyH_ready (rs := [3]) (by kernel_rfl) (by simp) ?_
  refine AllReadyH.cons rfl (fun K hK => ?_) ?_
  rotate_left
  · exact AllReadyH.nil
  go_simp
  refine (toGeometry_calls _ x1 _ _ ⟨_, ⟨rfl, rfl, wf_P1_⟩, rfl⟩).mono ?_
  rintro e w4 ⟨v_T1w0, F_T1w0_, rfl, hV, hN⟩
  obtain ⟨_, ⟨rfl, rfl, wf_T1w0_⟩, hv⟩ := hV
  replace hv : v_T1w0 = .agg #[_, _, _] := hv
  subst hv
  have LT_T1w0 : Hid (∀ b ∈ [], b < w4.heap.size) := (fun b hb => absurd hb (by simp))
  have GE_T1w0 : Hid (∀ b ∈ [], w3.heap.size + 0 ≤ b) := by
    have h : ∀ b ∈ [], _ := hN.new
    try simp only [World.alloc, Array.size_push] at h
    exact h
  have U_T1w0 := Lib.hid hN.unfr
  have ND_T1w0 := Lib.hid hN.nodup
  have SZ_4 : Hid (w3.heap.size + 0 ≤ w4.heap.size) := by have := Only.size hN.ext; (try simp at this); exact (by omega : w3.heap.size + 0 ≤ w4.heap.size)
  have E_B_4 := Lib.hid (Only.ext (E_B_3.out) hN.ext)
  have E_P0_4 := Lib.hid (Only.ext (E_P0_3.out) hN.ext)
  have E_P1_4 := Lib.hid (Only.ext (E_P1_3.out) hN.ext)
  have E_T0w0_4 := Lib.hid (Only.ext (E_T0w0_3.out) hN.ext)
  clear E_B_3 E_P0_3 E_P1_3 E_T0w0_3
  clear hN
  have cl_P0 := fun o => cell_of_row _ _ o _ _ _ (E_P0_4.out.heap HBX_P0.out (by simp))
  have cl_P1 := fun o => cell_of_row _ _ o _ _ _ (E_P1_4.out.heap HBX_P1.out (by simp))
  refine hK.out _ _ ?_ (fun hHeld => ?_)
  · (try dsimp only); exact ⟨cl_P0 0, cl_P0 1, cl_P1 0, cl_P1 1, cl_P1 2⟩
  clear hK K cl_P0 cl_P1
  try simp only [Act.put, List.setIfInBounds_toArray, List.set_cons_zero, List.set_cons_succ]
  have E_T1w0_4 := Lib.hid (Only.refl [] w4)
  refine wpAnyH_ready (rs := [5]) (by kernel_rfl) (by simp) ?_
  refine AllReadyH.cons rfl (fun K hK => ?_) ?_
  rotate_left
  · exact AllReadyH.nil
  go_simp
  refine (specReadPage_calls _ _ x0 _ ⟨_, ⟨A_T0w0_1, c_T0w0_1, _, A_T0w0_2, c_T0w0_2, _, rfl, rfl, wf_T0w0_, Rep.sl_ext s_T0w0_1 (E_T0w0_4.out), Rep.sl_ext s_T0w0_2 (E_T0w0_4.out)⟩, rfl⟩ _ x1 _ ⟨_, ⟨rfl, rfl, wf_T1w0_⟩, rfl⟩ x2 e2 h_aD).mono ?_
  rintro e w5 ⟨v_w0, F_w0_1, rfl, hV, hO⟩
  obtain ⟨R, HR⟩ : ∃ R, Hid (readPage x0 x1 x2 = R) := ⟨_, rfl⟩
  rw [HR.out] at hV
  obtain ⟨A_w0_1, c_w0_1, rfl, s_w0_1⟩ := Rep.slice_V hV
  have hct : (R.length) ≤ 1152921504606846976 := by rw [← HR.out]; exact (by have := readPage_len x0 x1 x2; omega)
  have LT_w0 : Hid (∀ b ∈ F_w0_1, b < w5.heap.size) := (fun b hb => Rep.sl_lt s_w0_1 b hb)
  have SZ_5 : Hid (w4.heap.size + 0 ≤ w5.heap.size) := by have := Only.size hO; (try simp at this); exact (by omega : w4.heap.size + 0 ≤ w5.heap.size)
  have E_B_5 := Lib.hid (Only.ext (E_B_4.out) hO)
  have E_P0_5 := Lib.hid (Only.ext (E_P0_4.out) hO)
  have E_P1_5 := Lib.hid (Only.ext (E_P1_4.out) hO)
  have E_T0w0_5 := Lib.hid (Only.ext (E_T0w0_4.out) hO)
  have E_T1w0_5 := Lib.hid (Only.ext (E_T1w0_4.out) hO)
  clear E_B_4 E_P0_4 E_P1_4 E_T0w0_4 E_T1w0_4
  clear hO
  have cl_P0 := fun o => cell_of_row _ _ o _ _ _ (E_P0_5.out.heap HBX_P0.out (by simp))
  have cl_P1 := fun o => cell_of_row _ _ o _ _ _ (E_P1_5.out.heap HBX_P1.out (by simp))
  refine hK.out _ _ ?_ (fun hHeld => ?_)
  · (try dsimp only); exact ⟨cl_P0 0, cl_P0 1, cl_P1 0, cl_P1 1, cl_P1 2⟩
  clear hK K cl_P0 cl_P1
  try simp only [Act.put, List.setIfInBounds_toArray, List.set_cons_zero, List.set_cons_succ]
  refine wpAnyH_take (i := 6) (v := ?_) rfl (by kernel_rfl) (by kernel_rfl) (by kernel_rfl) (fun _ _ _ h => h) (Or.inl ⟨by rfl, ?_⟩) (by assumption) ?_
  rotate_left
  · intro w hSw; (try dsimp only at hSw); go_simp <;> with_reducible rfl
  try simp only [Act.put, List.setIfInBounds_toArray, List.set_cons_zero, List.set_cons_succ]
  refine wpAnyH_done (by kernel_rfl) ?_ _
  refine NoPanic.normal ?_
  clear E_T0w0_5
  clear E_T1w0_5
  have E_w0_5 := Lib.hid (Only.refl [] w5)
  have hh_P0 := E_P0_5.out.heap HBX_P0.out (by simp)
  have z_P0 := (Array.getElem?_eq_some_iff.1 hh_P0).1
  have cl_P0 := fun o => cell_of_row _ _ o _ _ _ hh_P0
  clear hh_P0
  go_wp2_with fail
  refine (toDisk_calls _ x0 _ _ ⟨_, ⟨A_P0_1, c_P0_1, _, A_P0_2, c_P0_2, _, rfl, rfl, wf_P0_, Rep.sl_ext s_P0_1 (E_P0_5.out), Rep.sl_ext s_P0_2 (E_P0_5.out)⟩, rfl⟩ h_aD).mono ?_
  rintro e w6 ⟨v_X0, F_X0_, rfl, hV, hN⟩
  clear z_P0 cl_P0
  obtain ⟨_, ⟨A_X0_1, c_X0_1, F_X0_1, A_X0_2, c_X0_2, F_X0_2, rfl, rfl, wf_X0_, s_X0_1, s_X0_2⟩, hv⟩ := hV
  replace hv : v_X0 = .agg #[_, _] := hv
  subst hv
  have LT_X0 : Hid (∀ b ∈ F_X0_1 ++ F_X0_2, b < w6.heap.size) := (by
    intro b hb
    simp only [List.mem_append] at hb
    rcases hb with (hb | hb)
    · exact Rep.sl_lt s_X0_1 b hb
    · exact Rep.sl_lt s_X0_2 b hb)
  have GE_X0 : Hid (∀ b ∈ F_X0_1 ++ F_X0_2, w5.heap.size + 0 ≤ b) := by
    have h : ∀ b ∈ F_X0_1 ++ F_X0_2, _ := hN.new
    try simp only [World.alloc, Array.size_push] at h
    exact h
  have U_X0 := Lib.hid hN.unfr
  have ND_X0 := Lib.hid hN.nodup
  have SZ_6 : Hid (w5.heap.size + 0 ≤ w6.heap.size) := by have := Only.size hN.ext; (try simp at this); exact (by omega : w5.heap.size + 0 ≤ w6.heap.size)
  have E_B_6 := Lib.hid (Only.ext (E_B_5.out) hN.ext)
  have E_P0_6 := Lib.hid (Only.ext (E_P0_5.out) hN.ext)
  have E_P1_6 := Lib.hid (Only.ext (E_P1_5.out) hN.ext)
  have E_w0_6 := Lib.hid (Only.ext (E_w0_5.out) hN.ext)
  clear E_B_5 E_P0_5 E_P1_5 E_w0_5
  clear hN
  have E_X0_6 := Lib.hid (Only.refl [] w6)
  go_wp2_with fail
  have hO : Ext (w6.alloc (.cells #[.slice A_X0_1 x0.Durable.length c_X0_1, .slice A_X0_2 x0.Pending.length c_X0_2] 29)) ((w6.alloc (.cells #[.slice A_X0_1 x0.Durable.length c_X0_1, .slice A_X0_2 x0.Pending.length c_X0_2] 29))).drew := (Only.refl _ _).drew
  refine wp_region_noPanic ?_
  refine wp_region_held_drew (S := (fun w' => w'.cell? ⟨w6.heap.size, 0, none⟩ = some (.slice A_X0_1 x0.Durable.length c_X0_1) ∧ w'.cell? ⟨w6.heap.size, 1, none⟩ = some (.slice A_X0_2 x0.Pending.length c_X0_2) ∧ w'.cell? ⟨w.heap.size + 1, 0, none⟩ = some (.int .i64 x1.Pages) ∧ w'.cell? ⟨w.heap.size + 1, 1, none⟩ = some (.int .i64 x1.Frames) ∧ w'.cell? ⟨w.heap.size + 1, 2, none⟩ = some (.int .i64 x1.LogSectors))) (by kernel_rfl) ?_ (fun hHeld => ?_)
  · exact ⟨cell_of_row _ _ 0 _ _ _ (hO.heap (heap_alloc_new _ _) (by simp)), cell_of_row _ _ 1 _ _ _ (hO.heap (heap_alloc_new _ _) (by simp)), cell_of_row _ _ 0 _ _ _ (hO.heap (Only.heap ((E_P1_6.out.alloc _)) HBX_P1.out (by simp)) (by simp)), cell_of_row _ _ 1 _ _ _ (hO.heap (Only.heap ((E_P1_6.out.alloc _)) HBX_P1.out (by simp)) (by simp)), cell_of_row _ _ 2 _ _ _ (hO.heap (Only.heap ((E_P1_6.out.alloc _)) HBX_P1.out (by simp)) (by simp))⟩
  generalize ((w6.alloc (.cells #[.slice A_X0_1 x0.Durable.length c_X0_1, .slice A_X0_2 x0.Pending.length c_X0_2] 29))).drew = w7 at hO hHeld ⊢
  have SZ_7 : Hid (w6.heap.size + 1 ≤ w7.heap.size) := by have := Only.size hO; (try simp at this); exact (by omega : w6.heap.size + 1 ≤ w7.heap.size)
  have E_B_7 := Lib.hid (Only.ext ((E_B_6.out.alloc _)) hO)
  have E_P0_7 := Lib.hid (Only.ext ((E_P0_6.out.alloc _)) hO)
  have E_P1_7 := Lib.hid (Only.ext ((E_P1_6.out.alloc _)) hO)
  have E_w0_7 := Lib.hid (Only.ext ((E_w0_6.out.alloc _)) hO)
  have HBX_X0 := Lib.hid (Only.heap hO (heap_alloc_new _ _) (by simp))
  have t_ := Rep.sl_ext s_X0_1 (Only.ext ((E_X0_6.out.alloc _)) hO)
  clear s_X0_1
  have s_X0_1 := t_
  clear t_
  have t_ := Rep.sl_ext s_X0_2 (Only.ext ((E_X0_6.out.alloc _)) hO)
  clear s_X0_2
  have s_X0_2 := t_
  clear t_
  have t_ := Lib.hid (Unfr.ext U_X0.out (Only.ext ((E_X0_6.out.alloc _)) hO) (fun b hb => by have h1 := LT_X0.out b hb; have h2 := E_X0_6.out.size; omega))
  clear U_X0
  have U_X0 := t_
  clear t_
  clear E_X0_6
  have E_X0_7 := Lib.hid (Only.refl [] w7)
  clear E_B_6 E_P0_6 E_P1_6 E_w0_6
  clear hO
  refine wpAnyH_take (i := 0) (v := ?_) rfl (by kernel_rfl) (by kernel_rfl) (by kernel_rfl) (fun _ _ _ h => h) (Or.inl ⟨by rfl, ?_⟩) (by assumption) ?_
  rotate_left
  · intro w hSw; (try dsimp only at hSw); go_simp <;> with_reducible rfl
  try simp only [Act.put, List.setIfInBounds_toArray, List.set_cons_zero, List.set_cons_succ]
  refine wpAnyH_take (i := 1) (v := ?_) rfl (by kernel_rfl) (by kernel_rfl) (by kernel_rfl) (fun _ _ _ h => h) (Or.inl ⟨by rfl, ?_⟩) (by assumption) ?_
  rotate_left
  · intro w hSw; (try dsimp only at hSw); go_simp <;> with_reducible rfl
  try simp only [Act.put, List.setIfInBounds_toArray, List.set_cons_zero, List.set_cons_succ]
  refine wpAnyH_take (i := 3) (v := ?_) rfl (by kernel_rfl) (by kernel_rfl) (by kernel_rfl) (fun _ _ _ h => h) (Or.inl ⟨by rfl, ?_⟩) (by assumption) ?_
  rotate_left
  · intro w hSw; (try dsimp only at hSw); go_simp <;> with_reducible rfl
  try simp only [Act.put, List.setIfInBounds_toArray, List.set_cons_zero, List.set_cons_succ]
  refine wpAnyH_ready (rs := [2]) (by kernel_rfl) (by simp) ?_
  refine AllReadyH.cons rfl (fun K hK => ?_) ?_
  rotate_left
  · exact AllReadyH.nil
  go_simp
  refine (toGeometry_calls _ x1 _ _ ⟨_, ⟨rfl, rfl, wf_P1_⟩, rfl⟩).mono ?_
  rintro e w8 ⟨v_T0g0, F_T0g0_, rfl, hV, hN⟩
  obtain ⟨_, ⟨rfl, rfl, wf_T0g0_⟩, hv⟩ := hV
  replace hv : v_T0g0 = .agg #[_, _, _] := hv
  subst hv
  have LT_T0g0 : Hid (∀ b ∈ [], b < w8.heap.size) := (fun b hb => absurd hb (by simp))
  have GE_T0g0 : Hid (∀ b ∈ [], w7.heap.size + 0 ≤ b) := by
    have h : ∀ b ∈ [], _ := hN.new
    try simp only [World.alloc, Array.size_push] at h
    exact h
  have U_T0g0 := Lib.hid hN.unfr
  have ND_T0g0 := Lib.hid hN.nodup
  have SZ_8 : Hid (w7.heap.size + 0 ≤ w8.heap.size) := by have := Only.size hN.ext; (try simp at this); exact (by omega : w7.heap.size + 0 ≤ w8.heap.size)
  have E_B_8 := Lib.hid (Only.ext (E_B_7.out) hN.ext)
  have E_P0_8 := Lib.hid (Only.ext (E_P0_7.out) hN.ext)
  have E_P1_8 := Lib.hid (Only.ext (E_P1_7.out) hN.ext)
  have E_w0_8 := Lib.hid (Only.ext (E_w0_7.out) hN.ext)
  have E_X0_8 := Lib.hid (Only.ext (E_X0_7.out) hN.ext)
  clear E_B_7 E_P0_7 E_P1_7 E_w0_7 E_X0_7
  clear hN
  have cl_X0 := fun o => cell_of_row _ _ o _ _ _ (E_X0_8.out.heap HBX_X0.out (by simp))
  have cl_P1 := fun o => cell_of_row _ _ o _ _ _ (E_P1_8.out.heap HBX_P1.out (by simp))
  refine hK.out _ _ ?_ (fun hHeld => ?_)
  · (try dsimp only); exact ⟨cl_X0 0, cl_X0 1, cl_P1 0, cl_P1 1, cl_P1 2⟩
  clear hK K cl_X0 cl_P1
  try simp only [Act.put, List.setIfInBounds_toArray, List.set_cons_zero, List.set_cons_succ]
  have E_T0g0_8 := Lib.hid (Only.refl [] w8)
  refine wpAnyH_ready (rs := [4]) (by kernel_rfl) (by simp) ?_
  refine AllReadyH.cons rfl (fun K hK => ?_) ?_
  rotate_left
  · exact AllReadyH.nil
  go_simp
  refine (implReadPage_new _ _ x0 _ ⟨_, ⟨A_X0_1, c_X0_1, _, A_X0_2, c_X0_2, _, rfl, rfl, wf_X0_, Rep.sl_ext s_X0_1 (E_X0_8.out), Rep.sl_ext s_X0_2 (E_X0_8.out)⟩, rfl⟩ _ x1 _ ⟨_, ⟨rfl, rfl, wf_T0g0_⟩, rfl⟩ x2 e2 h_aD).mono ?_
  rintro e w9 ⟨v_g0, F_g0_1, rfl, hV, hN⟩
  rw [HR.out] at hV
  obtain ⟨A_g0_1, c_g0_1, rfl, s_g0_1⟩ := Rep.slice_V hV
  have LT_g0 : Hid (∀ b ∈ F_g0_1, b < w9.heap.size) := (fun b hb => Rep.sl_lt s_g0_1 b hb)
  have GE_g0 : Hid (∀ b ∈ F_g0_1, w8.heap.size + 0 ≤ b) := by
    have h : ∀ b ∈ F_g0_1, _ := hN.new
    try simp only [World.alloc, Array.size_push] at h
    exact h
  have U_g0 := Lib.hid hN.unfr
  have ND_g0 := Lib.hid hN.nodup
  have SZ_9 : Hid (w8.heap.size + 0 ≤ w9.heap.size) := by have := Only.size hN.ext; (try simp at this); exact (by omega : w8.heap.size + 0 ≤ w9.heap.size)
  have E_B_9 := Lib.hid (Only.ext (E_B_8.out) hN.ext)
  have E_P0_9 := Lib.hid (Only.ext (E_P0_8.out) hN.ext)
  have E_P1_9 := Lib.hid (Only.ext (E_P1_8.out) hN.ext)
  have E_w0_9 := Lib.hid (Only.ext (E_w0_8.out) hN.ext)
  have E_X0_9 := Lib.hid (Only.ext (E_X0_8.out) hN.ext)
  have E_T0g0_9 := Lib.hid (Only.ext (E_T0g0_8.out) hN.ext)
  clear E_B_8 E_P0_8 E_P1_8 E_w0_8 E_X0_8 E_T0g0_8
  clear hN
  have cl_X0 := fun o => cell_of_row _ _ o _ _ _ (E_X0_9.out.heap HBX_X0.out (by simp))
  have cl_P1 := fun o => cell_of_row _ _ o _ _ _ (E_P1_9.out.heap HBX_P1.out (by simp))
  refine hK.out _ _ ?_ (fun hHeld => ?_)
  · (try dsimp only); exact ⟨cl_X0 0, cl_X0 1, cl_P1 0, cl_P1 1, cl_P1 2⟩
  clear hK K cl_X0 cl_P1
  try simp only [Act.put, List.setIfInBounds_toArray, List.set_cons_zero, List.set_cons_succ]
  refine wpAnyH_take (i := 5) (v := ?_) rfl (by kernel_rfl) (by kernel_rfl) (by kernel_rfl) (fun _ _ _ h => h) (Or.inl ⟨by rfl, ?_⟩) (by assumption) ?_
  rotate_left
  · intro w hSw; (try dsimp only at hSw); go_simp <;> with_reducible rfl
  try simp only [Act.put, List.setIfInBounds_toArray, List.set_cons_zero, List.set_cons_succ]
  refine wpAnyH_done (by kernel_rfl) ?_ _
  refine NoPanic.normal ?_
  clear E_T0g0_9
  have E_g0_9 := Lib.hid (Only.refl [] w9)
  go_wp2_with fail
  refine (eqByteS_calls _ _ _ _ _ _ _ _ _ (Rep.sl_ext s_g0_1 (E_g0_9.out)) (Rep.sl_ext s_w0_1 (E_w0_9.out))).mono ?_
  rintro e w10 ⟨rfl, hO⟩
  rw [show decide (R = R) = true from decide_eq_true rfl]
  have SZ_10 : Hid (w9.heap.size + 0 ≤ w10.heap.size) := by have := Only.size hO; (try simp at this); exact (by omega : w9.heap.size + 0 ≤ w10.heap.size)
  have E_B_10 := Lib.hid (Only.ext (E_B_9.out) hO)
  have E_P0_10 := Lib.hid (Only.ext (E_P0_9.out) hO)
  have E_P1_10 := Lib.hid (Only.ext (E_P1_9.out) hO)
  have E_w0_10 := Lib.hid (Only.ext (E_w0_9.out) hO)
  have E_X0_10 := Lib.hid (Only.ext (E_X0_9.out) hO)
  have E_g0_10 := Lib.hid (Only.ext (E_g0_9.out) hO)
  clear E_B_9 E_P0_9 E_P1_9 E_w0_9 E_X0_9 E_g0_9
  clear hO
  have hh_P0 := E_P0_10.out.heap HBX_P0.out (by simp)
  have z_P0 := (Array.getElem?_eq_some_iff.1 hh_P0).1
  have cl_P0 := fun o => cell_of_row _ _ o _ _ _ hh_P0
  clear hh_P0
  have hh_X0 := E_X0_10.out.heap HBX_X0.out (by simp)
  have z_X0 := (Array.getElem?_eq_some_iff.1 hh_X0).1
  have cl_X0 := fun o => cell_of_row _ _ o _ _ _ hh_X0
  clear hh_X0
  go_wp2_with fail
  have k0 : w10.cell? ⟨w.heap.size, 0, none⟩ = some (.slice A_P0_1 x0.Durable.length c_P0_1) := cl_P0 0
  have k1 : w10.cell? ⟨w.heap.size, 1, none⟩ = some (.slice A_P0_2 x0.Pending.length c_P0_2) := cl_P0 1
  have m0 : w10.cell? ⟨w6.heap.size, 0, none⟩ = some (.slice A_X0_1 x0.Durable.length c_X0_1) := cl_X0 0
  have m1 : w10.cell? ⟨w6.heap.size, 1, none⟩ = some (.slice A_X0_2 x0.Pending.length c_X0_2) := cl_X0 1
  clear cl_P0 cl_X0
  go_region_held3 (fun w' => w'.cell? ⟨w.heap.size, 0, none⟩ = some (.slice A_P0_1 x0.Durable.length c_P0_1) ∧ w'.cell? ⟨w.heap.size, 1, none⟩ = some (.slice A_P0_2 x0.Pending.length c_P0_2) ∧ w'.cell? ⟨w6.heap.size, 0, none⟩ = some (.slice A_X0_1 x0.Durable.length c_X0_1) ∧ w'.cell? ⟨w6.heap.size, 1, none⟩ = some (.slice A_X0_2 x0.Pending.length c_X0_2))
    (first | go_keep | exact ⟨hN.ext.ecell k0, hN.ext.ecell k1, hN.ext.ecell m0, hN.ext.ecell m1⟩ | (go_split_ands; exact ⟨hO.ecell (by assumption), hO.ecell (by assumption), hO.ecell (by assumption), hO.ecell (by assumption)⟩))
    (first
      | (go_at_call 12; refine (toDisk_calls _ x0 _ _ ⟨_, ⟨A_P0_1, c_P0_1, _, A_P0_2, c_P0_2, _, rfl, rfl, wf_P0_, Rep.sl_ext s_P0_1 E_P0_10.out.drew, Rep.sl_ext s_P0_2 E_P0_10.out.drew⟩, rfl⟩ h_aD).mono ?_; rintro e w11 ⟨v6, G6, rfl, hV6, hN⟩)
      | (go_at_call 14; refine (eqDisk_calls _ x0 _ _ x0 _ _ ⟨_, ⟨A_X0_1, c_X0_1, _, A_X0_2, c_X0_2, _, rfl, rfl, wf_X0_, Rep.sl_ext s_X0_1 (Only.ext E_X0_10.out.drew hN.ext), Rep.sl_ext s_X0_2 (Only.ext E_X0_10.out.drew hN.ext)⟩, rfl⟩ hV6).mono ?_; rintro e w12 ⟨rfl, hO⟩; rw [show decide (x0 = x0) = true from decide_eq_true rfl]))
  have hO2 := Only.ext (Only.ext ((Only.refl [] w10).drew) hN.ext) hO
  clear hN hO hV6 z_P0 z_X0 k0 k1 m0 m1
  have hO := hO2
  clear hO2
  have SZ_12 : Hid (w10.heap.size + 0 ≤ w12.heap.size) := by have := Only.size hO; exact (by omega : w10.heap.size + 0 ≤ w12.heap.size)
  have SZ_11 : Hid (w10.heap.size + 0 ≤ w10.heap.size) := Nat.le_refl _
  have E_B_12 := Lib.hid (Only.ext E_B_10.out hO)
  have E_P0_12 := Lib.hid (Only.ext E_P0_10.out hO)
  have E_P1_12 := Lib.hid (Only.ext E_P1_10.out hO)
  have E_w0_12 := Lib.hid (Only.ext E_w0_10.out hO)
  have E_X0_12 := Lib.hid (Only.ext E_X0_10.out hO)
  have E_g0_12 := Lib.hid (Only.ext E_g0_10.out hO)
  clear hO E_B_10 E_P0_10 E_P1_10 E_w0_10 E_X0_10 E_g0_10
  have hk_X0 : ctTopDisk x0 ≤ 64 * (wtDisk x0) := ctTopDisk_wt _
  have hh_X0 := E_X0_12.out.heap HBX_X0.out (by simp)
  have z_X0 := (Array.getElem?_eq_some_iff.1 hh_X0).1
  have cl_X0 := fun o => cell_of_row _ _ o _ _ _ hh_X0
  clear hh_X0
  go_wp2_with fail
  refine (markDisk_calls _ x0 (F_X0_1 ++ F_X0_2) (1) _ ⟨_, ⟨A_X0_1, c_X0_1, _, A_X0_2, c_X0_2, _, rfl, rfl, wf_X0_, Rep.sl_ext s_X0_1 (E_X0_12.out), Rep.sl_ext s_X0_2 (E_X0_12.out)⟩, rfl⟩ ND_X0.out (Unfr.ext U_X0.out (E_X0_12.out) (fun b hb => by have h1 := LT_X0.out b hb; have q7 := SZ_7.out; omega)) (by omega) (by omega)).mono ?_
  rintro e w13 ⟨rfl, hV, hO, hU⟩
  clear z_X0 cl_X0
  have SZ_13 : Hid (w12.heap.size + 0 ≤ w13.heap.size) := by have := Only.size hO; exact (by omega : w12.heap.size + 0 ≤ w13.heap.size)
  have E_B_13 := Lib.hid (Only.then_ E_B_12.out hO (fun g hg h => by have h1 := GE_X0.out g hg; have q1 := SZ_1.out; have q2 := SZ_2.out; have q3 := SZ_3.out; have q4 := SZ_4.out; have q5 := SZ_5.out; omega))
  have t_ := Rep.sl_only (Rep.sl_ext s_P0_1 E_P0_12.out) hO (fun b hb hb' => by have h1 := LT_P0.out b (by simp [hb]); have h2 := GE_X0.out b hb'; have q1 := SZ_1.out; have q2 := SZ_2.out; have q3 := SZ_3.out; have q4 := SZ_4.out; have q5 := SZ_5.out; omega)
  clear s_P0_1
  have s_P0_1 := t_
  clear t_
  have t_ := Rep.sl_only (Rep.sl_ext s_P0_2 E_P0_12.out) hO (fun b hb hb' => by have h1 := LT_P0.out b (by simp [hb]); have h2 := GE_X0.out b hb'; have q1 := SZ_1.out; have q2 := SZ_2.out; have q3 := SZ_3.out; have q4 := SZ_4.out; have q5 := SZ_5.out; omega)
  clear s_P0_2
  have s_P0_2 := t_
  clear t_
  have t_ := Lib.hid (Only.heap hO (Only.heap E_P0_12.out HBX_P0.out (by simp)) (fun hb => by have h1 := GE_X0.out _ hb; have q1 := SZ_1.out; have q2 := SZ_2.out; have q3 := SZ_3.out; have q4 := SZ_4.out; have q5 := SZ_5.out; omega))
  clear HBX_P0
  have HBX_P0 := t_
  clear t_
  have E_P0_13 := Lib.hid (Only.refl [] w13)
  have t_ := Lib.hid (Only.heap hO (Only.heap E_P1_12.out HBX_P1.out (by simp)) (fun hb => by have h1 := GE_X0.out _ hb; have q1 := SZ_1.out; have q2 := SZ_2.out; have q3 := SZ_3.out; have q4 := SZ_4.out; have q5 := SZ_5.out; omega))
  clear HBX_P1
  have HBX_P1 := t_
  clear t_
  have E_P1_13 := Lib.hid (Only.refl [] w13)
  have t_ := Rep.sl_only (Rep.sl_ext s_w0_1 E_w0_12.out) hO (fun b hb hb' => by have h1 := LT_w0.out b (hb); have h2 := GE_X0.out b hb'; omega)
  clear s_w0_1
  have s_w0_1 := t_
  clear t_
  have E_w0_13 := Lib.hid (Only.refl [] w13)
  have t_ := Rep.sl_only (Rep.sl_ext s_g0_1 E_g0_12.out) hO (fun b hb hb' => by have h1 := GE_g0.out b (hb); have h2 := LT_X0.out b hb'; have q7 := SZ_7.out; have q8 := SZ_8.out; omega)
  clear s_g0_1
  have s_g0_1 := t_
  clear t_
  have t_ := Lib.hid (Unfr.only (Unfr.ext U_g0.out E_g0_12.out (fun b hb => by have h1 := LT_g0.out b hb; omega)) hO (fun b hb => by have h1 := LT_g0.out b hb; have q10 := SZ_10.out; have q11 := SZ_11.out; have q12 := SZ_12.out; omega) (fun b hb hb' => by have h1 := GE_g0.out b hb; have h2 := LT_X0.out b hb'; have q7 := SZ_7.out; have q8 := SZ_8.out; omega))
  clear U_g0
  have U_g0 := t_
  clear t_
  have E_g0_13 := Lib.hid (Only.refl [] w13)
  clear E_B_12 E_P0_12 E_P1_12 E_w0_12 E_X0_12 E_g0_12
  clear hO hU hV
  have hkk : decide (1 + ctTopDisk x0 < (0 : Int)) = false := by rw [decide_eq_false_iff_not]; omega
  go_wp2_with fail
  refine (eqByteS_calls _ _ _ _ _ _ _ _ _ (Rep.sl_ext s_g0_1 (E_g0_13.out)) (Rep.sl_ext s_w0_1 (E_w0_13.out))).mono ?_
  rintro e w14 ⟨rfl, hO⟩
  rw [show decide (R = R) = true from decide_eq_true rfl]
  have SZ_14 : Hid (w13.heap.size + 0 ≤ w14.heap.size) := by have := Only.size hO; (try simp at this); exact (by omega : w13.heap.size + 0 ≤ w14.heap.size)
  have E_B_14 := Lib.hid (Only.ext (E_B_13.out) hO)
  have E_P0_14 := Lib.hid (Only.ext (E_P0_13.out) hO)
  have E_P1_14 := Lib.hid (Only.ext (E_P1_13.out) hO)
  have E_w0_14 := Lib.hid (Only.ext (E_w0_13.out) hO)
  have E_g0_14 := Lib.hid (Only.ext (E_g0_13.out) hO)
  clear E_B_13 E_P0_13 E_P1_13 E_w0_13 E_g0_13
  clear hO
  go_wp2_with fail
  refine (markByteS_calls _ _ _ _ (1) _ (Rep.sl_ext s_g0_1 (E_g0_14.out)) ND_g0.out (Unfr.ext U_g0.out (E_g0_14.out) (fun b hb => by have h1 := LT_g0.out b hb; have q10 := SZ_10.out; have q11 := SZ_11.out; have q12 := SZ_12.out; have q13 := SZ_13.out; omega)) (by omega) (by omega)).mono ?_
  rintro e w15 ⟨rfl, hV, hO, hU⟩
  have SZ_15 : Hid (w14.heap.size + 0 ≤ w15.heap.size) := by have := Only.size hO; exact (by omega : w14.heap.size + 0 ≤ w15.heap.size)
  have E_B_15 := Lib.hid (Only.then_ E_B_14.out hO (fun g hg h => by have h1 := GE_g0.out g hg; have q1 := SZ_1.out; have q2 := SZ_2.out; have q3 := SZ_3.out; have q4 := SZ_4.out; have q5 := SZ_5.out; have q6 := SZ_6.out; have q7 := SZ_7.out; have q8 := SZ_8.out; omega))
  have t_ := Rep.sl_only (Rep.sl_ext s_P0_1 E_P0_14.out) hO (fun b hb hb' => by have h1 := LT_P0.out b (by simp [hb]); have h2 := GE_g0.out b hb'; have q1 := SZ_1.out; have q2 := SZ_2.out; have q3 := SZ_3.out; have q4 := SZ_4.out; have q5 := SZ_5.out; have q6 := SZ_6.out; have q7 := SZ_7.out; have q8 := SZ_8.out; omega)
  clear s_P0_1
  have s_P0_1 := t_
  clear t_
  have t_ := Rep.sl_only (Rep.sl_ext s_P0_2 E_P0_14.out) hO (fun b hb hb' => by have h1 := LT_P0.out b (by simp [hb]); have h2 := GE_g0.out b hb'; have q1 := SZ_1.out; have q2 := SZ_2.out; have q3 := SZ_3.out; have q4 := SZ_4.out; have q5 := SZ_5.out; have q6 := SZ_6.out; have q7 := SZ_7.out; have q8 := SZ_8.out; omega)
  clear s_P0_2
  have s_P0_2 := t_
  clear t_
  have t_ := Lib.hid (Only.heap hO (Only.heap E_P0_14.out HBX_P0.out (by simp)) (fun hb => by have h1 := GE_g0.out _ hb; have q1 := SZ_1.out; have q2 := SZ_2.out; have q3 := SZ_3.out; have q4 := SZ_4.out; have q5 := SZ_5.out; have q6 := SZ_6.out; have q7 := SZ_7.out; have q8 := SZ_8.out; omega))
  clear HBX_P0
  have HBX_P0 := t_
  clear t_
  have E_P0_15 := Lib.hid (Only.refl [] w15)
  have t_ := Lib.hid (Only.heap hO (Only.heap E_P1_14.out HBX_P1.out (by simp)) (fun hb => by have h1 := GE_g0.out _ hb; have q1 := SZ_1.out; have q2 := SZ_2.out; have q3 := SZ_3.out; have q4 := SZ_4.out; have q5 := SZ_5.out; have q6 := SZ_6.out; have q7 := SZ_7.out; have q8 := SZ_8.out; omega))
  clear HBX_P1
  have HBX_P1 := t_
  clear t_
  have E_P1_15 := Lib.hid (Only.refl [] w15)
  have t_ := Rep.sl_only (Rep.sl_ext s_w0_1 E_w0_14.out) hO (fun b hb hb' => by have h1 := LT_w0.out b (hb); have h2 := GE_g0.out b hb'; have q6 := SZ_6.out; have q7 := SZ_7.out; have q8 := SZ_8.out; omega)
  clear s_w0_1
  have s_w0_1 := t_
  clear t_
  have E_w0_15 := Lib.hid (Only.refl [] w15)
  clear s_g0_1
  have VM := hV
  have E_g0_15 := Lib.hid (Only.refl [] w15)
  clear E_B_14 E_P0_14 E_P1_14 E_w0_14 E_g0_14
  clear hO hU
  go_wp2_with fail
  refine (heldByteS_calls _ _ R _ 1 _ (Rep.sl_ext VM (E_g0_15.out)) (by omega) (by omega)).mono ?_
  rintro e w16 ⟨rfl, hO⟩
  have SZ_16 : Hid (w15.heap.size + 0 ≤ w16.heap.size) := by have := Only.size hO; (try simp at this); exact (by omega : w15.heap.size + 0 ≤ w16.heap.size)
  have E_B_16 := Lib.hid (Only.ext (E_B_15.out) hO)
  have E_P0_16 := Lib.hid (Only.ext (E_P0_15.out) hO)
  have E_P1_16 := Lib.hid (Only.ext (E_P1_15.out) hO)
  have E_w0_16 := Lib.hid (Only.ext (E_w0_15.out) hO)
  have E_g0_16 := Lib.hid (Only.ext (E_g0_15.out) hO)
  clear E_B_15 E_P0_15 E_P1_15 E_w0_15 E_g0_15
  clear hO
  go_wp2_with fail
  have hO : Ext w16 (w16).drew := (Only.refl _ _).drew
  refine wp_region_noPanic ?_
  refine wp_region_held_drew (S := (fun w' => w'.cell? ⟨w.heap.size, 0, none⟩ = some (.slice A_P0_1 x0.Durable.length c_P0_1) ∧ w'.cell? ⟨w.heap.size, 1, none⟩ = some (.slice A_P0_2 x0.Pending.length c_P0_2) ∧ w'.cell? ⟨w.heap.size + 1, 0, none⟩ = some (.int .i64 x1.Pages) ∧ w'.cell? ⟨w.heap.size + 1, 1, none⟩ = some (.int .i64 x1.Frames) ∧ w'.cell? ⟨w.heap.size + 1, 2, none⟩ = some (.int .i64 x1.LogSectors))) (by kernel_rfl) ?_ (fun hHeld => ?_)
  · exact ⟨cell_of_row _ _ 0 _ _ _ (hO.heap (Only.heap (E_P0_16.out) HBX_P0.out (by simp)) (by simp)), cell_of_row _ _ 1 _ _ _ (hO.heap (Only.heap (E_P0_16.out) HBX_P0.out (by simp)) (by simp)), cell_of_row _ _ 0 _ _ _ (hO.heap (Only.heap (E_P1_16.out) HBX_P1.out (by simp)) (by simp)), cell_of_row _ _ 1 _ _ _ (hO.heap (Only.heap (E_P1_16.out) HBX_P1.out (by simp)) (by simp)), cell_of_row _ _ 2 _ _ _ (hO.heap (Only.heap (E_P1_16.out) HBX_P1.out (by simp)) (by simp))⟩
  generalize (w16).drew = w17 at hO hHeld ⊢
  have SZ_17 : Hid (w16.heap.size + 0 ≤ w17.heap.size) := by have := Only.size hO; (try simp at this); exact (by omega : w16.heap.size + 0 ≤ w17.heap.size)
  have E_B_17 := Lib.hid (Only.ext (E_B_16.out) hO)
  have E_P0_17 := Lib.hid (Only.ext (E_P0_16.out) hO)
  have E_P1_17 := Lib.hid (Only.ext (E_P1_16.out) hO)
  have E_w0_17 := Lib.hid (Only.ext (E_w0_16.out) hO)
  have E_g0_17 := Lib.hid (Only.ext (E_g0_16.out) hO)
  clear E_B_16 E_P0_16 E_P1_16 E_w0_16 E_g0_16
  clear hO
  refine wpAnyH_take (i := 0) (v := ?_) rfl (by kernel_rfl) (by kernel_rfl) (by kernel_rfl) (fun _ _ _ h => h) (Or.inl ⟨by rfl, ?_⟩) (by assumption) ?_
  rotate_left
  · intro w hSw; (try dsimp only at hSw); go_simp <;> with_reducible rfl
  try simp only [Act.put, List.setIfInBounds_toArray, List.set_cons_zero, List.set_cons_succ]
  refine wpAnyH_take (i := 2) (v := ?_) rfl (by kernel_rfl) (by kernel_rfl) (by kernel_rfl) (fun _ _ _ h => h) (Or.inl ⟨by rfl, ?_⟩) (by assumption) ?_
  rotate_left
  · intro w hSw; (try dsimp only at hSw); go_simp <;> with_reducible rfl
  try simp only [Act.put, List.setIfInBounds_toArray, List.set_cons_zero, List.set_cons_succ]
  refine wpAnyH_take (i := 4) (v := ?_) rfl (by kernel_rfl) (by kernel_rfl) (by kernel_rfl) (fun _ _ _ h => h) (Or.inl ⟨by rfl, ?_⟩) (by assumption) ?_
  rotate_left
  · intro w hSw; (try dsimp only at hSw); go_simp <;> with_reducible rfl
  try simp only [Act.put, List.setIfInBounds_toArray, List.set_cons_zero, List.set_cons_succ]
  refine wpAnyH_ready (rs := [1]) (by kernel_rfl) (by simp) ?_
  refine AllReadyH.cons rfl (fun K hK => ?_) ?_
  rotate_left
  · exact AllReadyH.nil
  go_simp
  refine (toDisk_calls _ x0 _ _ ⟨_, ⟨A_P0_1, c_P0_1, _, A_P0_2, c_P0_2, _, rfl, rfl, wf_P0_, Rep.sl_ext s_P0_1 (E_P0_17.out), Rep.sl_ext s_P0_2 (E_P0_17.out)⟩, rfl⟩ h_aD).mono ?_
  rintro e w18 ⟨v_T0h0, F_T0h0_, rfl, hV, hN⟩
  obtain ⟨_, ⟨A_T0h0_1, c_T0h0_1, F_T0h0_1, A_T0h0_2, c_T0h0_2, F_T0h0_2, rfl, rfl, wf_T0h0_, s_T0h0_1, s_T0h0_2⟩, hv⟩ := hV
  replace hv : v_T0h0 = .agg #[_, _] := hv
  subst hv
  have LT_T0h0 : Hid (∀ b ∈ F_T0h0_1 ++ F_T0h0_2, b < w18.heap.size) := (by
    intro b hb
    simp only [List.mem_append] at hb
    rcases hb with (hb | hb)
    · exact Rep.sl_lt s_T0h0_1 b hb
    · exact Rep.sl_lt s_T0h0_2 b hb)
  have GE_T0h0 : Hid (∀ b ∈ F_T0h0_1 ++ F_T0h0_2, w17.heap.size + 0 ≤ b) := by
    have h : ∀ b ∈ F_T0h0_1 ++ F_T0h0_2, _ := hN.new
    try simp only [World.alloc, Array.size_push] at h
    exact h
  have U_T0h0 := Lib.hid hN.unfr
  have ND_T0h0 := Lib.hid hN.nodup
  have SZ_18 : Hid (w17.heap.size + 0 ≤ w18.heap.size) := by have := Only.size hN.ext; (try simp at this); exact (by omega : w17.heap.size + 0 ≤ w18.heap.size)
  have E_B_18 := Lib.hid (Only.ext (E_B_17.out) hN.ext)
  have E_P0_18 := Lib.hid (Only.ext (E_P0_17.out) hN.ext)
  have E_P1_18 := Lib.hid (Only.ext (E_P1_17.out) hN.ext)
  have E_w0_18 := Lib.hid (Only.ext (E_w0_17.out) hN.ext)
  have E_g0_18 := Lib.hid (Only.ext (E_g0_17.out) hN.ext)
  clear E_B_17 E_P0_17 E_P1_17 E_w0_17 E_g0_17
  clear hN
  have cl_P0 := fun o => cell_of_row _ _ o _ _ _ (E_P0_18.out.heap HBX_P0.out (by simp))
  have cl_P1 := fun o => cell_of_row _ _ o _ _ _ (E_P1_18.out.heap HBX_P1.out (by simp))
  refine hK.out _ _ ?_ (fun hHeld => ?_)
  · (try dsimp only); exact ⟨cl_P0 0, cl_P0 1, cl_P1 0, cl_P1 1, cl_P1 2⟩
  clear hK K cl_P0 cl_P1
  try simp only [Act.put, List.setIfInBounds_toArray, List.set_cons_zero, List.set_cons_succ]
  have E_T0h0_18 := Lib.hid (Only.refl [] w18)
  refine wpAnyH_ready (rs := [3]) (by kernel_rfl) (by simp) ?_
  refine AllReadyH.cons rfl (fun K hK => ?_) ?_
  rotate_left
  · exact AllReadyH.nil
  go_simp
  refine (toGeometry_calls _ x1 _ _ ⟨_, ⟨rfl, rfl, wf_P1_⟩, rfl⟩).mono ?_
  rintro e w19 ⟨v_T1h0, F_T1h0_, rfl, hV, hN⟩
  obtain ⟨_, ⟨rfl, rfl, wf_T1h0_⟩, hv⟩ := hV
  replace hv : v_T1h0 = .agg #[_, _, _] := hv
  subst hv
  have LT_T1h0 : Hid (∀ b ∈ [], b < w19.heap.size) := (fun b hb => absurd hb (by simp))
  have GE_T1h0 : Hid (∀ b ∈ [], w18.heap.size + 0 ≤ b) := by
    have h : ∀ b ∈ [], _ := hN.new
    try simp only [World.alloc, Array.size_push] at h
    exact h
  have U_T1h0 := Lib.hid hN.unfr
  have ND_T1h0 := Lib.hid hN.nodup
  have SZ_19 : Hid (w18.heap.size + 0 ≤ w19.heap.size) := by have := Only.size hN.ext; (try simp at this); exact (by omega : w18.heap.size + 0 ≤ w19.heap.size)
  have E_B_19 := Lib.hid (Only.ext (E_B_18.out) hN.ext)
  have E_P0_19 := Lib.hid (Only.ext (E_P0_18.out) hN.ext)
  have E_P1_19 := Lib.hid (Only.ext (E_P1_18.out) hN.ext)
  have E_w0_19 := Lib.hid (Only.ext (E_w0_18.out) hN.ext)
  have E_g0_19 := Lib.hid (Only.ext (E_g0_18.out) hN.ext)
  have E_T0h0_19 := Lib.hid (Only.ext (E_T0h0_18.out) hN.ext)
  clear E_B_18 E_P0_18 E_P1_18 E_w0_18 E_g0_18 E_T0h0_18
  clear hN
  have cl_P0 := fun o => cell_of_row _ _ o _ _ _ (E_P0_19.out.heap HBX_P0.out (by simp))
  have cl_P1 := fun o => cell_of_row _ _ o _ _ _ (E_P1_19.out.heap HBX_P1.out (by simp))
  refine hK.out _ _ ?_ (fun hHeld => ?_)
  · (try dsimp only); exact ⟨cl_P0 0, cl_P0 1, cl_P1 0, cl_P1 1, cl_P1 2⟩
  clear hK K cl_P0 cl_P1
  try simp only [Act.put, List.setIfInBounds_toArray, List.set_cons_zero, List.set_cons_succ]
  have E_T1h0_19 := Lib.hid (Only.refl [] w19)
  refine wpAnyH_ready (rs := [5]) (by kernel_rfl) (by simp) ?_
  refine AllReadyH.cons rfl (fun K hK => ?_) ?_
  rotate_left
  · exact AllReadyH.nil
  go_simp
  refine (implReadPage_new _ _ x0 _ ⟨_, ⟨A_T0h0_1, c_T0h0_1, _, A_T0h0_2, c_T0h0_2, _, rfl, rfl, wf_T0h0_, Rep.sl_ext s_T0h0_1 (E_T0h0_19.out), Rep.sl_ext s_T0h0_2 (E_T0h0_19.out)⟩, rfl⟩ _ x1 _ ⟨_, ⟨rfl, rfl, wf_T1h0_⟩, rfl⟩ x2 e2 h_aD).mono ?_
  rintro e w20 ⟨v_h0, F_h0_1, rfl, hV, hN⟩
  rw [HR.out] at hV
  obtain ⟨A_h0_1, c_h0_1, rfl, s_h0_1⟩ := Rep.slice_V hV
  have LT_h0 : Hid (∀ b ∈ F_h0_1, b < w20.heap.size) := (fun b hb => Rep.sl_lt s_h0_1 b hb)
  have GE_h0 : Hid (∀ b ∈ F_h0_1, w19.heap.size + 0 ≤ b) := by
    have h : ∀ b ∈ F_h0_1, _ := hN.new
    try simp only [World.alloc, Array.size_push] at h
    exact h
  have U_h0 := Lib.hid hN.unfr
  have ND_h0 := Lib.hid hN.nodup
  have SZ_20 : Hid (w19.heap.size + 0 ≤ w20.heap.size) := by have := Only.size hN.ext; (try simp at this); exact (by omega : w19.heap.size + 0 ≤ w20.heap.size)
  have E_B_20 := Lib.hid (Only.ext (E_B_19.out) hN.ext)
  have E_P0_20 := Lib.hid (Only.ext (E_P0_19.out) hN.ext)
  have E_P1_20 := Lib.hid (Only.ext (E_P1_19.out) hN.ext)
  have E_w0_20 := Lib.hid (Only.ext (E_w0_19.out) hN.ext)
  have E_g0_20 := Lib.hid (Only.ext (E_g0_19.out) hN.ext)
  have E_T0h0_20 := Lib.hid (Only.ext (E_T0h0_19.out) hN.ext)
  have E_T1h0_20 := Lib.hid (Only.ext (E_T1h0_19.out) hN.ext)
  clear E_B_19 E_P0_19 E_P1_19 E_w0_19 E_g0_19 E_T0h0_19 E_T1h0_19
  clear hN
  have cl_P0 := fun o => cell_of_row _ _ o _ _ _ (E_P0_20.out.heap HBX_P0.out (by simp))
  have cl_P1 := fun o => cell_of_row _ _ o _ _ _ (E_P1_20.out.heap HBX_P1.out (by simp))
  refine hK.out _ _ ?_ (fun hHeld => ?_)
  · (try dsimp only); exact ⟨cl_P0 0, cl_P0 1, cl_P1 0, cl_P1 1, cl_P1 2⟩
  clear hK K cl_P0 cl_P1
  try simp only [Act.put, List.setIfInBounds_toArray, List.set_cons_zero, List.set_cons_succ]
  refine wpAnyH_take (i := 6) (v := ?_) rfl (by kernel_rfl) (by kernel_rfl) (by kernel_rfl) (fun _ _ _ h => h) (Or.inl ⟨by rfl, ?_⟩) (by assumption) ?_
  rotate_left
  · intro w hSw; (try dsimp only at hSw); go_simp <;> with_reducible rfl
  try simp only [Act.put, List.setIfInBounds_toArray, List.set_cons_zero, List.set_cons_succ]
  refine wpAnyH_done (by kernel_rfl) ?_ _
  refine NoPanic.normal ?_
  clear E_T0h0_20
  clear E_T1h0_20
  have E_h0_20 := Lib.hid (Only.refl [] w20)
  go_wp2_with fail
  refine (eqByteS_calls _ _ _ _ _ _ _ _ _ (Rep.sl_ext s_h0_1 (E_h0_20.out)) (Rep.sl_ext s_w0_1 (E_w0_20.out))).mono ?_
  rintro e w21 ⟨rfl, hO⟩
  rw [show decide (R = R) = true from decide_eq_true rfl]
  have SZ_21 : Hid (w20.heap.size + 0 ≤ w21.heap.size) := by have := Only.size hO; (try simp at this); exact (by omega : w20.heap.size + 0 ≤ w21.heap.size)
  have E_B_21 := Lib.hid (Only.ext (E_B_20.out) hO)
  have E_P0_21 := Lib.hid (Only.ext (E_P0_20.out) hO)
  have E_P1_21 := Lib.hid (Only.ext (E_P1_20.out) hO)
  have E_w0_21 := Lib.hid (Only.ext (E_w0_20.out) hO)
  have E_g0_21 := Lib.hid (Only.ext (E_g0_20.out) hO)
  have E_h0_21 := Lib.hid (Only.ext (E_h0_20.out) hO)
  clear E_B_20 E_P0_20 E_P1_20 E_w0_20 E_g0_20 E_h0_20
  clear hO
  go_wp2_with fail
  refine (heldByteS_calls _ _ R _ 1 _ (Rep.sl_ext VM (E_g0_21.out)) (by omega) (by omega)).mono ?_
  rintro e w22 ⟨rfl, hO⟩
  have SZ_22 : Hid (w21.heap.size + 0 ≤ w22.heap.size) := by have := Only.size hO; (try simp at this); exact (by omega : w21.heap.size + 0 ≤ w22.heap.size)
  have E_B_22 := Lib.hid (Only.ext (E_B_21.out) hO)
  have E_P0_22 := Lib.hid (Only.ext (E_P0_21.out) hO)
  have E_P1_22 := Lib.hid (Only.ext (E_P1_21.out) hO)
  have E_w0_22 := Lib.hid (Only.ext (E_w0_21.out) hO)
  have E_g0_22 := Lib.hid (Only.ext (E_g0_21.out) hO)
  have E_h0_22 := Lib.hid (Only.ext (E_h0_21.out) hO)
  clear E_B_21 E_P0_21 E_P1_21 E_w0_21 E_g0_21 E_h0_21
  clear hO
  go_wp2_with fail
  go_ret
  exact ⟨rfl, (E_B_22.out)⟩
end Go.Proofs.Ytdjcfcgkldokgaa
