/- FnExactPageSet: the walk of the law's own text over the contracts of what it calls. Printed by gen_law.py, a program of this session. -/
import Derived.Test.YtghgjddiheebeaaDoorZ6
import Derived.Deep.RegionHeld3
namespace Go.Proofs.YtghgjddiheebeaaDoor
open Go.RowKit
set_option linter.unusedSimpArgs false
set_option linter.unusedVariables false

set_option maxRecDepth 100000 in
set_option maxHeartbeats 8000000 in
theorem PageSet_walk (w : World) (A_P0_1 : Option Addr) (c_P0_1 : Nat) (x0 : List Int) (F_P0_1 : List Nat) (s_P0_1 : (Rep.int .u8).sl w A_P0_1 c_P0_1 x0 F_P0_1) (x1 : Int) (e1 : (Lit.int .i64 x1).wf = true) (v2 : Value) (x2 : DPageRecord) (F_P2_1 : List Nat) (h2 : Rep.PageRecord.V w v2 x2 F_P2_1) (x3 : Int) (e3 : (Lit.int .i64 x3).wf = true) :
    Calls Tryd.prog 4 #[.slice A_P0_1 x0.length c_P0_1, .int .i64 x1, v2, .int .i64 x3] w fun e w' => e = .returned (.bool true) ∧ Ext w w' := by
  have LT_P0 : Hid (∀ b ∈ F_P0_1, b < w.heap.size) := fun b hb => Rep.sl_lt s_P0_1 b hb
  obtain ⟨_, ⟨A_P2_1, c_P2_1, Fd1, rfl, rfl, wf_P2_, s_P2_1⟩, rfl⟩ := h2
  have LT_P2 : Hid (∀ b ∈ F_P2_1, b < w.heap.size) := fun b hb => Rep.sl_lt s_P2_1 b hb
  have hu_laws_PageRecord := Tryd.underlying28
  have hu_impl_PageRecord := Tryd.underlying33
  have hu_impl_PageResult := Tryd.underlying31
  show Calls _ _ #[_, _, .agg #[_, _], _] _ _
  go_enter Tryd.func4, Tryd.ntmps4
  have E_B_0 := Lib.hid (Only.refl [] w)
  have E_P0_0 := Lib.hid (Only.refl [] w)
  have E_P2_0 := Lib.hid (Only.refl [] w)
  have hm0 := s_P0_1.1
  have hM0 := s_P0_1.2.1
  unfold maxLen at hM0
  by_cases hl0 : (1048576 : Int) < x0.length
  · go_wp2_with fail
    go_ret
    exact ⟨rfl, ((E_B_0.out.alloc _))⟩
  have h_aPage : x0.length ≤ 1048576 := by omega
  clear hm0 hM0
  go_wp2_with fail
  refine (szPageRecord_calls _ x2 _ _ _ ⟨_, ⟨A_P2_1, c_P2_1, _, rfl, rfl, wf_P2_, Rep.sl_ext s_P2_1 ((E_P2_0.out.alloc _))⟩, rfl⟩ (by omega) (by omega)).mono ?_
  rintro e w1 ⟨⟨l2, rfl, hr⟩, hO⟩
  have SZ_1 : Hid (w.heap.size + 1 ≤ w1.heap.size) := by have := Only.size hO; (try simp at this); exact (by omega : w.heap.size + 1 ≤ w1.heap.size)
  have E_B_1 := Lib.hid (Only.ext ((E_B_0.out.alloc _)) hO)
  have E_P0_1 := Lib.hid (Only.ext ((E_P0_0.out.alloc _)) hO)
  have HBX_P2 := Lib.hid (Only.heap hO (heap_alloc_new _ _) (by simp))
  have t_ := Rep.sl_ext s_P2_1 (Only.ext ((E_P2_0.out.alloc _)) hO)
  clear s_P2_1
  have s_P2_1 := t_
  clear t_
  clear E_P2_0
  have E_P2_1 := Lib.hid (Only.refl [] w1)
  clear E_B_0 E_P0_0
  clear hO
  rcases hr with rfl | ⟨hr0, hr1⟩
  · go_wp2_with fail
    go_ret
    exact ⟨rfl, (E_B_1.out)⟩
  have h_aR : wtPageRecord x2 ≤ 1048576 := by omega
  have hq0_l2 : 0 ≤ l2 := hr0
  have hq1_l2 : l2 ≤ 1048576 := by omega
  clear hr0 hr1
  go_wp2_with fail
  go_cut [10] from 26 to 32 (fun p wx => ∃ (wn : World) (b : Nat) (A : Option Addr) (c : Nat) (F : List Nat), wn = wx ∧ p = .pointer (some ⟨b, 0, none⟩) ∧ Hid (Rl w1 wn b (pageSet x0 x1 x2 x3) A c F))
  case first =>
    have z0 := cell_of_row _ _ 0 _ _ _ (Only.heap (E_P2_1.out) HBX_P2.out (by simp))
    replace z0 : w1.cell? ⟨w.heap.size, 0, none⟩ = some (.bool x2.Used) := z0
    have z1 := cell_of_row _ _ 1 _ _ _ (Only.heap (E_P2_1.out) HBX_P2.out (by simp))
    replace z1 : w1.cell? ⟨w.heap.size, 1, none⟩ = some (.slice A_P2_1 x2.Data.length c_P2_1) := z1
    have HX := Lib.hid (show Ext w1 (w1).drew from (Only.refl _ _).drew)
    go_region_held3 (fun w' => w'.cell? ⟨w.heap.size, 0, none⟩ = some (.bool x2.Used) ∧ w'.cell? ⟨w.heap.size, 1, none⟩ = some (.slice A_P2_1 x2.Data.length c_P2_1))
      (first | go_keep | exact ⟨HX.out.ecell z0, HX.out.ecell z1⟩ | exact ⟨(HX.out.alloc _).ecell z0, (HX.out.alloc _).ecell z1⟩ | exact ⟨set2_cell (HX.out.ecell z0) (Nat.ne_of_lt (Nat.lt_of_lt_of_le (block_lt_of_cell z0) HBG.out)), set2_cell (HX.out.ecell z1) (Nat.ne_of_lt (Nat.lt_of_lt_of_le (block_lt_of_cell z1) HBG.out))⟩)
      (first
        | (go_at_call 12; refine (toByteS_calls _ _ _ _ _ (Rep.sl_ext s_P0_1 (Only.ext (E_P0_1.out) (by repeat (first | with_reducible exact HX.out | with_reducible exact Only.refl _ _ | with_reducible apply Only.alloc | with_reducible apply Only.drew)))) (by omega)).mono ?_; rintro e wT0 ⟨vT0, FT0, rfl, hVT0, hNT0⟩; obtain ⟨A_T0_1, c_T0_1, rfl, s_T0_1⟩ := Rep.slice_V hVT0; (first | replace HBR := Lib.hid (hNT0.ext.heap HBR.out (by simp)) | (have HBR := Lib.hid (hNT0.ext.heap (heap_alloc_new _ _) (by simp)); have HBG := Lib.hid (show w1.heap.size ≤ _ from HX.out.size)) | skip); (try have mb := fun o => cell_of_row _ _ o _ _ _ HBR.out); (try have fb := fun o => frozen_of_row _ _ o _ _ HBR.out); replace HX := Lib.hid (show Ext w1 wT0 from Only.ext (by repeat (first | with_reducible exact HX.out | with_reducible exact Only.refl _ _ | with_reducible apply Only.alloc | with_reducible apply Only.drew)) hNT0.ext))
        | (go_at_call 19; refine (toPageRecord_calls _ x2 _ _ ⟨_, ⟨A_P2_1, c_P2_1, _, rfl, rfl, wf_P2_, Rep.sl_ext s_P2_1 (Only.ext (E_P2_1.out) (by repeat (first | with_reducible exact HX.out | with_reducible exact Only.refl _ _ | with_reducible apply Only.alloc | with_reducible apply Only.drew)))⟩, rfl⟩ h_aR).mono ?_; rintro e wT1 ⟨vT1, FT1, rfl, hVT1, hNT1⟩; obtain ⟨_, ⟨A_T1_1, c_T1_1, Fd_T1, rfl, rfl, wf_T1, s_T1_1⟩, hv_T1⟩ := hVT1; replace hv_T1 : vT1 = .agg #[_, _] := hv_T1; subst hv_T1; (first | replace HBR := Lib.hid (hNT1.ext.heap HBR.out (by simp)) | (have HBR := Lib.hid (hNT1.ext.heap (heap_alloc_new _ _) (by simp)); have HBG := Lib.hid (show w1.heap.size ≤ _ from HX.out.size)) | skip); (try have mb := fun o => cell_of_row _ _ o _ _ _ HBR.out); (try have fb := fun o => frozen_of_row _ _ o _ _ HBR.out); replace HX := Lib.hid (show Ext w1 wT1 from Only.ext (by repeat (first | with_reducible exact HX.out | with_reducible exact Only.refl _ _ | with_reducible apply Only.alloc | with_reducible apply Only.drew)) hNT1.ext); have HT01 := Lib.hid (show Ext wT0 wT1 from Only.ext (by repeat (first | with_reducible exact Only.refl _ _ | with_reducible exact Only.refl _ _ | with_reducible apply Only.alloc | with_reducible apply Only.drew)) hNT1.ext))
        | (go_at_call 18; refine (specPageSet_new _ _ _ x0 _ (Rep.sl_ext s_T0_1 (by repeat (first | with_reducible exact HT01.out | with_reducible exact Only.refl _ _ | with_reducible apply Only.alloc | with_reducible apply Only.drew))) x1 e1 _ x2 _ ⟨_, ⟨A_T1_1, c_T1_1, _, rfl, rfl, wf_T1, Rep.sl_ext s_T1_1 (by repeat (first | with_reducible exact Only.refl _ _ | with_reducible exact Only.refl _ _ | with_reducible apply Only.alloc | with_reducible apply Only.drew))⟩, rfl⟩ x3 e3 h_aPage h_aR).mono ?_; rintro e wC ⟨vC, FC, rfl, hVC, hNC⟩; obtain ⟨_, ⟨AC, cC, FdC, rfl, rfl, wfC, sC⟩, hvC⟩ := hVC; replace hvC : vC = .agg #[_, _] := hvC; subst hvC; (first | have HBN := Lib.hid (notin_old hNC HBR.out) | have HBN := Lib.hid (notin_old hNC (heap_alloc_new _ _)) | skip); (first | replace HBR := Lib.hid (hNC.ext.heap HBR.out (by simp)) | (have HBR := Lib.hid (hNC.ext.heap (heap_alloc_new _ _) (by simp)); have HBG := Lib.hid (show w1.heap.size ≤ _ from HX.out.size)) | skip); (try have mb := fun o => cell_of_row _ _ o _ _ _ HBR.out); (try have fb := fun o => frozen_of_row _ _ o _ _ HBR.out); replace HX := Lib.hid (show Ext w1 wC from Only.ext (by repeat (first | with_reducible exact HX.out | with_reducible exact Only.refl _ _ | with_reducible apply Only.alloc | with_reducible apply Only.drew)) hNC.ext)))
    all_goals
      go_wp2_with fail
      go_meet
      first
        | exact ⟨_, _, AC, cC, _, rfl, rfl, Lib.hid (Rl.alloc HX.out wfC sC)⟩
        | exact ⟨_, _, AC, cC, _, rfl, rfl, Lib.hid (Rl.set HX.out wfC sC HBG.out HBR.out rfl HBN.out)⟩
  obtain ⟨w2, b_w0, A_w0_1, c_w0_1, F_w0_1, rfl, rfl, hrel⟩ := hcut
  obtain ⟨R, HR⟩ : ∃ R, Hid (pageSet x0 x1 x2 x3 = R) := ⟨_, rfl⟩
  rw [HR.out] at hrel
  have HRL_w0 := hrel
  clear hrel
  have s_w0_1 := HRL_w0.out.sl
  have wf_w0_ := HRL_w0.out.wf
  have hO := HRL_w0.out.ext
  have hlt_w0 := HRL_w0.out.lt
  have hge_w0 := HRL_w0.out.ge
  have hct : (ctTopPageResult R) ≤ 1152921504606846976 := by rw [← HR.out]; exact (pageSet_ct _ _ _ _)
  have LT_w0 : Hid (∀ b ∈ F_w0_1, b < w2.heap.size) := (fun b hb => Rep.sl_lt s_w0_1 b hb)
  have SZ_2 : Hid (w1.heap.size + 0 ≤ w2.heap.size) := by have := Only.size hO; (try simp at this); exact (by omega : w1.heap.size + 0 ≤ w2.heap.size)
  have E_B_2 := Lib.hid (Only.ext (E_B_1.out) hO)
  have E_P0_2 := Lib.hid (Only.ext (E_P0_1.out) hO)
  have E_P2_2 := Lib.hid (Only.ext (E_P2_1.out) hO)
  clear E_B_1 E_P0_1 E_P2_1
  clear hO
  have E_w0_2 := Lib.hid (Only.refl [] w2)
  have HBX_w0 := Lib.hid HRL_w0.out.row
  go_wp2_with fail
  refine (toByteS_calls _ _ _ _ _ (Rep.sl_ext s_P0_1 (E_P0_2.out)) (by omega)).mono ?_
  rintro e w3 ⟨v_X0, F_X0_1, rfl, hV, hN⟩
  obtain ⟨A_X0_1, c_X0_1, rfl, s_X0_1⟩ := Rep.slice_V hV
  have LT_X0 : Hid (∀ b ∈ F_X0_1, b < w3.heap.size) := (fun b hb => Rep.sl_lt s_X0_1 b hb)
  have GE_X0 : Hid (∀ b ∈ F_X0_1, w2.heap.size + 0 ≤ b) := by
    have h : ∀ b ∈ F_X0_1, _ := hN.new
    try simp only [World.alloc, Array.size_push] at h
    exact h
  have U_X0 := Lib.hid hN.unfr
  have ND_X0 := Lib.hid hN.nodup
  have SZ_3 : Hid (w2.heap.size + 0 ≤ w3.heap.size) := by have := Only.size hN.ext; (try simp at this); exact (by omega : w2.heap.size + 0 ≤ w3.heap.size)
  have E_B_3 := Lib.hid (Only.ext (E_B_2.out) hN.ext)
  have E_P0_3 := Lib.hid (Only.ext (E_P0_2.out) hN.ext)
  have E_P2_3 := Lib.hid (Only.ext (E_P2_2.out) hN.ext)
  have E_w0_3 := Lib.hid (Only.ext (E_w0_2.out) hN.ext)
  clear E_B_2 E_P0_2 E_P2_2 E_w0_2
  clear hN
  have E_X0_3 := Lib.hid (Only.refl [] w3)
  have hh_P2 := E_P2_3.out.heap HBX_P2.out (by simp)
  have z_P2 := (Array.getElem?_eq_some_iff.1 hh_P2).1
  have cl_P2 := fun o => cell_of_row _ _ o _ _ _ hh_P2
  clear hh_P2
  go_wp2_with fail
  refine (toPageRecord_calls _ x2 _ _ ⟨_, ⟨A_P2_1, c_P2_1, _, rfl, rfl, wf_P2_, Rep.sl_ext s_P2_1 (E_P2_3.out)⟩, rfl⟩ h_aR).mono ?_
  rintro e w4 ⟨v_X2, F_X2_1, rfl, hV, hN⟩
  clear z_P2 cl_P2
  obtain ⟨_, ⟨A_X2_1, c_X2_1, Fd1, rfl, rfl, wf_X2_, s_X2_1⟩, hv⟩ := hV
  replace hv : v_X2 = .agg #[_, _] := hv
  subst hv
  have LT_X2 : Hid (∀ b ∈ F_X2_1, b < w4.heap.size) := (fun b hb => Rep.sl_lt s_X2_1 b hb)
  have GE_X2 : Hid (∀ b ∈ F_X2_1, w3.heap.size + 0 ≤ b) := by
    have h : ∀ b ∈ F_X2_1, _ := hN.new
    try simp only [World.alloc, Array.size_push] at h
    exact h
  have U_X2 := Lib.hid hN.unfr
  have ND_X2 := Lib.hid hN.nodup
  have SZ_4 : Hid (w3.heap.size + 0 ≤ w4.heap.size) := by have := Only.size hN.ext; (try simp at this); exact (by omega : w3.heap.size + 0 ≤ w4.heap.size)
  have E_B_4 := Lib.hid (Only.ext (E_B_3.out) hN.ext)
  have E_P0_4 := Lib.hid (Only.ext (E_P0_3.out) hN.ext)
  have E_P2_4 := Lib.hid (Only.ext (E_P2_3.out) hN.ext)
  have E_w0_4 := Lib.hid (Only.ext (E_w0_3.out) hN.ext)
  have E_X0_4 := Lib.hid (Only.ext (E_X0_3.out) hN.ext)
  clear E_B_3 E_P0_3 E_P2_3 E_w0_3 E_X0_3
  clear hN
  have E_X2_4 := Lib.hid (Only.refl [] w4)
  go_wp2_with fail
  refine (implPageSet_new _ _ _ x0 _ (Rep.sl_ext s_X0_1 ((E_X0_4.out.alloc _))) x1 e1 _ x2 _ ⟨_, ⟨A_X2_1, c_X2_1, _, rfl, rfl, wf_X2_, Rep.sl_ext s_X2_1 ((E_X2_4.out.alloc _))⟩, rfl⟩ x3 e3 h_aPage h_aR).mono ?_
  rintro e w5 ⟨v_g0, F_g0_1, rfl, hV, hN⟩
  rw [HR.out] at hV
  obtain ⟨_, ⟨A_g0_1, c_g0_1, Fd1, rfl, rfl, wf_g0_, s_g0_1⟩, hv⟩ := hV
  replace hv : v_g0 = .agg #[_, _] := hv
  subst hv
  have LT_g0 : Hid (∀ b ∈ F_g0_1, b < w5.heap.size) := (fun b hb => Rep.sl_lt s_g0_1 b hb)
  have GE_g0 : Hid (∀ b ∈ F_g0_1, w4.heap.size + 1 ≤ b) := by
    have h : ∀ b ∈ F_g0_1, _ := hN.new
    try simp only [World.alloc, Array.size_push] at h
    exact h
  have U_g0 := Lib.hid hN.unfr
  have ND_g0 := Lib.hid hN.nodup
  have SZ_5 : Hid (w4.heap.size + 1 ≤ w5.heap.size) := by have := Only.size hN.ext; (try simp at this); exact (by omega : w4.heap.size + 1 ≤ w5.heap.size)
  have E_B_5 := Lib.hid (Only.ext ((E_B_4.out.alloc _)) hN.ext)
  have E_P0_5 := Lib.hid (Only.ext ((E_P0_4.out.alloc _)) hN.ext)
  have E_P2_5 := Lib.hid (Only.ext ((E_P2_4.out.alloc _)) hN.ext)
  have E_w0_5 := Lib.hid (Only.ext ((E_w0_4.out.alloc _)) hN.ext)
  have E_X0_5 := Lib.hid (Only.ext ((E_X0_4.out.alloc _)) hN.ext)
  have HBX_X2 := Lib.hid (Only.heap hN.ext (heap_alloc_new _ _) (by simp))
  have t_ := Rep.sl_ext s_X2_1 (Only.ext ((E_X2_4.out.alloc _)) hN.ext)
  clear s_X2_1
  have s_X2_1 := t_
  clear t_
  have t_ := Lib.hid (Unfr.ext U_X2.out (Only.ext ((E_X2_4.out.alloc _)) hN.ext) (fun b hb => by have h1 := LT_X2.out b hb; have h2 := E_X2_4.out.size; omega))
  clear U_X2
  have U_X2 := t_
  clear t_
  clear E_X2_4
  have E_X2_5 := Lib.hid (Only.refl [] w5)
  clear E_B_4 E_P0_4 E_P2_4 E_w0_4 E_X0_4
  clear hN
  have E_g0_5 := Lib.hid (Only.refl [] w5)
  have hh_w0 := E_w0_5.out.heap HBX_w0.out (by simp)
  have z_w0 := (Array.getElem?_eq_some_iff.1 hh_w0).1
  have cl_w0 := fun o => cell_of_row _ _ o _ _ _ hh_w0
  clear hh_w0
  go_wp2_with fail
  refine (eqPageResult_calls _ R _ _ R _ _ ⟨_, ⟨A_g0_1, c_g0_1, _, rfl, rfl, wf_g0_, Rep.sl_ext s_g0_1 ((E_g0_5.out.alloc _))⟩, rfl⟩ ⟨_, ⟨A_w0_1, c_w0_1, _, rfl, rfl, wf_w0_, Rep.sl_ext s_w0_1 ((E_w0_5.out.alloc _))⟩, rfl⟩).mono ?_
  rintro e w6 ⟨rfl, hO⟩
  clear z_w0 cl_w0
  rw [show decide (R = R) = true from decide_eq_true rfl]
  have SZ_6 : Hid (w5.heap.size + 1 ≤ w6.heap.size) := by have := Only.size hO; (try simp at this); exact (by omega : w5.heap.size + 1 ≤ w6.heap.size)
  have E_B_6 := Lib.hid (Only.ext ((E_B_5.out.alloc _)) hO)
  have E_P0_6 := Lib.hid (Only.ext ((E_P0_5.out.alloc _)) hO)
  have E_P2_6 := Lib.hid (Only.ext ((E_P2_5.out.alloc _)) hO)
  have E_w0_6 := Lib.hid (Only.ext ((E_w0_5.out.alloc _)) hO)
  have E_X0_6 := Lib.hid (Only.ext ((E_X0_5.out.alloc _)) hO)
  have E_X2_6 := Lib.hid (Only.ext ((E_X2_5.out.alloc _)) hO)
  have HBX_g0 := Lib.hid (Only.heap hO (heap_alloc_new _ _) (by simp))
  have t_ := Rep.sl_ext s_g0_1 (Only.ext ((E_g0_5.out.alloc _)) hO)
  clear s_g0_1
  have s_g0_1 := t_
  clear t_
  have t_ := Lib.hid (Unfr.ext U_g0.out (Only.ext ((E_g0_5.out.alloc _)) hO) (fun b hb => by have h1 := LT_g0.out b hb; have h2 := E_g0_5.out.size; omega))
  clear U_g0
  have U_g0 := t_
  clear t_
  clear E_g0_5
  have E_g0_6 := Lib.hid (Only.refl [] w6)
  clear E_B_5 E_P0_5 E_P2_5 E_w0_5 E_X0_5 E_X2_5
  clear hO
  go_wp2_with fail
  refine (toByteS_calls _ _ _ _ _ (Rep.sl_ext s_P0_1 (E_P0_6.out)) (by omega)).mono ?_
  rintro e w7 ⟨v_C6, F_C6_1, rfl, hV, hN⟩
  obtain ⟨A_C6_1, c_C6_1, rfl, s_C6_1⟩ := Rep.slice_V hV
  have LT_C6 : Hid (∀ b ∈ F_C6_1, b < w7.heap.size) := (fun b hb => Rep.sl_lt s_C6_1 b hb)
  have GE_C6 : Hid (∀ b ∈ F_C6_1, w6.heap.size + 0 ≤ b) := by
    have h : ∀ b ∈ F_C6_1, _ := hN.new
    try simp only [World.alloc, Array.size_push] at h
    exact h
  have U_C6 := Lib.hid hN.unfr
  have ND_C6 := Lib.hid hN.nodup
  have SZ_7 : Hid (w6.heap.size + 0 ≤ w7.heap.size) := by have := Only.size hN.ext; (try simp at this); exact (by omega : w6.heap.size + 0 ≤ w7.heap.size)
  have E_B_7 := Lib.hid (Only.ext (E_B_6.out) hN.ext)
  have E_P0_7 := Lib.hid (Only.ext (E_P0_6.out) hN.ext)
  have E_P2_7 := Lib.hid (Only.ext (E_P2_6.out) hN.ext)
  have E_w0_7 := Lib.hid (Only.ext (E_w0_6.out) hN.ext)
  have E_X0_7 := Lib.hid (Only.ext (E_X0_6.out) hN.ext)
  have E_X2_7 := Lib.hid (Only.ext (E_X2_6.out) hN.ext)
  have E_g0_7 := Lib.hid (Only.ext (E_g0_6.out) hN.ext)
  clear E_B_6 E_P0_6 E_P2_6 E_w0_6 E_X0_6 E_X2_6 E_g0_6
  clear hN
  have E_C6_7 := Lib.hid (Only.refl [] w7)
  go_wp2_with fail
  refine (eqByteS_calls _ _ _ _ _ _ _ _ _ (Rep.sl_ext s_X0_1 (E_X0_7.out)) (Rep.sl_ext s_C6_1 (E_C6_7.out))).mono ?_
  rintro e w8 ⟨rfl, hO⟩
  rw [show decide (x0 = x0) = true from decide_eq_true rfl]
  have SZ_8 : Hid (w7.heap.size + 0 ≤ w8.heap.size) := by have := Only.size hO; (try simp at this); exact (by omega : w7.heap.size + 0 ≤ w8.heap.size)
  have E_B_8 := Lib.hid (Only.ext (E_B_7.out) hO)
  have E_P0_8 := Lib.hid (Only.ext (E_P0_7.out) hO)
  have E_P2_8 := Lib.hid (Only.ext (E_P2_7.out) hO)
  have E_w0_8 := Lib.hid (Only.ext (E_w0_7.out) hO)
  have E_X0_8 := Lib.hid (Only.ext (E_X0_7.out) hO)
  have E_X2_8 := Lib.hid (Only.ext (E_X2_7.out) hO)
  have E_g0_8 := Lib.hid (Only.ext (E_g0_7.out) hO)
  have E_C6_8 := Lib.hid (Only.ext (E_C6_7.out) hO)
  clear E_B_7 E_P0_7 E_P2_7 E_w0_7 E_X0_7 E_X2_7 E_g0_7 E_C6_7
  clear hO
  clear E_C6_8
  have hh_P2 := E_P2_8.out.heap HBX_P2.out (by simp)
  have z_P2 := (Array.getElem?_eq_some_iff.1 hh_P2).1
  have cl_P2 := fun o => cell_of_row _ _ o _ _ _ hh_P2
  clear hh_P2
  have hh_X2 := E_X2_8.out.heap HBX_X2.out (by simp)
  have z_X2 := (Array.getElem?_eq_some_iff.1 hh_X2).1
  have cl_X2 := fun o => cell_of_row _ _ o _ _ _ hh_X2
  clear hh_X2
  go_wp2_with fail
  have k0 : w8.cell? ⟨w.heap.size, 0, none⟩ = some (.bool x2.Used) := cl_P2 0
  have k1 : w8.cell? ⟨w.heap.size, 1, none⟩ = some (.slice A_P2_1 x2.Data.length c_P2_1) := cl_P2 1
  have m0 : w8.cell? ⟨w4.heap.size, 0, none⟩ = some (.bool x2.Used) := cl_X2 0
  have m1 : w8.cell? ⟨w4.heap.size, 1, none⟩ = some (.slice A_X2_1 x2.Data.length c_X2_1) := cl_X2 1
  clear cl_P2 cl_X2
  go_region_held3 (fun w' => w'.cell? ⟨w.heap.size, 0, none⟩ = some (.bool x2.Used) ∧ w'.cell? ⟨w.heap.size, 1, none⟩ = some (.slice A_P2_1 x2.Data.length c_P2_1) ∧ w'.cell? ⟨w4.heap.size, 0, none⟩ = some (.bool x2.Used) ∧ w'.cell? ⟨w4.heap.size, 1, none⟩ = some (.slice A_X2_1 x2.Data.length c_X2_1))
    (first | go_keep | exact ⟨hN.ext.ecell k0, hN.ext.ecell k1, hN.ext.ecell m0, hN.ext.ecell m1⟩ | (go_split_ands; exact ⟨hO.ecell (by assumption), hO.ecell (by assumption), hO.ecell (by assumption), hO.ecell (by assumption)⟩))
    (first
      | (go_at_call 19; refine (toPageRecord_calls _ x2 _ _ ⟨_, ⟨A_P2_1, c_P2_1, _, rfl, rfl, wf_P2_, Rep.sl_ext s_P2_1 E_P2_8.out.drew⟩, rfl⟩ h_aR).mono ?_; rintro e w9 ⟨v6, G6, rfl, hV6, hN⟩)
      | (go_at_call 22; refine (eqPageRecord_calls _ x2 _ _ x2 _ _ ⟨_, ⟨A_X2_1, c_X2_1, _, rfl, rfl, wf_X2_, Rep.sl_ext s_X2_1 (Only.ext E_X2_8.out.drew hN.ext)⟩, rfl⟩ hV6).mono ?_; rintro e w10 ⟨rfl, hO⟩; rw [show decide (x2 = x2) = true from decide_eq_true rfl]))
  have hO2 := Only.ext (Only.ext ((Only.refl [] w8).drew) hN.ext) hO
  clear hN hO hV6 z_P2 z_X2 k0 k1 m0 m1
  have hO := hO2
  clear hO2
  have SZ_10 : Hid (w8.heap.size + 0 ≤ w10.heap.size) := by have := Only.size hO; exact (by omega : w8.heap.size + 0 ≤ w10.heap.size)
  have SZ_9 : Hid (w8.heap.size + 0 ≤ w8.heap.size) := Nat.le_refl _
  have E_B_10 := Lib.hid (Only.ext E_B_8.out hO)
  have E_P0_10 := Lib.hid (Only.ext E_P0_8.out hO)
  have E_P2_10 := Lib.hid (Only.ext E_P2_8.out hO)
  have E_w0_10 := Lib.hid (Only.ext E_w0_8.out hO)
  have E_X0_10 := Lib.hid (Only.ext E_X0_8.out hO)
  have E_X2_10 := Lib.hid (Only.ext E_X2_8.out hO)
  have E_g0_10 := Lib.hid (Only.ext E_g0_8.out hO)
  clear hO E_B_8 E_P0_8 E_P2_8 E_w0_8 E_X0_8 E_X2_8 E_g0_8
  have hk_X0 : x0.length ≤ 64 * (x0.length) := by omega
  go_wp2_with fail
  refine (markByteS_calls _ _ _ _ (1) _ (Rep.sl_ext s_X0_1 (E_X0_10.out)) ND_X0.out (Unfr.ext U_X0.out (E_X0_10.out) (fun b hb => by have h1 := LT_X0.out b hb; skip; omega)) (by omega) (by omega)).mono ?_
  rintro e w11 ⟨rfl, hV, hO, hU⟩
  have SZ_11 : Hid (w10.heap.size + 0 ≤ w11.heap.size) := by have := Only.size hO; exact (by omega : w10.heap.size + 0 ≤ w11.heap.size)
  have E_B_11 := Lib.hid (Only.then_ E_B_10.out hO (fun g hg h => by have h1 := GE_X0.out g hg; have q1 := SZ_1.out; have q2 := SZ_2.out; omega))
  have t_ := Rep.sl_only (Rep.sl_ext s_P0_1 E_P0_10.out) hO (fun b hb hb' => by have h1 := LT_P0.out b (hb); have h2 := GE_X0.out b hb'; have q1 := SZ_1.out; have q2 := SZ_2.out; omega)
  clear s_P0_1
  have s_P0_1 := t_
  clear t_
  have E_P0_11 := Lib.hid (Only.refl [] w11)
  have t_ := Rep.sl_only (Rep.sl_ext s_P2_1 E_P2_10.out) hO (fun b hb hb' => by have h1 := LT_P2.out b (hb); have h2 := GE_X0.out b hb'; have q1 := SZ_1.out; have q2 := SZ_2.out; omega)
  clear s_P2_1
  have s_P2_1 := t_
  clear t_
  have t_ := Lib.hid (Only.heap hO (Only.heap E_P2_10.out HBX_P2.out (by simp)) (fun hb => by have h1 := GE_X0.out _ hb; have q1 := SZ_1.out; have q2 := SZ_2.out; omega))
  clear HBX_P2
  have HBX_P2 := t_
  clear t_
  have E_P2_11 := Lib.hid (Only.refl [] w11)
  have t_ := Rep.sl_only (Rep.sl_ext s_w0_1 E_w0_10.out) hO (fun b hb hb' => by have h1 := LT_w0.out b (hb); have h2 := GE_X0.out b hb'; omega)
  clear s_w0_1
  have s_w0_1 := t_
  clear t_
  have t_ := Lib.hid (Only.heap hO (Only.heap E_w0_10.out HBX_w0.out (by simp)) (fun hb => by have h1 := GE_X0.out _ hb; omega))
  clear HBX_w0
  have HBX_w0 := t_
  clear t_
  have E_w0_11 := Lib.hid (Only.refl [] w11)
  have t_ := Rep.sl_only (Rep.sl_ext s_X2_1 E_X2_10.out) hO (fun b hb hb' => by have h1 := GE_X2.out b (hb); have h2 := LT_X0.out b hb'; omega)
  clear s_X2_1
  have s_X2_1 := t_
  clear t_
  have t_ := Lib.hid (Unfr.only (Unfr.ext U_X2.out E_X2_10.out (fun b hb => by have h1 := LT_X2.out b hb; have q5 := SZ_5.out; omega)) hO (fun b hb => by have h1 := LT_X2.out b hb; have q5 := SZ_5.out; have q6 := SZ_6.out; have q7 := SZ_7.out; have q8 := SZ_8.out; have q9 := SZ_9.out; have q10 := SZ_10.out; omega) (fun b hb hb' => by have h1 := GE_X2.out b hb; have h2 := LT_X0.out b hb'; omega))
  clear U_X2
  have U_X2 := t_
  clear t_
  have t_ := Lib.hid (Only.heap hO (Only.heap E_X2_10.out HBX_X2.out (by simp)) (fun hb => by have h1 := LT_X0.out _ hb; have q4 := SZ_4.out; omega))
  clear HBX_X2
  have HBX_X2 := t_
  clear t_
  have E_X2_11 := Lib.hid (Only.refl [] w11)
  have t_ := Rep.sl_only (Rep.sl_ext s_g0_1 E_g0_10.out) hO (fun b hb hb' => by have h1 := GE_g0.out b (hb); have h2 := LT_X0.out b hb'; have q4 := SZ_4.out; omega)
  clear s_g0_1
  have s_g0_1 := t_
  clear t_
  have t_ := Lib.hid (Unfr.only (Unfr.ext U_g0.out E_g0_10.out (fun b hb => by have h1 := LT_g0.out b hb; have q6 := SZ_6.out; omega)) hO (fun b hb => by have h1 := LT_g0.out b hb; have q6 := SZ_6.out; have q7 := SZ_7.out; have q8 := SZ_8.out; have q9 := SZ_9.out; have q10 := SZ_10.out; omega) (fun b hb hb' => by have h1 := GE_g0.out b hb; have h2 := LT_X0.out b hb'; have q4 := SZ_4.out; omega))
  clear U_g0
  have U_g0 := t_
  clear t_
  have t_ := Lib.hid (Only.heap hO (Only.heap E_g0_10.out HBX_g0.out (by simp)) (fun hb => by have h1 := LT_X0.out _ hb; have q4 := SZ_4.out; have q5 := SZ_5.out; omega))
  clear HBX_g0
  have HBX_g0 := t_
  clear t_
  have E_g0_11 := Lib.hid (Only.refl [] w11)
  clear E_B_10 E_P0_10 E_P2_10 E_w0_10 E_X0_10 E_X2_10 E_g0_10
  clear hO hU hV
  have hk_X2 : ctTopPageRecord x2 ≤ 64 * (wtPageRecord x2) := ctTopPageRecord_wt _
  have hh_X2 := E_X2_11.out.heap HBX_X2.out (by simp)
  have z_X2 := (Array.getElem?_eq_some_iff.1 hh_X2).1
  have cl_X2 := fun o => cell_of_row _ _ o _ _ _ hh_X2
  clear hh_X2
  go_wp2_with fail
  refine (markPageRecord_calls _ x2 (F_X2_1) (1 + x0.length) _ ⟨_, ⟨A_X2_1, c_X2_1, _, rfl, rfl, wf_X2_, Rep.sl_ext s_X2_1 (E_X2_11.out)⟩, rfl⟩ ND_X2.out (Unfr.ext U_X2.out (E_X2_11.out) (fun b hb => by have h1 := LT_X2.out b hb; have q5 := SZ_5.out; have q6 := SZ_6.out; have q7 := SZ_7.out; have q8 := SZ_8.out; have q9 := SZ_9.out; have q10 := SZ_10.out; have q11 := SZ_11.out; omega)) (by omega) (by omega)).mono ?_
  rintro e w12 ⟨rfl, hV, hO, hU⟩
  clear z_X2 cl_X2
  have SZ_12 : Hid (w11.heap.size + 0 ≤ w12.heap.size) := by have := Only.size hO; exact (by omega : w11.heap.size + 0 ≤ w12.heap.size)
  have E_B_12 := Lib.hid (Only.then_ E_B_11.out hO (fun g hg h => by have h1 := GE_X2.out g hg; have q1 := SZ_1.out; have q2 := SZ_2.out; have q3 := SZ_3.out; omega))
  have t_ := Rep.sl_only (Rep.sl_ext s_P0_1 E_P0_11.out) hO (fun b hb hb' => by have h1 := LT_P0.out b (hb); have h2 := GE_X2.out b hb'; have q1 := SZ_1.out; have q2 := SZ_2.out; have q3 := SZ_3.out; omega)
  clear s_P0_1
  have s_P0_1 := t_
  clear t_
  have E_P0_12 := Lib.hid (Only.refl [] w12)
  have t_ := Rep.sl_only (Rep.sl_ext s_P2_1 E_P2_11.out) hO (fun b hb hb' => by have h1 := LT_P2.out b (hb); have h2 := GE_X2.out b hb'; have q1 := SZ_1.out; have q2 := SZ_2.out; have q3 := SZ_3.out; omega)
  clear s_P2_1
  have s_P2_1 := t_
  clear t_
  have t_ := Lib.hid (Only.heap hO (Only.heap E_P2_11.out HBX_P2.out (by simp)) (fun hb => by have h1 := GE_X2.out _ hb; have q1 := SZ_1.out; have q2 := SZ_2.out; have q3 := SZ_3.out; omega))
  clear HBX_P2
  have HBX_P2 := t_
  clear t_
  have E_P2_12 := Lib.hid (Only.refl [] w12)
  have t_ := Rep.sl_only (Rep.sl_ext s_w0_1 E_w0_11.out) hO (fun b hb hb' => by have h1 := LT_w0.out b (hb); have h2 := GE_X2.out b hb'; have q3 := SZ_3.out; omega)
  clear s_w0_1
  have s_w0_1 := t_
  clear t_
  have t_ := Lib.hid (Only.heap hO (Only.heap E_w0_11.out HBX_w0.out (by simp)) (fun hb => by have h1 := GE_X2.out _ hb; have q3 := SZ_3.out; omega))
  clear HBX_w0
  have HBX_w0 := t_
  clear t_
  have E_w0_12 := Lib.hid (Only.refl [] w12)
  have t_ := Rep.sl_only (Rep.sl_ext s_g0_1 E_g0_11.out) hO (fun b hb hb' => by have h1 := GE_g0.out b (hb); have h2 := LT_X2.out b hb'; omega)
  clear s_g0_1
  have s_g0_1 := t_
  clear t_
  have t_ := Lib.hid (Unfr.only (Unfr.ext U_g0.out E_g0_11.out (fun b hb => by have h1 := LT_g0.out b hb; have q6 := SZ_6.out; have q7 := SZ_7.out; have q8 := SZ_8.out; have q9 := SZ_9.out; have q10 := SZ_10.out; have q11 := SZ_11.out; omega)) hO (fun b hb => by have h1 := LT_g0.out b hb; have q6 := SZ_6.out; have q7 := SZ_7.out; have q8 := SZ_8.out; have q9 := SZ_9.out; have q10 := SZ_10.out; have q11 := SZ_11.out; omega) (fun b hb hb' => by have h1 := GE_g0.out b hb; have h2 := LT_X2.out b hb'; omega))
  clear U_g0
  have U_g0 := t_
  clear t_
  have t_ := Lib.hid (Only.heap hO (Only.heap E_g0_11.out HBX_g0.out (by simp)) (fun hb => by have h1 := LT_X2.out _ hb; have q5 := SZ_5.out; omega))
  clear HBX_g0
  have HBX_g0 := t_
  clear t_
  have E_g0_12 := Lib.hid (Only.refl [] w12)
  clear E_B_11 E_P0_11 E_P2_11 E_w0_11 E_X2_11 E_g0_11
  clear hO hU hV
  have hkk : decide (1 + x0.length + ctTopPageRecord x2 < (0 : Int)) = false := by rw [decide_eq_false_iff_not]; omega
  have hh_g0 := E_g0_12.out.heap HBX_g0.out (by simp)
  have z_g0 := (Array.getElem?_eq_some_iff.1 hh_g0).1
  have cl_g0 := fun o => cell_of_row _ _ o _ _ _ hh_g0
  clear hh_g0
  have hh_w0 := E_w0_12.out.heap HBX_w0.out (by simp)
  have z_w0 := (Array.getElem?_eq_some_iff.1 hh_w0).1
  have cl_w0 := fun o => cell_of_row _ _ o _ _ _ hh_w0
  clear hh_w0
  go_wp2_with fail
  refine (eqPageResult_calls _ R _ _ R _ _ ⟨_, ⟨A_g0_1, c_g0_1, _, rfl, rfl, wf_g0_, Rep.sl_ext s_g0_1 (E_g0_12.out)⟩, rfl⟩ ⟨_, ⟨A_w0_1, c_w0_1, _, rfl, rfl, wf_w0_, Rep.sl_ext s_w0_1 (E_w0_12.out)⟩, rfl⟩).mono ?_
  rintro e w13 ⟨rfl, hO⟩
  clear z_g0 cl_g0 z_w0 cl_w0
  rw [show decide (R = R) = true from decide_eq_true rfl]
  have SZ_13 : Hid (w12.heap.size + 0 ≤ w13.heap.size) := by have := Only.size hO; (try simp at this); exact (by omega : w12.heap.size + 0 ≤ w13.heap.size)
  have E_B_13 := Lib.hid (Only.ext (E_B_12.out) hO)
  have E_P0_13 := Lib.hid (Only.ext (E_P0_12.out) hO)
  have E_P2_13 := Lib.hid (Only.ext (E_P2_12.out) hO)
  have E_w0_13 := Lib.hid (Only.ext (E_w0_12.out) hO)
  have E_g0_13 := Lib.hid (Only.ext (E_g0_12.out) hO)
  clear E_B_12 E_P0_12 E_P2_12 E_w0_12 E_g0_12
  clear hO
  have hh_g0 := E_g0_13.out.heap HBX_g0.out (by simp)
  have z_g0 := (Array.getElem?_eq_some_iff.1 hh_g0).1
  have cl_g0 := fun o => cell_of_row _ _ o _ _ _ hh_g0
  clear hh_g0
  go_wp2_with fail
  refine (markPageResult_calls _ R (F_g0_1) (1) _ ⟨_, ⟨A_g0_1, c_g0_1, _, rfl, rfl, wf_g0_, Rep.sl_ext s_g0_1 (E_g0_13.out)⟩, rfl⟩ ND_g0.out (Unfr.ext U_g0.out (E_g0_13.out) (fun b hb => by have h1 := LT_g0.out b hb; have q6 := SZ_6.out; have q7 := SZ_7.out; have q8 := SZ_8.out; have q9 := SZ_9.out; have q10 := SZ_10.out; have q11 := SZ_11.out; have q12 := SZ_12.out; omega)) (by omega) (by omega)).mono ?_
  rintro e w14 ⟨rfl, hV, hO, hU⟩
  clear z_g0 cl_g0
  have SZ_14 : Hid (w13.heap.size + 0 ≤ w14.heap.size) := by have := Only.size hO; exact (by omega : w13.heap.size + 0 ≤ w14.heap.size)
  have E_B_14 := Lib.hid (Only.then_ E_B_13.out hO (fun g hg h => by have h1 := GE_g0.out g hg; have q1 := SZ_1.out; have q2 := SZ_2.out; have q3 := SZ_3.out; have q4 := SZ_4.out; omega))
  have t_ := Rep.sl_only (Rep.sl_ext s_P0_1 E_P0_13.out) hO (fun b hb hb' => by have h1 := LT_P0.out b (hb); have h2 := GE_g0.out b hb'; have q1 := SZ_1.out; have q2 := SZ_2.out; have q3 := SZ_3.out; have q4 := SZ_4.out; omega)
  clear s_P0_1
  have s_P0_1 := t_
  clear t_
  have E_P0_14 := Lib.hid (Only.refl [] w14)
  have t_ := Rep.sl_only (Rep.sl_ext s_P2_1 E_P2_13.out) hO (fun b hb hb' => by have h1 := LT_P2.out b (hb); have h2 := GE_g0.out b hb'; have q1 := SZ_1.out; have q2 := SZ_2.out; have q3 := SZ_3.out; have q4 := SZ_4.out; omega)
  clear s_P2_1
  have s_P2_1 := t_
  clear t_
  have t_ := Lib.hid (Only.heap hO (Only.heap E_P2_13.out HBX_P2.out (by simp)) (fun hb => by have h1 := GE_g0.out _ hb; have q1 := SZ_1.out; have q2 := SZ_2.out; have q3 := SZ_3.out; have q4 := SZ_4.out; omega))
  clear HBX_P2
  have HBX_P2 := t_
  clear t_
  have E_P2_14 := Lib.hid (Only.refl [] w14)
  have t_ := Rep.sl_only (Rep.sl_ext s_w0_1 E_w0_13.out) hO (fun b hb hb' => by have h1 := LT_w0.out b (hb); have h2 := GE_g0.out b hb'; have q3 := SZ_3.out; have q4 := SZ_4.out; omega)
  clear s_w0_1
  have s_w0_1 := t_
  clear t_
  have t_ := Lib.hid (Only.heap hO (Only.heap E_w0_13.out HBX_w0.out (by simp)) (fun hb => by have h1 := GE_g0.out _ hb; have q3 := SZ_3.out; have q4 := SZ_4.out; omega))
  clear HBX_w0
  have HBX_w0 := t_
  clear t_
  have E_w0_14 := Lib.hid (Only.refl [] w14)
  have t_ := Lib.hid (Only.heap hO (Only.heap E_g0_13.out HBX_g0.out (by simp)) (fun hb => by have h1 := LT_g0.out _ hb; omega))
  clear HBX_g0
  have HBX_g0 := t_
  clear t_
  clear s_g0_1
  have VM := hV
  have E_g0_14 := Lib.hid (Only.refl [] w14)
  clear E_B_13 E_P0_13 E_P2_13 E_w0_13 E_g0_13
  clear hO hU
  have hh_g0 := E_g0_14.out.heap HBX_g0.out (by simp)
  have z_g0 := (Array.getElem?_eq_some_iff.1 hh_g0).1
  have cl_g0 := fun o => cell_of_row _ _ o _ _ _ hh_g0
  clear hh_g0
  go_wp2_with fail
  refine (heldPageResult_calls _ R _ 1 _ (V_ext VM (E_g0_14.out)) (by omega) (by omega)).mono ?_
  rintro e w15 ⟨rfl, hO⟩
  clear z_g0 cl_g0
  have SZ_15 : Hid (w14.heap.size + 0 ≤ w15.heap.size) := by have := Only.size hO; (try simp at this); exact (by omega : w14.heap.size + 0 ≤ w15.heap.size)
  have E_B_15 := Lib.hid (Only.ext (E_B_14.out) hO)
  have E_P0_15 := Lib.hid (Only.ext (E_P0_14.out) hO)
  have E_P2_15 := Lib.hid (Only.ext (E_P2_14.out) hO)
  have E_w0_15 := Lib.hid (Only.ext (E_w0_14.out) hO)
  have E_g0_15 := Lib.hid (Only.ext (E_g0_14.out) hO)
  clear E_B_14 E_P0_14 E_P2_14 E_w0_14 E_g0_14
  clear hO
  go_wp2_with fail
  go_cut [17] from 81 to 87 (fun p wx => ∃ (wn : World) (b : Nat) (A : Option Addr) (c : Nat) (F : List Nat), wn = wx ∧ p = .pointer (some ⟨b, 0, none⟩) ∧ Hid (Rl w15 wn b (R) A c F))
  case first =>
    have z0 := cell_of_row _ _ 0 _ _ _ (Only.heap (E_P2_15.out) HBX_P2.out (by simp))
    replace z0 : w15.cell? ⟨w.heap.size, 0, none⟩ = some (.bool x2.Used) := z0
    have z1 := cell_of_row _ _ 1 _ _ _ (Only.heap (E_P2_15.out) HBX_P2.out (by simp))
    replace z1 : w15.cell? ⟨w.heap.size, 1, none⟩ = some (.slice A_P2_1 x2.Data.length c_P2_1) := z1
    have HX := Lib.hid (show Ext w15 (w15).drew from (Only.refl _ _).drew)
    go_region_held3 (fun w' => w'.cell? ⟨w.heap.size, 0, none⟩ = some (.bool x2.Used) ∧ w'.cell? ⟨w.heap.size, 1, none⟩ = some (.slice A_P2_1 x2.Data.length c_P2_1))
      (first | go_keep | exact ⟨HX.out.ecell z0, HX.out.ecell z1⟩ | exact ⟨(HX.out.alloc _).ecell z0, (HX.out.alloc _).ecell z1⟩ | exact ⟨set2_cell (HX.out.ecell z0) (Nat.ne_of_lt (Nat.lt_of_lt_of_le (block_lt_of_cell z0) HBG.out)), set2_cell (HX.out.ecell z1) (Nat.ne_of_lt (Nat.lt_of_lt_of_le (block_lt_of_cell z1) HBG.out))⟩)
      (first
        | (go_at_call 12; refine (toByteS_calls _ _ _ _ _ (Rep.sl_ext s_P0_1 (Only.ext (E_P0_15.out) (by repeat (first | with_reducible exact HX.out | with_reducible exact Only.refl _ _ | with_reducible apply Only.alloc | with_reducible apply Only.drew)))) (by omega)).mono ?_; rintro e wT0 ⟨vT0, FT0, rfl, hVT0, hNT0⟩; obtain ⟨A_T0_1, c_T0_1, rfl, s_T0_1⟩ := Rep.slice_V hVT0; (first | replace HBR := Lib.hid (hNT0.ext.heap HBR.out (by simp)) | (have HBR := Lib.hid (hNT0.ext.heap (heap_alloc_new _ _) (by simp)); have HBG := Lib.hid (show w15.heap.size ≤ _ from HX.out.size)) | skip); (try have mb := fun o => cell_of_row _ _ o _ _ _ HBR.out); (try have fb := fun o => frozen_of_row _ _ o _ _ HBR.out); replace HX := Lib.hid (show Ext w15 wT0 from Only.ext (by repeat (first | with_reducible exact HX.out | with_reducible exact Only.refl _ _ | with_reducible apply Only.alloc | with_reducible apply Only.drew)) hNT0.ext))
        | (go_at_call 19; refine (toPageRecord_calls _ x2 _ _ ⟨_, ⟨A_P2_1, c_P2_1, _, rfl, rfl, wf_P2_, Rep.sl_ext s_P2_1 (Only.ext (E_P2_15.out) (by repeat (first | with_reducible exact HX.out | with_reducible exact Only.refl _ _ | with_reducible apply Only.alloc | with_reducible apply Only.drew)))⟩, rfl⟩ h_aR).mono ?_; rintro e wT1 ⟨vT1, FT1, rfl, hVT1, hNT1⟩; obtain ⟨_, ⟨A_T1_1, c_T1_1, Fd_T1, rfl, rfl, wf_T1, s_T1_1⟩, hv_T1⟩ := hVT1; replace hv_T1 : vT1 = .agg #[_, _] := hv_T1; subst hv_T1; (first | replace HBR := Lib.hid (hNT1.ext.heap HBR.out (by simp)) | (have HBR := Lib.hid (hNT1.ext.heap (heap_alloc_new _ _) (by simp)); have HBG := Lib.hid (show w15.heap.size ≤ _ from HX.out.size)) | skip); (try have mb := fun o => cell_of_row _ _ o _ _ _ HBR.out); (try have fb := fun o => frozen_of_row _ _ o _ _ HBR.out); replace HX := Lib.hid (show Ext w15 wT1 from Only.ext (by repeat (first | with_reducible exact HX.out | with_reducible exact Only.refl _ _ | with_reducible apply Only.alloc | with_reducible apply Only.drew)) hNT1.ext); have HT01 := Lib.hid (show Ext wT0 wT1 from Only.ext (by repeat (first | with_reducible exact Only.refl _ _ | with_reducible exact Only.refl _ _ | with_reducible apply Only.alloc | with_reducible apply Only.drew)) hNT1.ext))
        | (go_at_call 20; refine (implPageSet_new _ _ _ x0 _ (Rep.sl_ext s_T0_1 (by repeat (first | with_reducible exact HT01.out | with_reducible exact Only.refl _ _ | with_reducible apply Only.alloc | with_reducible apply Only.drew))) x1 e1 _ x2 _ ⟨_, ⟨A_T1_1, c_T1_1, _, rfl, rfl, wf_T1, Rep.sl_ext s_T1_1 (by repeat (first | with_reducible exact Only.refl _ _ | with_reducible exact Only.refl _ _ | with_reducible apply Only.alloc | with_reducible apply Only.drew))⟩, rfl⟩ x3 e3 h_aPage h_aR).mono ?_; rintro e wC ⟨vC, FC, rfl, hVC, hNC⟩; rw [HR.out] at hVC; obtain ⟨_, ⟨AC, cC, FdC, rfl, rfl, wfC, sC⟩, hvC⟩ := hVC; replace hvC : vC = .agg #[_, _] := hvC; subst hvC; (first | have HBN := Lib.hid (notin_old hNC HBR.out) | have HBN := Lib.hid (notin_old hNC (heap_alloc_new _ _)) | skip); (first | replace HBR := Lib.hid (hNC.ext.heap HBR.out (by simp)) | (have HBR := Lib.hid (hNC.ext.heap (heap_alloc_new _ _) (by simp)); have HBG := Lib.hid (show w15.heap.size ≤ _ from HX.out.size)) | skip); (try have mb := fun o => cell_of_row _ _ o _ _ _ HBR.out); (try have fb := fun o => frozen_of_row _ _ o _ _ HBR.out); replace HX := Lib.hid (show Ext w15 wC from Only.ext (by repeat (first | with_reducible exact HX.out | with_reducible exact Only.refl _ _ | with_reducible apply Only.alloc | with_reducible apply Only.drew)) hNC.ext)))
    all_goals
      go_wp2_with fail
      go_meet
      first
        | exact ⟨_, _, AC, cC, _, rfl, rfl, Lib.hid (Rl.alloc HX.out wfC sC)⟩
        | exact ⟨_, _, AC, cC, _, rfl, rfl, Lib.hid (Rl.set HX.out wfC sC HBG.out HBR.out rfl HBN.out)⟩
  obtain ⟨w16, b_h0, A_h0_1, c_h0_1, F_h0_1, rfl, rfl, hrel⟩ := hcut
  have HRL_h0 := hrel
  clear hrel
  have s_h0_1 := HRL_h0.out.sl
  have wf_h0_ := HRL_h0.out.wf
  have hO := HRL_h0.out.ext
  have hlt_h0 := HRL_h0.out.lt
  have hge_h0 := HRL_h0.out.ge
  have LT_h0 : Hid (∀ b ∈ F_h0_1, b < w16.heap.size) := (fun b hb => Rep.sl_lt s_h0_1 b hb)
  have SZ_16 : Hid (w15.heap.size + 0 ≤ w16.heap.size) := by have := Only.size hO; (try simp at this); exact (by omega : w15.heap.size + 0 ≤ w16.heap.size)
  have E_B_16 := Lib.hid (Only.ext (E_B_15.out) hO)
  have E_P0_16 := Lib.hid (Only.ext (E_P0_15.out) hO)
  have E_P2_16 := Lib.hid (Only.ext (E_P2_15.out) hO)
  have E_w0_16 := Lib.hid (Only.ext (E_w0_15.out) hO)
  have E_g0_16 := Lib.hid (Only.ext (E_g0_15.out) hO)
  clear E_B_15 E_P0_15 E_P2_15 E_w0_15 E_g0_15
  clear hO
  have E_h0_16 := Lib.hid (Only.refl [] w16)
  have HBX_h0 := Lib.hid HRL_h0.out.row
  have hh_h0 := E_h0_16.out.heap HBX_h0.out (by simp)
  have z_h0 := (Array.getElem?_eq_some_iff.1 hh_h0).1
  have cl_h0 := fun o => cell_of_row _ _ o _ _ _ hh_h0
  clear hh_h0
  have hh_w0 := E_w0_16.out.heap HBX_w0.out (by simp)
  have z_w0 := (Array.getElem?_eq_some_iff.1 hh_w0).1
  have cl_w0 := fun o => cell_of_row _ _ o _ _ _ hh_w0
  clear hh_w0
  go_wp2_with fail
  refine (eqPageResult_calls _ R _ _ R _ _ ⟨_, ⟨A_h0_1, c_h0_1, _, rfl, rfl, wf_h0_, Rep.sl_ext s_h0_1 (E_h0_16.out)⟩, rfl⟩ ⟨_, ⟨A_w0_1, c_w0_1, _, rfl, rfl, wf_w0_, Rep.sl_ext s_w0_1 (E_w0_16.out)⟩, rfl⟩).mono ?_
  rintro e w17 ⟨rfl, hO⟩
  clear z_h0 cl_h0 z_w0 cl_w0
  rw [show decide (R = R) = true from decide_eq_true rfl]
  have SZ_17 : Hid (w16.heap.size + 0 ≤ w17.heap.size) := by have := Only.size hO; (try simp at this); exact (by omega : w16.heap.size + 0 ≤ w17.heap.size)
  have E_B_17 := Lib.hid (Only.ext (E_B_16.out) hO)
  have E_P0_17 := Lib.hid (Only.ext (E_P0_16.out) hO)
  have E_P2_17 := Lib.hid (Only.ext (E_P2_16.out) hO)
  have E_w0_17 := Lib.hid (Only.ext (E_w0_16.out) hO)
  have E_g0_17 := Lib.hid (Only.ext (E_g0_16.out) hO)
  have E_h0_17 := Lib.hid (Only.ext (E_h0_16.out) hO)
  clear E_B_16 E_P0_16 E_P2_16 E_w0_16 E_g0_16 E_h0_16
  clear hO
  have hh_g0 := E_g0_17.out.heap HBX_g0.out (by simp)
  have z_g0 := (Array.getElem?_eq_some_iff.1 hh_g0).1
  have cl_g0 := fun o => cell_of_row _ _ o _ _ _ hh_g0
  clear hh_g0
  go_wp2_with fail
  refine (heldPageResult_calls _ R _ 1 _ (V_ext VM (E_g0_17.out)) (by omega) (by omega)).mono ?_
  rintro e w18 ⟨rfl, hO⟩
  clear z_g0 cl_g0
  have SZ_18 : Hid (w17.heap.size + 0 ≤ w18.heap.size) := by have := Only.size hO; (try simp at this); exact (by omega : w17.heap.size + 0 ≤ w18.heap.size)
  have E_B_18 := Lib.hid (Only.ext (E_B_17.out) hO)
  have E_P0_18 := Lib.hid (Only.ext (E_P0_17.out) hO)
  have E_P2_18 := Lib.hid (Only.ext (E_P2_17.out) hO)
  have E_w0_18 := Lib.hid (Only.ext (E_w0_17.out) hO)
  have E_g0_18 := Lib.hid (Only.ext (E_g0_17.out) hO)
  have E_h0_18 := Lib.hid (Only.ext (E_h0_17.out) hO)
  clear E_B_17 E_P0_17 E_P2_17 E_w0_17 E_g0_17 E_h0_17
  clear hO
  go_wp2_with fail
  go_ret
  exact ⟨rfl, (E_B_18.out)⟩
end Go.Proofs.YtghgjddiheebeaaDoor
