/- FnExactRedoPage: the walk of the law's own text over the contracts of what it calls. Printed by gen_law.py, a program of this session. -/
import Derived.Test.YtghgjddiheebeaaDoorV4
import Derived.Deep.RegionHeld3
namespace Go.Proofs.YtghgjddiheebeaaDoor
open Go.RowKit
set_option linter.unusedSimpArgs false
set_option linter.unusedVariables false

set_option maxRecDepth 100000 in
set_option maxHeartbeats 8000000 in
theorem RedoPage_walk (w : World) (A_P0_1 : Option Addr) (c_P0_1 : Nat) (x0 : List Int) (F_P0_1 : List Nat) (s_P0_1 : (Rep.int .u8).sl w A_P0_1 c_P0_1 x0 F_P0_1) (x1 : Int) (e1 : (Lit.int .i64 x1).wf = true) (A_P2_1 : Option Addr) (c_P2_1 : Nat) (x2 : List DLogFrame) (F_P2_1 : List Nat) (s_P2_1 : Rep.LogFrame.sl w A_P2_1 c_P2_1 x2 F_P2_1) (x3 : Int) (e3 : (Lit.int .i64 x3).wf = true) :
    Calls Tryd.prog 9 #[.slice A_P0_1 x0.length c_P0_1, .int .i64 x1, .slice A_P2_1 x2.length c_P2_1, .int .i64 x3] w fun e w' => e = .returned (.bool true) ∧ Ext w w' := by
  have LT_P0 : Hid (∀ b ∈ F_P0_1, b < w.heap.size) := fun b hb => Rep.sl_lt s_P0_1 b hb
  have LT_P2 : Hid (∀ b ∈ F_P2_1, b < w.heap.size) := fun b hb => Rep.sl_lt s_P2_1 b hb
  have hu_impl_PageResult := Tryd.underlying31
  show Calls _ _ #[_, _, _, _] _ _
  go_enter Tryd.func9, Tryd.ntmps9
  have E_B_0 := Lib.hid (Only.refl [] w)
  have E_P0_0 := Lib.hid (Only.refl [] w)
  have E_P2_0 := Lib.hid (Only.refl [] w)
  have hm0 := s_P0_1.1
  have hM0 := s_P0_1.2.1
  unfold maxLen at hM0
  by_cases hl0 : (1048576 : Int) < x0.length
  · go_wp2_with fail
    go_ret
    exact ⟨rfl, (E_B_0.out)⟩
  have h_aPage : x0.length ≤ 1048576 := by omega
  clear hm0 hM0
  go_wp2_with fail
  refine (szLogFrameS_calls _ _ _ _ _ _ (Rep.sl_ext s_P2_1 (E_P2_0.out)) (by omega) (by omega)).mono ?_
  rintro e w1 ⟨⟨l2, rfl, hr⟩, hO⟩
  have SZ_1 : Hid (w.heap.size + 0 ≤ w1.heap.size) := by have := Only.size hO; (try simp at this); exact (by omega : w.heap.size + 0 ≤ w1.heap.size)
  have E_B_1 := Lib.hid (Only.ext (E_B_0.out) hO)
  have E_P0_1 := Lib.hid (Only.ext (E_P0_0.out) hO)
  have E_P2_1 := Lib.hid (Only.ext (E_P2_0.out) hO)
  clear E_B_0 E_P0_0 E_P2_0
  clear hO
  rcases hr with rfl | ⟨hr0, hr1⟩
  · go_wp2_with fail
    go_ret
    exact ⟨rfl, (E_B_1.out)⟩
  have h_aFrames : wtLogFrameS x2 ≤ 1048576 := by omega
  have hq0_l2 : 0 ≤ l2 := hr0
  have hq1_l2 : l2 ≤ 1048576 := by omega
  clear hr0 hr1
  go_wp2_with fail
  refine (toByteS_calls _ _ _ _ _ (Rep.sl_ext s_P0_1 (E_P0_1.out)) (by omega)).mono ?_
  rintro e w2 ⟨v_T0w0, F_T0w0_1, rfl, hV, hN⟩
  obtain ⟨A_T0w0_1, c_T0w0_1, rfl, s_T0w0_1⟩ := Rep.slice_V hV
  have LT_T0w0 : Hid (∀ b ∈ F_T0w0_1, b < w2.heap.size) := (fun b hb => Rep.sl_lt s_T0w0_1 b hb)
  have GE_T0w0 : Hid (∀ b ∈ F_T0w0_1, w1.heap.size + 0 ≤ b) := by
    have h : ∀ b ∈ F_T0w0_1, _ := hN.new
    try simp only [World.alloc, Array.size_push] at h
    exact h
  have U_T0w0 := Lib.hid hN.unfr
  have ND_T0w0 := Lib.hid hN.nodup
  have SZ_2 : Hid (w1.heap.size + 0 ≤ w2.heap.size) := by have := Only.size hN.ext; (try simp at this); exact (by omega : w1.heap.size + 0 ≤ w2.heap.size)
  have E_B_2 := Lib.hid (Only.ext (E_B_1.out) hN.ext)
  have E_P0_2 := Lib.hid (Only.ext (E_P0_1.out) hN.ext)
  have E_P2_2 := Lib.hid (Only.ext (E_P2_1.out) hN.ext)
  clear E_B_1 E_P0_1 E_P2_1
  clear hN
  have E_T0w0_2 := Lib.hid (Only.refl [] w2)
  go_wp2_with fail
  refine (toLogFrameS_calls _ _ _ _ _ (Rep.sl_ext s_P2_1 (E_P2_2.out)) h_aFrames).mono ?_
  rintro e w3 ⟨v_T1w0, F_T1w0_1, rfl, hV, hN⟩
  obtain ⟨A_T1w0_1, c_T1w0_1, rfl, s_T1w0_1⟩ := Rep.slice_V hV
  have LT_T1w0 : Hid (∀ b ∈ F_T1w0_1, b < w3.heap.size) := (fun b hb => Rep.sl_lt s_T1w0_1 b hb)
  have GE_T1w0 : Hid (∀ b ∈ F_T1w0_1, w2.heap.size + 0 ≤ b) := by
    have h : ∀ b ∈ F_T1w0_1, _ := hN.new
    try simp only [World.alloc, Array.size_push] at h
    exact h
  have U_T1w0 := Lib.hid hN.unfr
  have ND_T1w0 := Lib.hid hN.nodup
  have SZ_3 : Hid (w2.heap.size + 0 ≤ w3.heap.size) := by have := Only.size hN.ext; (try simp at this); exact (by omega : w2.heap.size + 0 ≤ w3.heap.size)
  have E_B_3 := Lib.hid (Only.ext (E_B_2.out) hN.ext)
  have E_P0_3 := Lib.hid (Only.ext (E_P0_2.out) hN.ext)
  have E_P2_3 := Lib.hid (Only.ext (E_P2_2.out) hN.ext)
  have E_T0w0_3 := Lib.hid (Only.ext (E_T0w0_2.out) hN.ext)
  clear E_B_2 E_P0_2 E_P2_2 E_T0w0_2
  clear hN
  have E_T1w0_3 := Lib.hid (Only.refl [] w3)
  go_wp2_with fail
  refine (specRedoPage_calls _ _ _ x0 _ (Rep.sl_ext s_T0w0_1 (E_T0w0_3.out)) x1 e1 _ _ x2 _ (Rep.sl_ext s_T1w0_1 (E_T1w0_3.out)) x3 e3 h_aPage h_aFrames).mono ?_
  rintro e w4 ⟨v_w0, F_w0_1, rfl, hV, hO⟩
  obtain ⟨R, HR⟩ : ∃ R, Hid (redoPage x0 x1 x2 x3 = R) := ⟨_, rfl⟩
  rw [HR.out] at hV
  obtain ⟨_, ⟨A_w0_1, c_w0_1, Fd1, rfl, rfl, wf_w0_, s_w0_1⟩, hv⟩ := hV
  replace hv : v_w0 = .agg #[_, _] := hv
  subst hv
  have hct : (ctTopPageResult R) ≤ 1152921504606846976 := by rw [← HR.out]; exact (redoPage_ct _ _ _ _)
  have LT_w0 : Hid (∀ b ∈ F_w0_1, b < w4.heap.size) := (fun b hb => Rep.sl_lt s_w0_1 b hb)
  have SZ_4 : Hid (w3.heap.size + 0 ≤ w4.heap.size) := by have := Only.size hO; (try simp at this); exact (by omega : w3.heap.size + 0 ≤ w4.heap.size)
  have E_B_4 := Lib.hid (Only.ext (E_B_3.out) hO)
  have E_P0_4 := Lib.hid (Only.ext (E_P0_3.out) hO)
  have E_P2_4 := Lib.hid (Only.ext (E_P2_3.out) hO)
  have E_T0w0_4 := Lib.hid (Only.ext (E_T0w0_3.out) hO)
  have E_T1w0_4 := Lib.hid (Only.ext (E_T1w0_3.out) hO)
  clear E_B_3 E_P0_3 E_P2_3 E_T0w0_3 E_T1w0_3
  clear hO
  clear E_T0w0_4
  clear E_T1w0_4
  have E_w0_4 := Lib.hid (Only.refl [] w4)
  go_wp2_with fail
  refine (toByteS_calls _ _ _ _ _ (Rep.sl_ext s_P0_1 ((E_P0_4.out.alloc _))) (by omega)).mono ?_
  rintro e w5 ⟨v_X0, F_X0_1, rfl, hV, hN⟩
  obtain ⟨A_X0_1, c_X0_1, rfl, s_X0_1⟩ := Rep.slice_V hV
  have LT_X0 : Hid (∀ b ∈ F_X0_1, b < w5.heap.size) := (fun b hb => Rep.sl_lt s_X0_1 b hb)
  have GE_X0 : Hid (∀ b ∈ F_X0_1, w4.heap.size + 1 ≤ b) := by
    have h : ∀ b ∈ F_X0_1, _ := hN.new
    try simp only [World.alloc, Array.size_push] at h
    exact h
  have U_X0 := Lib.hid hN.unfr
  have ND_X0 := Lib.hid hN.nodup
  have SZ_5 : Hid (w4.heap.size + 1 ≤ w5.heap.size) := by have := Only.size hN.ext; (try simp at this); exact (by omega : w4.heap.size + 1 ≤ w5.heap.size)
  have E_B_5 := Lib.hid (Only.ext ((E_B_4.out.alloc _)) hN.ext)
  have E_P0_5 := Lib.hid (Only.ext ((E_P0_4.out.alloc _)) hN.ext)
  have E_P2_5 := Lib.hid (Only.ext ((E_P2_4.out.alloc _)) hN.ext)
  have HBX_w0 := Lib.hid (Only.heap hN.ext (heap_alloc_new _ _) (by simp))
  have t_ := Rep.sl_ext s_w0_1 (Only.ext ((E_w0_4.out.alloc _)) hN.ext)
  clear s_w0_1
  have s_w0_1 := t_
  clear t_
  clear E_w0_4
  have E_w0_5 := Lib.hid (Only.refl [] w5)
  clear E_B_4 E_P0_4 E_P2_4
  clear hN
  have E_X0_5 := Lib.hid (Only.refl [] w5)
  go_wp2_with fail
  refine (toLogFrameS_calls _ _ _ _ _ (Rep.sl_ext s_P2_1 (E_P2_5.out)) h_aFrames).mono ?_
  rintro e w6 ⟨v_X2, F_X2_1, rfl, hV, hN⟩
  obtain ⟨A_X2_1, c_X2_1, rfl, s_X2_1⟩ := Rep.slice_V hV
  have LT_X2 : Hid (∀ b ∈ F_X2_1, b < w6.heap.size) := (fun b hb => Rep.sl_lt s_X2_1 b hb)
  have GE_X2 : Hid (∀ b ∈ F_X2_1, w5.heap.size + 0 ≤ b) := by
    have h : ∀ b ∈ F_X2_1, _ := hN.new
    try simp only [World.alloc, Array.size_push] at h
    exact h
  have U_X2 := Lib.hid hN.unfr
  have ND_X2 := Lib.hid hN.nodup
  have SZ_6 : Hid (w5.heap.size + 0 ≤ w6.heap.size) := by have := Only.size hN.ext; (try simp at this); exact (by omega : w5.heap.size + 0 ≤ w6.heap.size)
  have E_B_6 := Lib.hid (Only.ext (E_B_5.out) hN.ext)
  have E_P0_6 := Lib.hid (Only.ext (E_P0_5.out) hN.ext)
  have E_P2_6 := Lib.hid (Only.ext (E_P2_5.out) hN.ext)
  have E_w0_6 := Lib.hid (Only.ext (E_w0_5.out) hN.ext)
  have E_X0_6 := Lib.hid (Only.ext (E_X0_5.out) hN.ext)
  clear E_B_5 E_P0_5 E_P2_5 E_w0_5 E_X0_5
  clear hN
  have E_X2_6 := Lib.hid (Only.refl [] w6)
  go_wp2_with fail
  refine (implRedo_new _ _ _ x0 _ (Rep.sl_ext s_X0_1 (E_X0_6.out)) x1 e1 _ _ x2 _ (Rep.sl_ext s_X2_1 (E_X2_6.out)) x3 e3 h_aPage h_aFrames).mono ?_
  rintro e w7 ⟨v_g0, F_g0_1, rfl, hV, hN⟩
  rw [HR.out] at hV
  obtain ⟨_, ⟨A_g0_1, c_g0_1, Fd1, rfl, rfl, wf_g0_, s_g0_1⟩, hv⟩ := hV
  replace hv : v_g0 = .agg #[_, _] := hv
  subst hv
  have LT_g0 : Hid (∀ b ∈ F_g0_1, b < w7.heap.size) := (fun b hb => Rep.sl_lt s_g0_1 b hb)
  have GE_g0 : Hid (∀ b ∈ F_g0_1, w6.heap.size + 0 ≤ b) := by
    have h : ∀ b ∈ F_g0_1, _ := hN.new
    try simp only [World.alloc, Array.size_push] at h
    exact h
  have U_g0 := Lib.hid hN.unfr
  have ND_g0 := Lib.hid hN.nodup
  have SZ_7 : Hid (w6.heap.size + 0 ≤ w7.heap.size) := by have := Only.size hN.ext; (try simp at this); exact (by omega : w6.heap.size + 0 ≤ w7.heap.size)
  have E_B_7 := Lib.hid (Only.ext (E_B_6.out) hN.ext)
  have E_P0_7 := Lib.hid (Only.ext (E_P0_6.out) hN.ext)
  have E_P2_7 := Lib.hid (Only.ext (E_P2_6.out) hN.ext)
  have E_w0_7 := Lib.hid (Only.ext (E_w0_6.out) hN.ext)
  have E_X0_7 := Lib.hid (Only.ext (E_X0_6.out) hN.ext)
  have E_X2_7 := Lib.hid (Only.ext (E_X2_6.out) hN.ext)
  clear E_B_6 E_P0_6 E_P2_6 E_w0_6 E_X0_6 E_X2_6
  clear hN
  have E_g0_7 := Lib.hid (Only.refl [] w7)
  have hh_w0 := E_w0_7.out.heap HBX_w0.out (by simp)
  have z_w0 := (Array.getElem?_eq_some_iff.1 hh_w0).1
  have cl_w0 := fun o => cell_of_row _ _ o _ _ _ hh_w0
  clear hh_w0
  go_wp2_with fail
  refine (eqPageResult_calls _ R _ _ R _ _ ⟨_, ⟨A_g0_1, c_g0_1, _, rfl, rfl, wf_g0_, Rep.sl_ext s_g0_1 ((E_g0_7.out.alloc _))⟩, rfl⟩ ⟨_, ⟨A_w0_1, c_w0_1, _, rfl, rfl, wf_w0_, Rep.sl_ext s_w0_1 ((E_w0_7.out.alloc _))⟩, rfl⟩).mono ?_
  rintro e w8 ⟨rfl, hO⟩
  clear z_w0 cl_w0
  rw [show decide (R = R) = true from decide_eq_true rfl]
  have SZ_8 : Hid (w7.heap.size + 1 ≤ w8.heap.size) := by have := Only.size hO; (try simp at this); exact (by omega : w7.heap.size + 1 ≤ w8.heap.size)
  have E_B_8 := Lib.hid (Only.ext ((E_B_7.out.alloc _)) hO)
  have E_P0_8 := Lib.hid (Only.ext ((E_P0_7.out.alloc _)) hO)
  have E_P2_8 := Lib.hid (Only.ext ((E_P2_7.out.alloc _)) hO)
  have E_w0_8 := Lib.hid (Only.ext ((E_w0_7.out.alloc _)) hO)
  have E_X0_8 := Lib.hid (Only.ext ((E_X0_7.out.alloc _)) hO)
  have E_X2_8 := Lib.hid (Only.ext ((E_X2_7.out.alloc _)) hO)
  have HBX_g0 := Lib.hid (Only.heap hO (heap_alloc_new _ _) (by simp))
  have t_ := Rep.sl_ext s_g0_1 (Only.ext ((E_g0_7.out.alloc _)) hO)
  clear s_g0_1
  have s_g0_1 := t_
  clear t_
  have t_ := Lib.hid (Unfr.ext U_g0.out (Only.ext ((E_g0_7.out.alloc _)) hO) (fun b hb => by have h1 := LT_g0.out b hb; have h2 := E_g0_7.out.size; omega))
  clear U_g0
  have U_g0 := t_
  clear t_
  clear E_g0_7
  have E_g0_8 := Lib.hid (Only.refl [] w8)
  clear E_B_7 E_P0_7 E_P2_7 E_w0_7 E_X0_7 E_X2_7
  clear hO
  go_wp2_with fail
  refine (toByteS_calls _ _ _ _ _ (Rep.sl_ext s_P0_1 (E_P0_8.out)) (by omega)).mono ?_
  rintro e w9 ⟨v_C8, F_C8_1, rfl, hV, hN⟩
  obtain ⟨A_C8_1, c_C8_1, rfl, s_C8_1⟩ := Rep.slice_V hV
  have LT_C8 : Hid (∀ b ∈ F_C8_1, b < w9.heap.size) := (fun b hb => Rep.sl_lt s_C8_1 b hb)
  have GE_C8 : Hid (∀ b ∈ F_C8_1, w8.heap.size + 0 ≤ b) := by
    have h : ∀ b ∈ F_C8_1, _ := hN.new
    try simp only [World.alloc, Array.size_push] at h
    exact h
  have U_C8 := Lib.hid hN.unfr
  have ND_C8 := Lib.hid hN.nodup
  have SZ_9 : Hid (w8.heap.size + 0 ≤ w9.heap.size) := by have := Only.size hN.ext; (try simp at this); exact (by omega : w8.heap.size + 0 ≤ w9.heap.size)
  have E_B_9 := Lib.hid (Only.ext (E_B_8.out) hN.ext)
  have E_P0_9 := Lib.hid (Only.ext (E_P0_8.out) hN.ext)
  have E_P2_9 := Lib.hid (Only.ext (E_P2_8.out) hN.ext)
  have E_w0_9 := Lib.hid (Only.ext (E_w0_8.out) hN.ext)
  have E_X0_9 := Lib.hid (Only.ext (E_X0_8.out) hN.ext)
  have E_X2_9 := Lib.hid (Only.ext (E_X2_8.out) hN.ext)
  have E_g0_9 := Lib.hid (Only.ext (E_g0_8.out) hN.ext)
  clear E_B_8 E_P0_8 E_P2_8 E_w0_8 E_X0_8 E_X2_8 E_g0_8
  clear hN
  have E_C8_9 := Lib.hid (Only.refl [] w9)
  go_wp2_with fail
  refine (eqByteS_calls _ _ _ _ _ _ _ _ _ (Rep.sl_ext s_X0_1 (E_X0_9.out)) (Rep.sl_ext s_C8_1 (E_C8_9.out))).mono ?_
  rintro e w10 ⟨rfl, hO⟩
  rw [show decide (x0 = x0) = true from decide_eq_true rfl]
  have SZ_10 : Hid (w9.heap.size + 0 ≤ w10.heap.size) := by have := Only.size hO; (try simp at this); exact (by omega : w9.heap.size + 0 ≤ w10.heap.size)
  have E_B_10 := Lib.hid (Only.ext (E_B_9.out) hO)
  have E_P0_10 := Lib.hid (Only.ext (E_P0_9.out) hO)
  have E_P2_10 := Lib.hid (Only.ext (E_P2_9.out) hO)
  have E_w0_10 := Lib.hid (Only.ext (E_w0_9.out) hO)
  have E_X0_10 := Lib.hid (Only.ext (E_X0_9.out) hO)
  have E_X2_10 := Lib.hid (Only.ext (E_X2_9.out) hO)
  have E_g0_10 := Lib.hid (Only.ext (E_g0_9.out) hO)
  have E_C8_10 := Lib.hid (Only.ext (E_C8_9.out) hO)
  clear E_B_9 E_P0_9 E_P2_9 E_w0_9 E_X0_9 E_X2_9 E_g0_9 E_C8_9
  clear hO
  clear E_C8_10
  go_wp2_with fail
  refine (toLogFrameS_calls _ _ _ _ _ (Rep.sl_ext s_P2_1 (E_P2_10.out)) h_aFrames).mono ?_
  rintro e w11 ⟨v_C10, F_C10_1, rfl, hV, hN⟩
  obtain ⟨A_C10_1, c_C10_1, rfl, s_C10_1⟩ := Rep.slice_V hV
  have LT_C10 : Hid (∀ b ∈ F_C10_1, b < w11.heap.size) := (fun b hb => Rep.sl_lt s_C10_1 b hb)
  have GE_C10 : Hid (∀ b ∈ F_C10_1, w10.heap.size + 0 ≤ b) := by
    have h : ∀ b ∈ F_C10_1, _ := hN.new
    try simp only [World.alloc, Array.size_push] at h
    exact h
  have U_C10 := Lib.hid hN.unfr
  have ND_C10 := Lib.hid hN.nodup
  have SZ_11 : Hid (w10.heap.size + 0 ≤ w11.heap.size) := by have := Only.size hN.ext; (try simp at this); exact (by omega : w10.heap.size + 0 ≤ w11.heap.size)
  have E_B_11 := Lib.hid (Only.ext (E_B_10.out) hN.ext)
  have E_P0_11 := Lib.hid (Only.ext (E_P0_10.out) hN.ext)
  have E_P2_11 := Lib.hid (Only.ext (E_P2_10.out) hN.ext)
  have E_w0_11 := Lib.hid (Only.ext (E_w0_10.out) hN.ext)
  have E_X0_11 := Lib.hid (Only.ext (E_X0_10.out) hN.ext)
  have E_X2_11 := Lib.hid (Only.ext (E_X2_10.out) hN.ext)
  have E_g0_11 := Lib.hid (Only.ext (E_g0_10.out) hN.ext)
  clear E_B_10 E_P0_10 E_P2_10 E_w0_10 E_X0_10 E_X2_10 E_g0_10
  clear hN
  have E_C10_11 := Lib.hid (Only.refl [] w11)
  go_wp2_with fail
  refine (eqLogFrameS_calls _ _ _ _ _ _ _ _ _ (Rep.sl_ext s_X2_1 (E_X2_11.out)) (Rep.sl_ext s_C10_1 (E_C10_11.out))).mono ?_
  rintro e w12 ⟨rfl, hO⟩
  rw [show decide (x2 = x2) = true from decide_eq_true rfl]
  have SZ_12 : Hid (w11.heap.size + 0 ≤ w12.heap.size) := by have := Only.size hO; (try simp at this); exact (by omega : w11.heap.size + 0 ≤ w12.heap.size)
  have E_B_12 := Lib.hid (Only.ext (E_B_11.out) hO)
  have E_P0_12 := Lib.hid (Only.ext (E_P0_11.out) hO)
  have E_P2_12 := Lib.hid (Only.ext (E_P2_11.out) hO)
  have E_w0_12 := Lib.hid (Only.ext (E_w0_11.out) hO)
  have E_X0_12 := Lib.hid (Only.ext (E_X0_11.out) hO)
  have E_X2_12 := Lib.hid (Only.ext (E_X2_11.out) hO)
  have E_g0_12 := Lib.hid (Only.ext (E_g0_11.out) hO)
  have E_C10_12 := Lib.hid (Only.ext (E_C10_11.out) hO)
  clear E_B_11 E_P0_11 E_P2_11 E_w0_11 E_X0_11 E_X2_11 E_g0_11 E_C10_11
  clear hO
  clear E_C10_12
  have hk_X0 : x0.length ≤ 64 * (x0.length) := by omega
  go_wp2_with fail
  refine (markByteS_calls _ _ _ _ (1) _ (Rep.sl_ext s_X0_1 (E_X0_12.out)) ND_X0.out (Unfr.ext U_X0.out (E_X0_12.out) (fun b hb => by have h1 := LT_X0.out b hb; skip; omega)) (by omega) (by omega)).mono ?_
  rintro e w13 ⟨rfl, hV, hO, hU⟩
  have SZ_13 : Hid (w12.heap.size + 0 ≤ w13.heap.size) := by have := Only.size hO; exact (by omega : w12.heap.size + 0 ≤ w13.heap.size)
  have E_B_13 := Lib.hid (Only.then_ E_B_12.out hO (fun g hg h => by have h1 := GE_X0.out g hg; have q1 := SZ_1.out; have q2 := SZ_2.out; have q3 := SZ_3.out; have q4 := SZ_4.out; omega))
  have t_ := Rep.sl_only (Rep.sl_ext s_P0_1 E_P0_12.out) hO (fun b hb hb' => by have h1 := LT_P0.out b (hb); have h2 := GE_X0.out b hb'; have q1 := SZ_1.out; have q2 := SZ_2.out; have q3 := SZ_3.out; have q4 := SZ_4.out; omega)
  clear s_P0_1
  have s_P0_1 := t_
  clear t_
  have E_P0_13 := Lib.hid (Only.refl [] w13)
  have t_ := Rep.sl_only (Rep.sl_ext s_P2_1 E_P2_12.out) hO (fun b hb hb' => by have h1 := LT_P2.out b (hb); have h2 := GE_X0.out b hb'; have q1 := SZ_1.out; have q2 := SZ_2.out; have q3 := SZ_3.out; have q4 := SZ_4.out; omega)
  clear s_P2_1
  have s_P2_1 := t_
  clear t_
  have E_P2_13 := Lib.hid (Only.refl [] w13)
  have t_ := Rep.sl_only (Rep.sl_ext s_w0_1 E_w0_12.out) hO (fun b hb hb' => by have h1 := LT_w0.out b (hb); have h2 := GE_X0.out b hb'; omega)
  clear s_w0_1
  have s_w0_1 := t_
  clear t_
  have t_ := Lib.hid (Only.heap hO (Only.heap E_w0_12.out HBX_w0.out (by simp)) (fun hb => by have h1 := GE_X0.out _ hb; omega))
  clear HBX_w0
  have HBX_w0 := t_
  clear t_
  have E_w0_13 := Lib.hid (Only.refl [] w13)
  have t_ := Rep.sl_only (Rep.sl_ext s_X2_1 E_X2_12.out) hO (fun b hb hb' => by have h1 := GE_X2.out b (hb); have h2 := LT_X0.out b hb'; omega)
  clear s_X2_1
  have s_X2_1 := t_
  clear t_
  have t_ := Lib.hid (Unfr.only (Unfr.ext U_X2.out E_X2_12.out (fun b hb => by have h1 := LT_X2.out b hb; omega)) hO (fun b hb => by have h1 := LT_X2.out b hb; have q7 := SZ_7.out; have q8 := SZ_8.out; have q9 := SZ_9.out; have q10 := SZ_10.out; have q11 := SZ_11.out; have q12 := SZ_12.out; omega) (fun b hb hb' => by have h1 := GE_X2.out b hb; have h2 := LT_X0.out b hb'; omega))
  clear U_X2
  have U_X2 := t_
  clear t_
  have E_X2_13 := Lib.hid (Only.refl [] w13)
  have t_ := Rep.sl_only (Rep.sl_ext s_g0_1 E_g0_12.out) hO (fun b hb hb' => by have h1 := GE_g0.out b (hb); have h2 := LT_X0.out b hb'; have q6 := SZ_6.out; omega)
  clear s_g0_1
  have s_g0_1 := t_
  clear t_
  have t_ := Lib.hid (Unfr.only (Unfr.ext U_g0.out E_g0_12.out (fun b hb => by have h1 := LT_g0.out b hb; have q8 := SZ_8.out; omega)) hO (fun b hb => by have h1 := LT_g0.out b hb; have q8 := SZ_8.out; have q9 := SZ_9.out; have q10 := SZ_10.out; have q11 := SZ_11.out; have q12 := SZ_12.out; omega) (fun b hb hb' => by have h1 := GE_g0.out b hb; have h2 := LT_X0.out b hb'; have q6 := SZ_6.out; omega))
  clear U_g0
  have U_g0 := t_
  clear t_
  have t_ := Lib.hid (Only.heap hO (Only.heap E_g0_12.out HBX_g0.out (by simp)) (fun hb => by have h1 := LT_X0.out _ hb; have q6 := SZ_6.out; have q7 := SZ_7.out; omega))
  clear HBX_g0
  have HBX_g0 := t_
  clear t_
  have E_g0_13 := Lib.hid (Only.refl [] w13)
  clear E_B_12 E_P0_12 E_P2_12 E_w0_12 E_X0_12 E_X2_12 E_g0_12
  clear hO hU hV
  have hk_X2 : ctLogFrameS x2 ≤ 64 * (wtLogFrameS x2) := ctLogFrameS_wt _
  go_wp2_with fail
  refine (markLogFrameS_calls _ _ _ _ (1 + x0.length) _ (Rep.sl_ext s_X2_1 (E_X2_13.out)) ND_X2.out (Unfr.ext U_X2.out (E_X2_13.out) (fun b hb => by have h1 := LT_X2.out b hb; have q7 := SZ_7.out; have q8 := SZ_8.out; have q9 := SZ_9.out; have q10 := SZ_10.out; have q11 := SZ_11.out; have q12 := SZ_12.out; have q13 := SZ_13.out; omega)) (by omega) (by omega)).mono ?_
  rintro e w14 ⟨rfl, hV, hO, hU⟩
  have SZ_14 : Hid (w13.heap.size + 0 ≤ w14.heap.size) := by have := Only.size hO; exact (by omega : w13.heap.size + 0 ≤ w14.heap.size)
  have E_B_14 := Lib.hid (Only.then_ E_B_13.out hO (fun g hg h => by have h1 := GE_X2.out g hg; have q1 := SZ_1.out; have q2 := SZ_2.out; have q3 := SZ_3.out; have q4 := SZ_4.out; have q5 := SZ_5.out; omega))
  have t_ := Rep.sl_only (Rep.sl_ext s_P0_1 E_P0_13.out) hO (fun b hb hb' => by have h1 := LT_P0.out b (hb); have h2 := GE_X2.out b hb'; have q1 := SZ_1.out; have q2 := SZ_2.out; have q3 := SZ_3.out; have q4 := SZ_4.out; have q5 := SZ_5.out; omega)
  clear s_P0_1
  have s_P0_1 := t_
  clear t_
  have E_P0_14 := Lib.hid (Only.refl [] w14)
  have t_ := Rep.sl_only (Rep.sl_ext s_P2_1 E_P2_13.out) hO (fun b hb hb' => by have h1 := LT_P2.out b (hb); have h2 := GE_X2.out b hb'; have q1 := SZ_1.out; have q2 := SZ_2.out; have q3 := SZ_3.out; have q4 := SZ_4.out; have q5 := SZ_5.out; omega)
  clear s_P2_1
  have s_P2_1 := t_
  clear t_
  have E_P2_14 := Lib.hid (Only.refl [] w14)
  have t_ := Rep.sl_only (Rep.sl_ext s_w0_1 E_w0_13.out) hO (fun b hb hb' => by have h1 := LT_w0.out b (hb); have h2 := GE_X2.out b hb'; have q5 := SZ_5.out; omega)
  clear s_w0_1
  have s_w0_1 := t_
  clear t_
  have t_ := Lib.hid (Only.heap hO (Only.heap E_w0_13.out HBX_w0.out (by simp)) (fun hb => by have h1 := GE_X2.out _ hb; have q5 := SZ_5.out; omega))
  clear HBX_w0
  have HBX_w0 := t_
  clear t_
  have E_w0_14 := Lib.hid (Only.refl [] w14)
  have t_ := Rep.sl_only (Rep.sl_ext s_g0_1 E_g0_13.out) hO (fun b hb hb' => by have h1 := GE_g0.out b (hb); have h2 := LT_X2.out b hb'; omega)
  clear s_g0_1
  have s_g0_1 := t_
  clear t_
  have t_ := Lib.hid (Unfr.only (Unfr.ext U_g0.out E_g0_13.out (fun b hb => by have h1 := LT_g0.out b hb; have q8 := SZ_8.out; have q9 := SZ_9.out; have q10 := SZ_10.out; have q11 := SZ_11.out; have q12 := SZ_12.out; have q13 := SZ_13.out; omega)) hO (fun b hb => by have h1 := LT_g0.out b hb; have q8 := SZ_8.out; have q9 := SZ_9.out; have q10 := SZ_10.out; have q11 := SZ_11.out; have q12 := SZ_12.out; have q13 := SZ_13.out; omega) (fun b hb hb' => by have h1 := GE_g0.out b hb; have h2 := LT_X2.out b hb'; omega))
  clear U_g0
  have U_g0 := t_
  clear t_
  have t_ := Lib.hid (Only.heap hO (Only.heap E_g0_13.out HBX_g0.out (by simp)) (fun hb => by have h1 := LT_X2.out _ hb; have q7 := SZ_7.out; omega))
  clear HBX_g0
  have HBX_g0 := t_
  clear t_
  have E_g0_14 := Lib.hid (Only.refl [] w14)
  clear E_B_13 E_P0_13 E_P2_13 E_w0_13 E_X2_13 E_g0_13
  clear hO hU hV
  have hkk : decide (1 + x0.length + ctLogFrameS x2 < (0 : Int)) = false := by rw [decide_eq_false_iff_not]; omega
  have hh_g0 := E_g0_14.out.heap HBX_g0.out (by simp)
  have z_g0 := (Array.getElem?_eq_some_iff.1 hh_g0).1
  have cl_g0 := fun o => cell_of_row _ _ o _ _ _ hh_g0
  clear hh_g0
  have hh_w0 := E_w0_14.out.heap HBX_w0.out (by simp)
  have z_w0 := (Array.getElem?_eq_some_iff.1 hh_w0).1
  have cl_w0 := fun o => cell_of_row _ _ o _ _ _ hh_w0
  clear hh_w0
  go_wp2_with fail
  refine (eqPageResult_calls _ R _ _ R _ _ ⟨_, ⟨A_g0_1, c_g0_1, _, rfl, rfl, wf_g0_, Rep.sl_ext s_g0_1 (E_g0_14.out)⟩, rfl⟩ ⟨_, ⟨A_w0_1, c_w0_1, _, rfl, rfl, wf_w0_, Rep.sl_ext s_w0_1 (E_w0_14.out)⟩, rfl⟩).mono ?_
  rintro e w15 ⟨rfl, hO⟩
  clear z_g0 cl_g0 z_w0 cl_w0
  rw [show decide (R = R) = true from decide_eq_true rfl]
  have SZ_15 : Hid (w14.heap.size + 0 ≤ w15.heap.size) := by have := Only.size hO; (try simp at this); exact (by omega : w14.heap.size + 0 ≤ w15.heap.size)
  have E_B_15 := Lib.hid (Only.ext (E_B_14.out) hO)
  have E_P0_15 := Lib.hid (Only.ext (E_P0_14.out) hO)
  have E_P2_15 := Lib.hid (Only.ext (E_P2_14.out) hO)
  have E_w0_15 := Lib.hid (Only.ext (E_w0_14.out) hO)
  have E_g0_15 := Lib.hid (Only.ext (E_g0_14.out) hO)
  clear E_B_14 E_P0_14 E_P2_14 E_w0_14 E_g0_14
  clear hO
  have hh_g0 := E_g0_15.out.heap HBX_g0.out (by simp)
  have z_g0 := (Array.getElem?_eq_some_iff.1 hh_g0).1
  have cl_g0 := fun o => cell_of_row _ _ o _ _ _ hh_g0
  clear hh_g0
  go_wp2_with fail
  refine (markPageResult_calls _ R (F_g0_1) (1) _ ⟨_, ⟨A_g0_1, c_g0_1, _, rfl, rfl, wf_g0_, Rep.sl_ext s_g0_1 (E_g0_15.out)⟩, rfl⟩ ND_g0.out (Unfr.ext U_g0.out (E_g0_15.out) (fun b hb => by have h1 := LT_g0.out b hb; have q8 := SZ_8.out; have q9 := SZ_9.out; have q10 := SZ_10.out; have q11 := SZ_11.out; have q12 := SZ_12.out; have q13 := SZ_13.out; have q14 := SZ_14.out; omega)) (by omega) (by omega)).mono ?_
  rintro e w16 ⟨rfl, hV, hO, hU⟩
  clear z_g0 cl_g0
  have SZ_16 : Hid (w15.heap.size + 0 ≤ w16.heap.size) := by have := Only.size hO; exact (by omega : w15.heap.size + 0 ≤ w16.heap.size)
  have E_B_16 := Lib.hid (Only.then_ E_B_15.out hO (fun g hg h => by have h1 := GE_g0.out g hg; have q1 := SZ_1.out; have q2 := SZ_2.out; have q3 := SZ_3.out; have q4 := SZ_4.out; have q5 := SZ_5.out; have q6 := SZ_6.out; omega))
  have t_ := Rep.sl_only (Rep.sl_ext s_P0_1 E_P0_15.out) hO (fun b hb hb' => by have h1 := LT_P0.out b (hb); have h2 := GE_g0.out b hb'; have q1 := SZ_1.out; have q2 := SZ_2.out; have q3 := SZ_3.out; have q4 := SZ_4.out; have q5 := SZ_5.out; have q6 := SZ_6.out; omega)
  clear s_P0_1
  have s_P0_1 := t_
  clear t_
  have E_P0_16 := Lib.hid (Only.refl [] w16)
  have t_ := Rep.sl_only (Rep.sl_ext s_P2_1 E_P2_15.out) hO (fun b hb hb' => by have h1 := LT_P2.out b (hb); have h2 := GE_g0.out b hb'; have q1 := SZ_1.out; have q2 := SZ_2.out; have q3 := SZ_3.out; have q4 := SZ_4.out; have q5 := SZ_5.out; have q6 := SZ_6.out; omega)
  clear s_P2_1
  have s_P2_1 := t_
  clear t_
  have E_P2_16 := Lib.hid (Only.refl [] w16)
  have t_ := Rep.sl_only (Rep.sl_ext s_w0_1 E_w0_15.out) hO (fun b hb hb' => by have h1 := LT_w0.out b (hb); have h2 := GE_g0.out b hb'; have q5 := SZ_5.out; have q6 := SZ_6.out; omega)
  clear s_w0_1
  have s_w0_1 := t_
  clear t_
  have t_ := Lib.hid (Only.heap hO (Only.heap E_w0_15.out HBX_w0.out (by simp)) (fun hb => by have h1 := GE_g0.out _ hb; have q5 := SZ_5.out; have q6 := SZ_6.out; omega))
  clear HBX_w0
  have HBX_w0 := t_
  clear t_
  have E_w0_16 := Lib.hid (Only.refl [] w16)
  have t_ := Lib.hid (Only.heap hO (Only.heap E_g0_15.out HBX_g0.out (by simp)) (fun hb => by have h1 := LT_g0.out _ hb; omega))
  clear HBX_g0
  have HBX_g0 := t_
  clear t_
  clear s_g0_1
  have VM := hV
  have E_g0_16 := Lib.hid (Only.refl [] w16)
  clear E_B_15 E_P0_15 E_P2_15 E_w0_15 E_g0_15
  clear hO hU
  have hh_g0 := E_g0_16.out.heap HBX_g0.out (by simp)
  have z_g0 := (Array.getElem?_eq_some_iff.1 hh_g0).1
  have cl_g0 := fun o => cell_of_row _ _ o _ _ _ hh_g0
  clear hh_g0
  go_wp2_with fail
  refine (heldPageResult_calls _ R _ 1 _ (V_ext VM (E_g0_16.out)) (by omega) (by omega)).mono ?_
  rintro e w17 ⟨rfl, hO⟩
  clear z_g0 cl_g0
  have SZ_17 : Hid (w16.heap.size + 0 ≤ w17.heap.size) := by have := Only.size hO; (try simp at this); exact (by omega : w16.heap.size + 0 ≤ w17.heap.size)
  have E_B_17 := Lib.hid (Only.ext (E_B_16.out) hO)
  have E_P0_17 := Lib.hid (Only.ext (E_P0_16.out) hO)
  have E_P2_17 := Lib.hid (Only.ext (E_P2_16.out) hO)
  have E_w0_17 := Lib.hid (Only.ext (E_w0_16.out) hO)
  have E_g0_17 := Lib.hid (Only.ext (E_g0_16.out) hO)
  clear E_B_16 E_P0_16 E_P2_16 E_w0_16 E_g0_16
  clear hO
  go_wp2_with fail
  refine (toByteS_calls _ _ _ _ _ (Rep.sl_ext s_P0_1 (E_P0_17.out)) (by omega)).mono ?_
  rintro e w18 ⟨v_T0h0, F_T0h0_1, rfl, hV, hN⟩
  obtain ⟨A_T0h0_1, c_T0h0_1, rfl, s_T0h0_1⟩ := Rep.slice_V hV
  have LT_T0h0 : Hid (∀ b ∈ F_T0h0_1, b < w18.heap.size) := (fun b hb => Rep.sl_lt s_T0h0_1 b hb)
  have GE_T0h0 : Hid (∀ b ∈ F_T0h0_1, w17.heap.size + 0 ≤ b) := by
    have h : ∀ b ∈ F_T0h0_1, _ := hN.new
    try simp only [World.alloc, Array.size_push] at h
    exact h
  have U_T0h0 := Lib.hid hN.unfr
  have ND_T0h0 := Lib.hid hN.nodup
  have SZ_18 : Hid (w17.heap.size + 0 ≤ w18.heap.size) := by have := Only.size hN.ext; (try simp at this); exact (by omega : w17.heap.size + 0 ≤ w18.heap.size)
  have E_B_18 := Lib.hid (Only.ext (E_B_17.out) hN.ext)
  have E_P0_18 := Lib.hid (Only.ext (E_P0_17.out) hN.ext)
  have E_P2_18 := Lib.hid (Only.ext (E_P2_17.out) hN.ext)
  have E_w0_18 := Lib.hid (Only.ext (E_w0_17.out) hN.ext)
  have E_g0_18 := Lib.hid (Only.ext (E_g0_17.out) hN.ext)
  clear E_B_17 E_P0_17 E_P2_17 E_w0_17 E_g0_17
  clear hN
  have E_T0h0_18 := Lib.hid (Only.refl [] w18)
  go_wp2_with fail
  refine (toLogFrameS_calls _ _ _ _ _ (Rep.sl_ext s_P2_1 (E_P2_18.out)) h_aFrames).mono ?_
  rintro e w19 ⟨v_T1h0, F_T1h0_1, rfl, hV, hN⟩
  obtain ⟨A_T1h0_1, c_T1h0_1, rfl, s_T1h0_1⟩ := Rep.slice_V hV
  have LT_T1h0 : Hid (∀ b ∈ F_T1h0_1, b < w19.heap.size) := (fun b hb => Rep.sl_lt s_T1h0_1 b hb)
  have GE_T1h0 : Hid (∀ b ∈ F_T1h0_1, w18.heap.size + 0 ≤ b) := by
    have h : ∀ b ∈ F_T1h0_1, _ := hN.new
    try simp only [World.alloc, Array.size_push] at h
    exact h
  have U_T1h0 := Lib.hid hN.unfr
  have ND_T1h0 := Lib.hid hN.nodup
  have SZ_19 : Hid (w18.heap.size + 0 ≤ w19.heap.size) := by have := Only.size hN.ext; (try simp at this); exact (by omega : w18.heap.size + 0 ≤ w19.heap.size)
  have E_B_19 := Lib.hid (Only.ext (E_B_18.out) hN.ext)
  have E_P0_19 := Lib.hid (Only.ext (E_P0_18.out) hN.ext)
  have E_P2_19 := Lib.hid (Only.ext (E_P2_18.out) hN.ext)
  have E_w0_19 := Lib.hid (Only.ext (E_w0_18.out) hN.ext)
  have E_g0_19 := Lib.hid (Only.ext (E_g0_18.out) hN.ext)
  have E_T0h0_19 := Lib.hid (Only.ext (E_T0h0_18.out) hN.ext)
  clear E_B_18 E_P0_18 E_P2_18 E_w0_18 E_g0_18 E_T0h0_18
  clear hN
  have E_T1h0_19 := Lib.hid (Only.refl [] w19)
  go_wp2_with fail
  refine (implRedo_new _ _ _ x0 _ (Rep.sl_ext s_T0h0_1 (E_T0h0_19.out)) x1 e1 _ _ x2 _ (Rep.sl_ext s_T1h0_1 (E_T1h0_19.out)) x3 e3 h_aPage h_aFrames).mono ?_
  rintro e w20 ⟨v_h0, F_h0_1, rfl, hV, hN⟩
  rw [HR.out] at hV
  obtain ⟨_, ⟨A_h0_1, c_h0_1, Fd1, rfl, rfl, wf_h0_, s_h0_1⟩, hv⟩ := hV
  replace hv : v_h0 = .agg #[_, _] := hv
  subst hv
  have LT_h0 : Hid (∀ b ∈ F_h0_1, b < w20.heap.size) := (fun b hb => Rep.sl_lt s_h0_1 b hb)
  have GE_h0 : Hid (∀ b ∈ F_h0_1, w19.heap.size + 0 ≤ b) := by
    have h : ∀ b ∈ F_h0_1, _ := hN.new
    try simp only [World.alloc, Array.size_push] at h
    exact h
  have U_h0 := Lib.hid hN.unfr
  have ND_h0 := Lib.hid hN.nodup
  have SZ_20 : Hid (w19.heap.size + 0 ≤ w20.heap.size) := by have := Only.size hN.ext; (try simp at this); exact (by omega : w19.heap.size + 0 ≤ w20.heap.size)
  have E_B_20 := Lib.hid (Only.ext (E_B_19.out) hN.ext)
  have E_P0_20 := Lib.hid (Only.ext (E_P0_19.out) hN.ext)
  have E_P2_20 := Lib.hid (Only.ext (E_P2_19.out) hN.ext)
  have E_w0_20 := Lib.hid (Only.ext (E_w0_19.out) hN.ext)
  have E_g0_20 := Lib.hid (Only.ext (E_g0_19.out) hN.ext)
  have E_T0h0_20 := Lib.hid (Only.ext (E_T0h0_19.out) hN.ext)
  have E_T1h0_20 := Lib.hid (Only.ext (E_T1h0_19.out) hN.ext)
  clear E_B_19 E_P0_19 E_P2_19 E_w0_19 E_g0_19 E_T0h0_19 E_T1h0_19
  clear hN
  clear E_T0h0_20
  clear E_T1h0_20
  have E_h0_20 := Lib.hid (Only.refl [] w20)
  have hh_w0 := E_w0_20.out.heap HBX_w0.out (by simp)
  have z_w0 := (Array.getElem?_eq_some_iff.1 hh_w0).1
  have cl_w0 := fun o => cell_of_row _ _ o _ _ _ hh_w0
  clear hh_w0
  go_wp2_with fail
  refine (eqPageResult_calls _ R _ _ R _ _ ⟨_, ⟨A_h0_1, c_h0_1, _, rfl, rfl, wf_h0_, Rep.sl_ext s_h0_1 ((E_h0_20.out.alloc _))⟩, rfl⟩ ⟨_, ⟨A_w0_1, c_w0_1, _, rfl, rfl, wf_w0_, Rep.sl_ext s_w0_1 ((E_w0_20.out.alloc _))⟩, rfl⟩).mono ?_
  rintro e w21 ⟨rfl, hO⟩
  clear z_w0 cl_w0
  rw [show decide (R = R) = true from decide_eq_true rfl]
  have SZ_21 : Hid (w20.heap.size + 1 ≤ w21.heap.size) := by have := Only.size hO; (try simp at this); exact (by omega : w20.heap.size + 1 ≤ w21.heap.size)
  have E_B_21 := Lib.hid (Only.ext ((E_B_20.out.alloc _)) hO)
  have E_P0_21 := Lib.hid (Only.ext ((E_P0_20.out.alloc _)) hO)
  have E_P2_21 := Lib.hid (Only.ext ((E_P2_20.out.alloc _)) hO)
  have E_w0_21 := Lib.hid (Only.ext ((E_w0_20.out.alloc _)) hO)
  have E_g0_21 := Lib.hid (Only.ext ((E_g0_20.out.alloc _)) hO)
  have HBX_h0 := Lib.hid (Only.heap hO (heap_alloc_new _ _) (by simp))
  have t_ := Rep.sl_ext s_h0_1 (Only.ext ((E_h0_20.out.alloc _)) hO)
  clear s_h0_1
  have s_h0_1 := t_
  clear t_
  have t_ := Lib.hid (Unfr.ext U_h0.out (Only.ext ((E_h0_20.out.alloc _)) hO) (fun b hb => by have h1 := LT_h0.out b hb; have h2 := E_h0_20.out.size; omega))
  clear U_h0
  have U_h0 := t_
  clear t_
  clear E_h0_20
  have E_h0_21 := Lib.hid (Only.refl [] w21)
  clear E_B_20 E_P0_20 E_P2_20 E_w0_20 E_g0_20
  clear hO
  have hh_g0 := E_g0_21.out.heap HBX_g0.out (by simp)
  have z_g0 := (Array.getElem?_eq_some_iff.1 hh_g0).1
  have cl_g0 := fun o => cell_of_row _ _ o _ _ _ hh_g0
  clear hh_g0
  go_wp2_with fail
  refine (heldPageResult_calls _ R _ 1 _ (V_ext VM (E_g0_21.out)) (by omega) (by omega)).mono ?_
  rintro e w22 ⟨rfl, hO⟩
  clear z_g0 cl_g0
  have SZ_22 : Hid (w21.heap.size + 0 ≤ w22.heap.size) := by have := Only.size hO; (try simp at this); exact (by omega : w21.heap.size + 0 ≤ w22.heap.size)
  have E_B_22 := Lib.hid (Only.ext (E_B_21.out) hO)
  have E_P0_22 := Lib.hid (Only.ext (E_P0_21.out) hO)
  have E_P2_22 := Lib.hid (Only.ext (E_P2_21.out) hO)
  have E_w0_22 := Lib.hid (Only.ext (E_w0_21.out) hO)
  have E_g0_22 := Lib.hid (Only.ext (E_g0_21.out) hO)
  have E_h0_22 := Lib.hid (Only.ext (E_h0_21.out) hO)
  clear E_B_21 E_P0_21 E_P2_21 E_w0_21 E_g0_21 E_h0_21
  clear hO
  go_wp2_with fail
  go_ret
  exact ⟨rfl, (E_B_22.out)⟩
end Go.Proofs.YtghgjddiheebeaaDoor
