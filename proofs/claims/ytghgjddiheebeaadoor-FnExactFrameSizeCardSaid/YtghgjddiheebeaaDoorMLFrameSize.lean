/- FnExactFrameSize: the walk of the law's own text over the contracts of what it calls. Printed by gen_law.py, a program of this session. -/
import Derived.Test.YtghgjddiheebeaaDoorMG5
import Derived.Deep.RegionHeld3
namespace Go.Proofs.YtghgjddiheebeaaDoor
open Go.RowKit
set_option linter.unusedSimpArgs false
set_option linter.unusedVariables false

set_option maxRecDepth 100000 in
set_option maxHeartbeats 8000000 in
theorem FrameSize_walk (w : World) (v0 : Value) (x0 : DLogRecord) (F0 : List Nat) (h0 : Rep.LogRecord.V w v0 x0 F0) :
    Calls Tryd.prog 7 #[v0] w fun e w' => e = .returned (.bool true) ∧ Ext w w' := by
  obtain ⟨_, ⟨A_P0_1, c_P0_1, F_P0_1, A_P0_2, c_P0_2, F_P0_2, A_P0_3, c_P0_3, F_P0_3, A_P0_4, c_P0_4, F_P0_4, A_P0_5, c_P0_5, F_P0_5, rfl, rfl, wf_P0_, s_P0_1, s_P0_2, s_P0_3, s_P0_4, s_P0_5⟩, rfl⟩ := h0
  have LT_P0 : Hid (∀ b ∈ F_P0_1 ++ F_P0_2 ++ F_P0_3 ++ F_P0_4 ++ F_P0_5, b < w.heap.size) := by
    intro b hb
    simp only [List.mem_append] at hb
    rcases hb with ((((hb | hb) | hb) | hb) | hb)
    · exact Rep.sl_lt s_P0_1 b hb
    · exact Rep.sl_lt s_P0_2 b hb
    · exact Rep.sl_lt s_P0_3 b hb
    · exact Rep.sl_lt s_P0_4 b hb
    · exact Rep.sl_lt s_P0_5 b hb
  have hu_laws_LogRecord := Tryd.underlying43
  have hu_laws_PageRecord := Tryd.underlying28
  have hu_impl_LogRecord := Tryd.underlying49
  have hu_impl_PageRecord := Tryd.underlying33
  show Calls _ _ #[.agg #[_, _, _, _, _, _, _, _, _, _, _, _, _, _]] _ _
  go_enter Tryd.func7, Tryd.ntmps7
  have E_B_0 := Lib.hid (Only.refl [] w)
  have E_P0_0 := Lib.hid (Only.refl [] w)
  go_wp2_with fail
  refine (szLogRecord_calls _ x0 _ _ _ ⟨_, ⟨A_P0_1, c_P0_1, _, A_P0_2, c_P0_2, _, A_P0_3, c_P0_3, _, A_P0_4, c_P0_4, _, A_P0_5, c_P0_5, _, rfl, rfl, wf_P0_, Rep.sl_ext s_P0_1 ((E_P0_0.out.alloc _)), Rep.sl_ext s_P0_2 ((E_P0_0.out.alloc _)), Rep.sl_ext s_P0_3 ((E_P0_0.out.alloc _)), Rep.sl_ext s_P0_4 ((E_P0_0.out.alloc _)), Rep.sl_ext s_P0_5 ((E_P0_0.out.alloc _))⟩, rfl⟩ (by omega) (by omega)).mono ?_
  rintro e w1 ⟨⟨l0, rfl, hr⟩, hO⟩
  have SZ_1 : Hid (w.heap.size + 1 ≤ w1.heap.size) := by have := Only.size hO; (try simp at this); exact (by omega : w.heap.size + 1 ≤ w1.heap.size)
  have E_B_1 := Lib.hid (Only.ext ((E_B_0.out.alloc _)) hO)
  have HBX_P0 := Lib.hid (Only.heap hO (heap_alloc_new _ _) (by simp))
  have t_ := Rep.sl_ext s_P0_1 (Only.ext ((E_P0_0.out.alloc _)) hO)
  clear s_P0_1
  have s_P0_1 := t_
  clear t_
  have t_ := Rep.sl_ext s_P0_2 (Only.ext ((E_P0_0.out.alloc _)) hO)
  clear s_P0_2
  have s_P0_2 := t_
  clear t_
  have t_ := Rep.sl_ext s_P0_3 (Only.ext ((E_P0_0.out.alloc _)) hO)
  clear s_P0_3
  have s_P0_3 := t_
  clear t_
  have t_ := Rep.sl_ext s_P0_4 (Only.ext ((E_P0_0.out.alloc _)) hO)
  clear s_P0_4
  have s_P0_4 := t_
  clear t_
  have t_ := Rep.sl_ext s_P0_5 (Only.ext ((E_P0_0.out.alloc _)) hO)
  clear s_P0_5
  have s_P0_5 := t_
  clear t_
  clear E_P0_0
  have E_P0_1 := Lib.hid (Only.refl [] w1)
  clear E_B_0
  clear hO
  rcases hr with rfl | ⟨hr0, hr1⟩
  · go_wp2_with fail
    go_ret
    exact ⟨rfl, (E_B_1.out)⟩
  have h_aR : wtLogRecord x0 ≤ 1048576 := by omega
  have hq0_l0 : 0 ≤ l0 := hr0
  have hq1_l0 : l0 ≤ 1048576 := by omega
  clear hr0 hr1
  have hh_P0 := E_P0_1.out.heap HBX_P0.out (by simp)
  have z_P0 := (Array.getElem?_eq_some_iff.1 hh_P0).1
  have cl_P0 := fun o => cell_of_row _ _ o _ _ _ hh_P0
  clear hh_P0
  go_wp2_with fail
  refine (toLogRecord_calls _ x0 _ _ ⟨_, ⟨A_P0_1, c_P0_1, _, A_P0_2, c_P0_2, _, A_P0_3, c_P0_3, _, A_P0_4, c_P0_4, _, A_P0_5, c_P0_5, _, rfl, rfl, wf_P0_, Rep.sl_ext s_P0_1 (E_P0_1.out), Rep.sl_ext s_P0_2 (E_P0_1.out), Rep.sl_ext s_P0_3 (E_P0_1.out), Rep.sl_ext s_P0_4 (E_P0_1.out), Rep.sl_ext s_P0_5 (E_P0_1.out)⟩, rfl⟩ h_aR).mono ?_
  rintro e w2 ⟨v_T0w0, F_T0w0_, rfl, hV, hN⟩
  clear z_P0 cl_P0
  obtain ⟨_, ⟨A_T0w0_1, c_T0w0_1, F_T0w0_1, A_T0w0_2, c_T0w0_2, F_T0w0_2, A_T0w0_3, c_T0w0_3, F_T0w0_3, A_T0w0_4, c_T0w0_4, F_T0w0_4, A_T0w0_5, c_T0w0_5, F_T0w0_5, rfl, rfl, wf_T0w0_, s_T0w0_1, s_T0w0_2, s_T0w0_3, s_T0w0_4, s_T0w0_5⟩, hv⟩ := hV
  replace hv : v_T0w0 = .agg #[_, _, _, _, _, _, _, _, _, _, _, _, _, _] := hv
  subst hv
  have LT_T0w0 : Hid (∀ b ∈ F_T0w0_1 ++ F_T0w0_2 ++ F_T0w0_3 ++ F_T0w0_4 ++ F_T0w0_5, b < w2.heap.size) := (by
    intro b hb
    simp only [List.mem_append] at hb
    rcases hb with ((((hb | hb) | hb) | hb) | hb)
    · exact Rep.sl_lt s_T0w0_1 b hb
    · exact Rep.sl_lt s_T0w0_2 b hb
    · exact Rep.sl_lt s_T0w0_3 b hb
    · exact Rep.sl_lt s_T0w0_4 b hb
    · exact Rep.sl_lt s_T0w0_5 b hb)
  have GE_T0w0 : Hid (∀ b ∈ F_T0w0_1 ++ F_T0w0_2 ++ F_T0w0_3 ++ F_T0w0_4 ++ F_T0w0_5, w1.heap.size + 0 ≤ b) := by
    have h : ∀ b ∈ F_T0w0_1 ++ F_T0w0_2 ++ F_T0w0_3 ++ F_T0w0_4 ++ F_T0w0_5, _ := hN.new
    try simp only [World.alloc, Array.size_push] at h
    exact h
  have U_T0w0 := Lib.hid hN.unfr
  have ND_T0w0 := Lib.hid hN.nodup
  have SZ_2 : Hid (w1.heap.size + 0 ≤ w2.heap.size) := by have := Only.size hN.ext; (try simp at this); exact (by omega : w1.heap.size + 0 ≤ w2.heap.size)
  have E_B_2 := Lib.hid (Only.ext (E_B_1.out) hN.ext)
  have E_P0_2 := Lib.hid (Only.ext (E_P0_1.out) hN.ext)
  clear E_B_1 E_P0_1
  clear hN
  have E_T0w0_2 := Lib.hid (Only.refl [] w2)
  go_wp2_with fail
  refine (specFrameSize_calls _ _ x0 _ ⟨_, ⟨A_T0w0_1, c_T0w0_1, _, A_T0w0_2, c_T0w0_2, _, A_T0w0_3, c_T0w0_3, _, A_T0w0_4, c_T0w0_4, _, A_T0w0_5, c_T0w0_5, _, rfl, rfl, wf_T0w0_, Rep.sl_ext s_T0w0_1 (E_T0w0_2.out), Rep.sl_ext s_T0w0_2 (E_T0w0_2.out), Rep.sl_ext s_T0w0_3 (E_T0w0_2.out), Rep.sl_ext s_T0w0_4 (E_T0w0_2.out), Rep.sl_ext s_T0w0_5 (E_T0w0_2.out)⟩, rfl⟩ h_aR).mono ?_
  rintro e w3 ⟨rfl, hO⟩
  generalize hR : frameSize x0 = R
  have HR := Lib.hid hR
  clear hR
  have SZ_3 : Hid (w2.heap.size + 0 ≤ w3.heap.size) := by have := Only.size hO; (try simp at this); exact (by omega : w2.heap.size + 0 ≤ w3.heap.size)
  have E_B_3 := Lib.hid (Only.ext (E_B_2.out) hO)
  have E_P0_3 := Lib.hid (Only.ext (E_P0_2.out) hO)
  have E_T0w0_3 := Lib.hid (Only.ext (E_T0w0_2.out) hO)
  clear E_B_2 E_P0_2 E_T0w0_2
  clear hO
  clear E_T0w0_3
  have hh_P0 := E_P0_3.out.heap HBX_P0.out (by simp)
  have z_P0 := (Array.getElem?_eq_some_iff.1 hh_P0).1
  have cl_P0 := fun o => cell_of_row _ _ o _ _ _ hh_P0
  clear hh_P0
  go_wp2_with fail
  refine (toLogRecord_calls _ x0 _ _ ⟨_, ⟨A_P0_1, c_P0_1, _, A_P0_2, c_P0_2, _, A_P0_3, c_P0_3, _, A_P0_4, c_P0_4, _, A_P0_5, c_P0_5, _, rfl, rfl, wf_P0_, Rep.sl_ext s_P0_1 (E_P0_3.out), Rep.sl_ext s_P0_2 (E_P0_3.out), Rep.sl_ext s_P0_3 (E_P0_3.out), Rep.sl_ext s_P0_4 (E_P0_3.out), Rep.sl_ext s_P0_5 (E_P0_3.out)⟩, rfl⟩ h_aR).mono ?_
  rintro e w4 ⟨v_X0, F_X0_, rfl, hV, hN⟩
  clear z_P0 cl_P0
  obtain ⟨_, ⟨A_X0_1, c_X0_1, F_X0_1, A_X0_2, c_X0_2, F_X0_2, A_X0_3, c_X0_3, F_X0_3, A_X0_4, c_X0_4, F_X0_4, A_X0_5, c_X0_5, F_X0_5, rfl, rfl, wf_X0_, s_X0_1, s_X0_2, s_X0_3, s_X0_4, s_X0_5⟩, hv⟩ := hV
  replace hv : v_X0 = .agg #[_, _, _, _, _, _, _, _, _, _, _, _, _, _] := hv
  subst hv
  have LT_X0 : Hid (∀ b ∈ F_X0_1 ++ F_X0_2 ++ F_X0_3 ++ F_X0_4 ++ F_X0_5, b < w4.heap.size) := (by
    intro b hb
    simp only [List.mem_append] at hb
    rcases hb with ((((hb | hb) | hb) | hb) | hb)
    · exact Rep.sl_lt s_X0_1 b hb
    · exact Rep.sl_lt s_X0_2 b hb
    · exact Rep.sl_lt s_X0_3 b hb
    · exact Rep.sl_lt s_X0_4 b hb
    · exact Rep.sl_lt s_X0_5 b hb)
  have GE_X0 : Hid (∀ b ∈ F_X0_1 ++ F_X0_2 ++ F_X0_3 ++ F_X0_4 ++ F_X0_5, w3.heap.size + 0 ≤ b) := by
    have h : ∀ b ∈ F_X0_1 ++ F_X0_2 ++ F_X0_3 ++ F_X0_4 ++ F_X0_5, _ := hN.new
    try simp only [World.alloc, Array.size_push] at h
    exact h
  have U_X0 := Lib.hid hN.unfr
  have ND_X0 := Lib.hid hN.nodup
  have SZ_4 : Hid (w3.heap.size + 0 ≤ w4.heap.size) := by have := Only.size hN.ext; (try simp at this); exact (by omega : w3.heap.size + 0 ≤ w4.heap.size)
  have E_B_4 := Lib.hid (Only.ext (E_B_3.out) hN.ext)
  have E_P0_4 := Lib.hid (Only.ext (E_P0_3.out) hN.ext)
  clear E_B_3 E_P0_3
  clear hN
  have E_X0_4 := Lib.hid (Only.refl [] w4)
  go_wp2_with fail
  refine (implFrameSize_calls _ _ x0 _ ⟨_, ⟨A_X0_1, c_X0_1, _, A_X0_2, c_X0_2, _, A_X0_3, c_X0_3, _, A_X0_4, c_X0_4, _, A_X0_5, c_X0_5, _, rfl, rfl, wf_X0_, Rep.sl_ext s_X0_1 ((E_X0_4.out.alloc _)), Rep.sl_ext s_X0_2 ((E_X0_4.out.alloc _)), Rep.sl_ext s_X0_3 ((E_X0_4.out.alloc _)), Rep.sl_ext s_X0_4 ((E_X0_4.out.alloc _)), Rep.sl_ext s_X0_5 ((E_X0_4.out.alloc _))⟩, rfl⟩ h_aR).mono ?_
  rintro e w5 ⟨rfl, hO⟩
  rw [HR.out]
  have SZ_5 : Hid (w4.heap.size + 1 ≤ w5.heap.size) := by have := Only.size hO; (try simp at this); exact (by omega : w4.heap.size + 1 ≤ w5.heap.size)
  have E_B_5 := Lib.hid (Only.ext ((E_B_4.out.alloc _)) hO)
  have E_P0_5 := Lib.hid (Only.ext ((E_P0_4.out.alloc _)) hO)
  have HBX_X0 := Lib.hid (Only.heap hO (heap_alloc_new _ _) (by simp))
  have t_ := Rep.sl_ext s_X0_1 (Only.ext ((E_X0_4.out.alloc _)) hO)
  clear s_X0_1
  have s_X0_1 := t_
  clear t_
  have t_ := Rep.sl_ext s_X0_2 (Only.ext ((E_X0_4.out.alloc _)) hO)
  clear s_X0_2
  have s_X0_2 := t_
  clear t_
  have t_ := Rep.sl_ext s_X0_3 (Only.ext ((E_X0_4.out.alloc _)) hO)
  clear s_X0_3
  have s_X0_3 := t_
  clear t_
  have t_ := Rep.sl_ext s_X0_4 (Only.ext ((E_X0_4.out.alloc _)) hO)
  clear s_X0_4
  have s_X0_4 := t_
  clear t_
  have t_ := Rep.sl_ext s_X0_5 (Only.ext ((E_X0_4.out.alloc _)) hO)
  clear s_X0_5
  have s_X0_5 := t_
  clear t_
  have t_ := Lib.hid (Unfr.ext U_X0.out (Only.ext ((E_X0_4.out.alloc _)) hO) (fun b hb => by have h1 := LT_X0.out b hb; have h2 := E_X0_4.out.size; omega))
  clear U_X0
  have U_X0 := t_
  clear t_
  clear E_X0_4
  have E_X0_5 := Lib.hid (Only.refl [] w5)
  clear E_B_4 E_P0_4
  clear hO
  have hh_P0 := E_P0_5.out.heap HBX_P0.out (by simp)
  have z_P0 := (Array.getElem?_eq_some_iff.1 hh_P0).1
  have cl_P0 := fun o => cell_of_row _ _ o _ _ _ hh_P0
  clear hh_P0
  have hh_X0 := E_X0_5.out.heap HBX_X0.out (by simp)
  have z_X0 := (Array.getElem?_eq_some_iff.1 hh_X0).1
  have cl_X0 := fun o => cell_of_row _ _ o _ _ _ hh_X0
  clear hh_X0
  go_wp2_with fail
  have k0 : w5.cell? ⟨w.heap.size, 0, none⟩ = some (.int .i64 x0.Kind) := cl_P0 0
  have k1 : w5.cell? ⟨w.heap.size, 1, none⟩ = some (.int .i64 x0.Txn) := cl_P0 1
  have k2 : w5.cell? ⟨w.heap.size, 2, none⟩ = some (.int .i64 x0.Prev) := cl_P0 2
  have k3 : w5.cell? ⟨w.heap.size, 3, none⟩ = some (.int .i64 x0.Page) := cl_P0 3
  have k4 : w5.cell? ⟨w.heap.size, 4, none⟩ = some (.int .i64 x0.Slot) := cl_P0 4
  have k5 : w5.cell? ⟨w.heap.size, 5, none⟩ = some (.bool x0.Before.Used) := cl_P0 5
  have k6 : w5.cell? ⟨w.heap.size, 6, none⟩ = some (.slice A_P0_1 x0.Before.Data.length c_P0_1) := cl_P0 6
  have k7 : w5.cell? ⟨w.heap.size, 7, none⟩ = some (.bool x0.After.Used) := cl_P0 7
  have k8 : w5.cell? ⟨w.heap.size, 8, none⟩ = some (.slice A_P0_2 x0.After.Data.length c_P0_2) := cl_P0 8
  have k9 : w5.cell? ⟨w.heap.size, 9, none⟩ = some (.int .i64 x0.UndoNext) := cl_P0 9
  have k10 : w5.cell? ⟨w.heap.size, 10, none⟩ = some (.int .i64 x0.NextTxn) := cl_P0 10
  have k11 : w5.cell? ⟨w.heap.size, 11, none⟩ = some (.slice A_P0_3 x0.Txns.length c_P0_3) := cl_P0 11
  have k12 : w5.cell? ⟨w.heap.size, 12, none⟩ = some (.slice A_P0_4 x0.Dirty.length c_P0_4) := cl_P0 12
  have k13 : w5.cell? ⟨w.heap.size, 13, none⟩ = some (.slice A_P0_5 x0.Image.length c_P0_5) := cl_P0 13
  have m0 : w5.cell? ⟨w4.heap.size, 0, none⟩ = some (.int .i64 x0.Kind) := cl_X0 0
  have m1 : w5.cell? ⟨w4.heap.size, 1, none⟩ = some (.int .i64 x0.Txn) := cl_X0 1
  have m2 : w5.cell? ⟨w4.heap.size, 2, none⟩ = some (.int .i64 x0.Prev) := cl_X0 2
  have m3 : w5.cell? ⟨w4.heap.size, 3, none⟩ = some (.int .i64 x0.Page) := cl_X0 3
  have m4 : w5.cell? ⟨w4.heap.size, 4, none⟩ = some (.int .i64 x0.Slot) := cl_X0 4
  have m5 : w5.cell? ⟨w4.heap.size, 5, none⟩ = some (.bool x0.Before.Used) := cl_X0 5
  have m6 : w5.cell? ⟨w4.heap.size, 6, none⟩ = some (.slice A_X0_1 x0.Before.Data.length c_X0_1) := cl_X0 6
  have m7 : w5.cell? ⟨w4.heap.size, 7, none⟩ = some (.bool x0.After.Used) := cl_X0 7
  have m8 : w5.cell? ⟨w4.heap.size, 8, none⟩ = some (.slice A_X0_2 x0.After.Data.length c_X0_2) := cl_X0 8
  have m9 : w5.cell? ⟨w4.heap.size, 9, none⟩ = some (.int .i64 x0.UndoNext) := cl_X0 9
  have m10 : w5.cell? ⟨w4.heap.size, 10, none⟩ = some (.int .i64 x0.NextTxn) := cl_X0 10
  have m11 : w5.cell? ⟨w4.heap.size, 11, none⟩ = some (.slice A_X0_3 x0.Txns.length c_X0_3) := cl_X0 11
  have m12 : w5.cell? ⟨w4.heap.size, 12, none⟩ = some (.slice A_X0_4 x0.Dirty.length c_X0_4) := cl_X0 12
  have m13 : w5.cell? ⟨w4.heap.size, 13, none⟩ = some (.slice A_X0_5 x0.Image.length c_X0_5) := cl_X0 13
  clear cl_P0 cl_X0
  go_region_held3 (fun w' => w'.cell? ⟨w.heap.size, 0, none⟩ = some (.int .i64 x0.Kind) ∧ w'.cell? ⟨w.heap.size, 1, none⟩ = some (.int .i64 x0.Txn) ∧ w'.cell? ⟨w.heap.size, 2, none⟩ = some (.int .i64 x0.Prev) ∧ w'.cell? ⟨w.heap.size, 3, none⟩ = some (.int .i64 x0.Page) ∧ w'.cell? ⟨w.heap.size, 4, none⟩ = some (.int .i64 x0.Slot) ∧ w'.cell? ⟨w.heap.size, 5, none⟩ = some (.bool x0.Before.Used) ∧ w'.cell? ⟨w.heap.size, 6, none⟩ = some (.slice A_P0_1 x0.Before.Data.length c_P0_1) ∧ w'.cell? ⟨w.heap.size, 7, none⟩ = some (.bool x0.After.Used) ∧ w'.cell? ⟨w.heap.size, 8, none⟩ = some (.slice A_P0_2 x0.After.Data.length c_P0_2) ∧ w'.cell? ⟨w.heap.size, 9, none⟩ = some (.int .i64 x0.UndoNext) ∧ w'.cell? ⟨w.heap.size, 10, none⟩ = some (.int .i64 x0.NextTxn) ∧ w'.cell? ⟨w.heap.size, 11, none⟩ = some (.slice A_P0_3 x0.Txns.length c_P0_3) ∧ w'.cell? ⟨w.heap.size, 12, none⟩ = some (.slice A_P0_4 x0.Dirty.length c_P0_4) ∧ w'.cell? ⟨w.heap.size, 13, none⟩ = some (.slice A_P0_5 x0.Image.length c_P0_5) ∧ w'.cell? ⟨w4.heap.size, 0, none⟩ = some (.int .i64 x0.Kind) ∧ w'.cell? ⟨w4.heap.size, 1, none⟩ = some (.int .i64 x0.Txn) ∧ w'.cell? ⟨w4.heap.size, 2, none⟩ = some (.int .i64 x0.Prev) ∧ w'.cell? ⟨w4.heap.size, 3, none⟩ = some (.int .i64 x0.Page) ∧ w'.cell? ⟨w4.heap.size, 4, none⟩ = some (.int .i64 x0.Slot) ∧ w'.cell? ⟨w4.heap.size, 5, none⟩ = some (.bool x0.Before.Used) ∧ w'.cell? ⟨w4.heap.size, 6, none⟩ = some (.slice A_X0_1 x0.Before.Data.length c_X0_1) ∧ w'.cell? ⟨w4.heap.size, 7, none⟩ = some (.bool x0.After.Used) ∧ w'.cell? ⟨w4.heap.size, 8, none⟩ = some (.slice A_X0_2 x0.After.Data.length c_X0_2) ∧ w'.cell? ⟨w4.heap.size, 9, none⟩ = some (.int .i64 x0.UndoNext) ∧ w'.cell? ⟨w4.heap.size, 10, none⟩ = some (.int .i64 x0.NextTxn) ∧ w'.cell? ⟨w4.heap.size, 11, none⟩ = some (.slice A_X0_3 x0.Txns.length c_X0_3) ∧ w'.cell? ⟨w4.heap.size, 12, none⟩ = some (.slice A_X0_4 x0.Dirty.length c_X0_4) ∧ w'.cell? ⟨w4.heap.size, 13, none⟩ = some (.slice A_X0_5 x0.Image.length c_X0_5))
    (first | go_keep | exact ⟨hN.ext.ecell k0, hN.ext.ecell k1, hN.ext.ecell k2, hN.ext.ecell k3, hN.ext.ecell k4, hN.ext.ecell k5, hN.ext.ecell k6, hN.ext.ecell k7, hN.ext.ecell k8, hN.ext.ecell k9, hN.ext.ecell k10, hN.ext.ecell k11, hN.ext.ecell k12, hN.ext.ecell k13, hN.ext.ecell m0, hN.ext.ecell m1, hN.ext.ecell m2, hN.ext.ecell m3, hN.ext.ecell m4, hN.ext.ecell m5, hN.ext.ecell m6, hN.ext.ecell m7, hN.ext.ecell m8, hN.ext.ecell m9, hN.ext.ecell m10, hN.ext.ecell m11, hN.ext.ecell m12, hN.ext.ecell m13⟩ | (go_split_ands; exact ⟨hO.ecell (by assumption), hO.ecell (by assumption), hO.ecell (by assumption), hO.ecell (by assumption), hO.ecell (by assumption), hO.ecell (by assumption), hO.ecell (by assumption), hO.ecell (by assumption), hO.ecell (by assumption), hO.ecell (by assumption), hO.ecell (by assumption), hO.ecell (by assumption), hO.ecell (by assumption), hO.ecell (by assumption), hO.ecell (by assumption), hO.ecell (by assumption), hO.ecell (by assumption), hO.ecell (by assumption), hO.ecell (by assumption), hO.ecell (by assumption), hO.ecell (by assumption), hO.ecell (by assumption), hO.ecell (by assumption), hO.ecell (by assumption), hO.ecell (by assumption), hO.ecell (by assumption), hO.ecell (by assumption), hO.ecell (by assumption)⟩))
    (first
      | (go_at_call 28; refine (toLogRecord_calls _ x0 _ _ ⟨_, ⟨A_P0_1, c_P0_1, _, A_P0_2, c_P0_2, _, A_P0_3, c_P0_3, _, A_P0_4, c_P0_4, _, A_P0_5, c_P0_5, _, rfl, rfl, wf_P0_, Rep.sl_ext s_P0_1 E_P0_5.out.drew, Rep.sl_ext s_P0_2 E_P0_5.out.drew, Rep.sl_ext s_P0_3 E_P0_5.out.drew, Rep.sl_ext s_P0_4 E_P0_5.out.drew, Rep.sl_ext s_P0_5 E_P0_5.out.drew⟩, rfl⟩ h_aR).mono ?_; rintro e w6 ⟨v6, G6, rfl, hV6, hN⟩)
      | (go_at_call 30; refine (eqLogRecord_calls _ x0 _ _ x0 _ _ ⟨_, ⟨A_X0_1, c_X0_1, _, A_X0_2, c_X0_2, _, A_X0_3, c_X0_3, _, A_X0_4, c_X0_4, _, A_X0_5, c_X0_5, _, rfl, rfl, wf_X0_, Rep.sl_ext s_X0_1 (Only.ext E_X0_5.out.drew hN.ext), Rep.sl_ext s_X0_2 (Only.ext E_X0_5.out.drew hN.ext), Rep.sl_ext s_X0_3 (Only.ext E_X0_5.out.drew hN.ext), Rep.sl_ext s_X0_4 (Only.ext E_X0_5.out.drew hN.ext), Rep.sl_ext s_X0_5 (Only.ext E_X0_5.out.drew hN.ext)⟩, rfl⟩ hV6).mono ?_; rintro e w7 ⟨rfl, hO⟩; rw [show decide (x0 = x0) = true from decide_eq_true rfl]))
  have hO2 := Only.ext (Only.ext ((Only.refl [] w5).drew) hN.ext) hO
  clear hN hO hV6 z_P0 z_X0 k0 k1 k2 k3 k4 k5 k6 k7 k8 k9 k10 k11 k12 k13 m0 m1 m2 m3 m4 m5 m6 m7 m8 m9 m10 m11 m12 m13
  have hO := hO2
  clear hO2
  have SZ_7 : Hid (w5.heap.size + 0 ≤ w7.heap.size) := by have := Only.size hO; exact (by omega : w5.heap.size + 0 ≤ w7.heap.size)
  have SZ_6 : Hid (w5.heap.size + 0 ≤ w5.heap.size) := Nat.le_refl _
  have E_B_7 := Lib.hid (Only.ext E_B_5.out hO)
  have E_P0_7 := Lib.hid (Only.ext E_P0_5.out hO)
  have E_X0_7 := Lib.hid (Only.ext E_X0_5.out hO)
  clear hO E_B_5 E_P0_5 E_X0_5
  go_wp2_with fail
  go_ret
  exact ⟨rfl, (E_B_7.out)⟩
end Go.Proofs.YtghgjddiheebeaaDoor
