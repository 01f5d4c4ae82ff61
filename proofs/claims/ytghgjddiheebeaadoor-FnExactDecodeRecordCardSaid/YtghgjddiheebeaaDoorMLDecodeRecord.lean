/- FnExactDecodeRecord: the walk of the law's own text over the contracts of what it calls. Printed by gen_law.py, a program of this session. -/
import Derived.Test.YtghgjddiheebeaaDoorMG7
import Derived.Deep.RegionHeld3
namespace Go.Proofs.YtghgjddiheebeaaDoor
open Go.RowKit
set_option linter.unusedSimpArgs false
set_option linter.unusedVariables false

set_option maxRecDepth 100000 in
set_option maxHeartbeats 8000000 in
theorem DecodeRecord_walk (w : World) (A_P0_1 : Option Addr) (c_P0_1 : Nat) (x0 : List Int) (F_P0_1 : List Nat) (s_P0_1 : (Rep.int .u8).sl w A_P0_1 c_P0_1 x0 F_P0_1) :
    Calls Tryd.prog 10 #[.slice A_P0_1 x0.length c_P0_1] w fun e w' => e = .returned (.bool true) ∧ Ext w w' := by
  have LT_P0 : Hid (∀ b ∈ F_P0_1, b < w.heap.size) := fun b hb => Rep.sl_lt s_P0_1 b hb
  have hu_laws_LogRecord := Tryd.underlying43
  have hu_laws_PageRecord := Tryd.underlying28
  have hu_impl_RecordResult := Tryd.underlying65
  have hu_impl_LogRecord := Tryd.underlying49
  have hu_impl_PageRecord := Tryd.underlying33
  show Calls _ _ #[_] _ _
  go_enter Tryd.func10, Tryd.ntmps10
  have E_B_0 := Lib.hid (Only.refl [] w)
  have E_P0_0 := Lib.hid (Only.refl [] w)
  have hm0 := s_P0_1.1
  have hM0 := s_P0_1.2.1
  unfold maxLen at hM0
  by_cases hl0 : (1048576 : Int) < x0.length
  · go_wp2_with fail
    go_ret
    exact ⟨rfl, (E_B_0.out)⟩
  have h_aB : x0.length ≤ 1048576 := by omega
  clear hm0 hM0
  go_wp2_with fail
  refine (toByteS_calls _ _ _ _ _ (Rep.sl_ext s_P0_1 (E_P0_0.out)) (by omega)).mono ?_
  rintro e w1 ⟨v_T0w0, F_T0w0_1, rfl, hV, hN⟩
  obtain ⟨A_T0w0_1, c_T0w0_1, rfl, s_T0w0_1⟩ := Rep.slice_V hV
  have LT_T0w0 : Hid (∀ b ∈ F_T0w0_1, b < w1.heap.size) := (fun b hb => Rep.sl_lt s_T0w0_1 b hb)
  have GE_T0w0 : Hid (∀ b ∈ F_T0w0_1, w.heap.size + 0 ≤ b) := by
    have h : ∀ b ∈ F_T0w0_1, _ := hN.new
    try simp only [World.alloc, Array.size_push] at h
    exact h
  have U_T0w0 := Lib.hid hN.unfr
  have ND_T0w0 := Lib.hid hN.nodup
  have SZ_1 : Hid (w.heap.size + 0 ≤ w1.heap.size) := by have := Only.size hN.ext; (try simp at this); exact (by omega : w.heap.size + 0 ≤ w1.heap.size)
  have E_B_1 := Lib.hid (Only.ext (E_B_0.out) hN.ext)
  have E_P0_1 := Lib.hid (Only.ext (E_P0_0.out) hN.ext)
  clear E_B_0 E_P0_0
  clear hN
  have E_T0w0_1 := Lib.hid (Only.refl [] w1)
  go_wp2_with fail
  refine (specDecode_calls _ _ _ x0 _ (Rep.sl_ext s_T0w0_1 (E_T0w0_1.out)) h_aB).mono ?_
  rintro e w2 ⟨v_w0, F_w0_, rfl, hV, hO⟩
  obtain ⟨R, HR⟩ : ∃ R, Hid (decI x0 = R) := ⟨_, rfl⟩
  rw [HR.out] at hV
  obtain ⟨_, ⟨A_w0_1, c_w0_1, F_w0_1, A_w0_2, c_w0_2, F_w0_2, A_w0_3, c_w0_3, F_w0_3, A_w0_4, c_w0_4, F_w0_4, A_w0_5, c_w0_5, F_w0_5, rfl, rfl, wf_w0_, s_w0_1, s_w0_2, s_w0_3, s_w0_4, s_w0_5⟩, hv⟩ := hV
  replace hv : v_w0 = .agg #[_, _, _, _, _, _, _, _, _, _, _, _, _, _, _] := hv
  subst hv
  have hct : (ctTopRecordResult R) ≤ 1152921504606846976 := by rw [← HR.out]; exact (decI_ct _)
  have LT_w0 : Hid (∀ b ∈ F_w0_1 ++ F_w0_2 ++ F_w0_3 ++ F_w0_4 ++ F_w0_5, b < w2.heap.size) := (by
    intro b hb
    simp only [List.mem_append] at hb
    rcases hb with ((((hb | hb) | hb) | hb) | hb)
    · exact Rep.sl_lt s_w0_1 b hb
    · exact Rep.sl_lt s_w0_2 b hb
    · exact Rep.sl_lt s_w0_3 b hb
    · exact Rep.sl_lt s_w0_4 b hb
    · exact Rep.sl_lt s_w0_5 b hb)
  have SZ_2 : Hid (w1.heap.size + 0 ≤ w2.heap.size) := by have := Only.size hO; (try simp at this); exact (by omega : w1.heap.size + 0 ≤ w2.heap.size)
  have E_B_2 := Lib.hid (Only.ext (E_B_1.out) hO)
  have E_P0_2 := Lib.hid (Only.ext (E_P0_1.out) hO)
  have E_T0w0_2 := Lib.hid (Only.ext (E_T0w0_1.out) hO)
  clear E_B_1 E_P0_1 E_T0w0_1
  clear hO
  clear E_T0w0_2
  have E_w0_2 := Lib.hid (Only.refl [] w2)
  go_wp2_with fail
  refine (toByteS_calls _ _ _ _ _ (Rep.sl_ext s_P0_1 ((E_P0_2.out.alloc _))) (by omega)).mono ?_
  rintro e w3 ⟨v_X0, F_X0_1, rfl, hV, hN⟩
  obtain ⟨A_X0_1, c_X0_1, rfl, s_X0_1⟩ := Rep.slice_V hV
  have LT_X0 : Hid (∀ b ∈ F_X0_1, b < w3.heap.size) := (fun b hb => Rep.sl_lt s_X0_1 b hb)
  have GE_X0 : Hid (∀ b ∈ F_X0_1, w2.heap.size + 1 ≤ b) := by
    have h : ∀ b ∈ F_X0_1, _ := hN.new
    try simp only [World.alloc, Array.size_push] at h
    exact h
  have U_X0 := Lib.hid hN.unfr
  have ND_X0 := Lib.hid hN.nodup
  have SZ_3 : Hid (w2.heap.size + 1 ≤ w3.heap.size) := by have := Only.size hN.ext; (try simp at this); exact (by omega : w2.heap.size + 1 ≤ w3.heap.size)
  have E_B_3 := Lib.hid (Only.ext ((E_B_2.out.alloc _)) hN.ext)
  have E_P0_3 := Lib.hid (Only.ext ((E_P0_2.out.alloc _)) hN.ext)
  have HBX_w0 := Lib.hid (Only.heap hN.ext (heap_alloc_new _ _) (by simp))
  have t_ := Rep.sl_ext s_w0_1 (Only.ext ((E_w0_2.out.alloc _)) hN.ext)
  clear s_w0_1
  have s_w0_1 := t_
  clear t_
  have t_ := Rep.sl_ext s_w0_2 (Only.ext ((E_w0_2.out.alloc _)) hN.ext)
  clear s_w0_2
  have s_w0_2 := t_
  clear t_
  have t_ := Rep.sl_ext s_w0_3 (Only.ext ((E_w0_2.out.alloc _)) hN.ext)
  clear s_w0_3
  have s_w0_3 := t_
  clear t_
  have t_ := Rep.sl_ext s_w0_4 (Only.ext ((E_w0_2.out.alloc _)) hN.ext)
  clear s_w0_4
  have s_w0_4 := t_
  clear t_
  have t_ := Rep.sl_ext s_w0_5 (Only.ext ((E_w0_2.out.alloc _)) hN.ext)
  clear s_w0_5
  have s_w0_5 := t_
  clear t_
  clear E_w0_2
  have E_w0_3 := Lib.hid (Only.refl [] w3)
  clear E_B_2 E_P0_2
  clear hN
  have E_X0_3 := Lib.hid (Only.refl [] w3)
  as_aux_lemma =>
    go_wp2_with fail
    refine (implDecode_new _ _ _ x0 _ (Rep.sl_ext s_X0_1 (E_X0_3.out)) h_aB).mono ?_
    rintro e w4 ⟨v_g0, F_g0_, rfl, hV, hN⟩
    rw [HR.out] at hV
    obtain ⟨_, ⟨A_g0_1, c_g0_1, F_g0_1, A_g0_2, c_g0_2, F_g0_2, A_g0_3, c_g0_3, F_g0_3, A_g0_4, c_g0_4, F_g0_4, A_g0_5, c_g0_5, F_g0_5, rfl, rfl, wf_g0_, s_g0_1, s_g0_2, s_g0_3, s_g0_4, s_g0_5⟩, hv⟩ := hV
    replace hv : v_g0 = .agg #[_, _, _, _, _, _, _, _, _, _, _, _, _, _, _] := hv
    subst hv
    have LT_g0 : Hid (∀ b ∈ F_g0_1 ++ F_g0_2 ++ F_g0_3 ++ F_g0_4 ++ F_g0_5, b < w4.heap.size) := (by
      intro b hb
      simp only [List.mem_append] at hb
      rcases hb with ((((hb | hb) | hb) | hb) | hb)
      · exact Rep.sl_lt s_g0_1 b hb
      · exact Rep.sl_lt s_g0_2 b hb
      · exact Rep.sl_lt s_g0_3 b hb
      · exact Rep.sl_lt s_g0_4 b hb
      · exact Rep.sl_lt s_g0_5 b hb)
    have GE_g0 : Hid (∀ b ∈ F_g0_1 ++ F_g0_2 ++ F_g0_3 ++ F_g0_4 ++ F_g0_5, w3.heap.size + 0 ≤ b) := by
      have h : ∀ b ∈ F_g0_1 ++ F_g0_2 ++ F_g0_3 ++ F_g0_4 ++ F_g0_5, _ := hN.new
      try simp only [World.alloc, Array.size_push] at h
      exact h
    have U_g0 := Lib.hid hN.unfr
    have ND_g0 := Lib.hid hN.nodup
    have SZ_4 : Hid (w3.heap.size + 0 ≤ w4.heap.size) := by have := Only.size hN.ext; (try simp at this); exact (by omega : w3.heap.size + 0 ≤ w4.heap.size)
    have E_B_4 := Lib.hid (Only.ext (E_B_3.out) hN.ext)
    have E_P0_4 := Lib.hid (Only.ext (E_P0_3.out) hN.ext)
    have E_w0_4 := Lib.hid (Only.ext (E_w0_3.out) hN.ext)
    have E_X0_4 := Lib.hid (Only.ext (E_X0_3.out) hN.ext)
    clear E_B_3 E_P0_3 E_w0_3 E_X0_3
    clear hN
    have E_g0_4 := Lib.hid (Only.refl [] w4)
    have hh_w0 := E_w0_4.out.heap HBX_w0.out (by simp)
    have z_w0 := (Array.getElem?_eq_some_iff.1 hh_w0).1
    have cl_w0 := fun o => cell_of_row _ _ o _ _ _ hh_w0
    clear hh_w0
    go_wp2_with fail
    refine (eqRecordResult_calls _ R _ _ R _ _ ⟨_, ⟨A_g0_1, c_g0_1, _, A_g0_2, c_g0_2, _, A_g0_3, c_g0_3, _, A_g0_4, c_g0_4, _, A_g0_5, c_g0_5, _, rfl, rfl, wf_g0_, Rep.sl_ext s_g0_1 ((E_g0_4.out.alloc _)), Rep.sl_ext s_g0_2 ((E_g0_4.out.alloc _)), Rep.sl_ext s_g0_3 ((E_g0_4.out.alloc _)), Rep.sl_ext s_g0_4 ((E_g0_4.out.alloc _)), Rep.sl_ext s_g0_5 ((E_g0_4.out.alloc _))⟩, rfl⟩ ⟨_, ⟨A_w0_1, c_w0_1, _, A_w0_2, c_w0_2, _, A_w0_3, c_w0_3, _, A_w0_4, c_w0_4, _, A_w0_5, c_w0_5, _, rfl, rfl, wf_w0_, Rep.sl_ext s_w0_1 ((E_w0_4.out.alloc _)), Rep.sl_ext s_w0_2 ((E_w0_4.out.alloc _)), Rep.sl_ext s_w0_3 ((E_w0_4.out.alloc _)), Rep.sl_ext s_w0_4 ((E_w0_4.out.alloc _)), Rep.sl_ext s_w0_5 ((E_w0_4.out.alloc _))⟩, rfl⟩).mono ?_
    rintro e w5 ⟨rfl, hO⟩
    clear z_w0 cl_w0
    rw [show decide (R = R) = true from decide_eq_true rfl]
    have SZ_5 : Hid (w4.heap.size + 1 ≤ w5.heap.size) := by have := Only.size hO; (try simp at this); exact (by omega : w4.heap.size + 1 ≤ w5.heap.size)
    have E_B_5 := Lib.hid (Only.ext ((E_B_4.out.alloc _)) hO)
    have E_P0_5 := Lib.hid (Only.ext ((E_P0_4.out.alloc _)) hO)
    have E_w0_5 := Lib.hid (Only.ext ((E_w0_4.out.alloc _)) hO)
    have E_X0_5 := Lib.hid (Only.ext ((E_X0_4.out.alloc _)) hO)
    have HBX_g0 := Lib.hid (Only.heap hO (heap_alloc_new _ _) (by simp))
    have t_ := Rep.sl_ext s_g0_1 (Only.ext ((E_g0_4.out.alloc _)) hO)
    clear s_g0_1
    have s_g0_1 := t_
    clear t_
    have t_ := Rep.sl_ext s_g0_2 (Only.ext ((E_g0_4.out.alloc _)) hO)
    clear s_g0_2
    have s_g0_2 := t_
    clear t_
    have t_ := Rep.sl_ext s_g0_3 (Only.ext ((E_g0_4.out.alloc _)) hO)
    clear s_g0_3
    have s_g0_3 := t_
    clear t_
    have t_ := Rep.sl_ext s_g0_4 (Only.ext ((E_g0_4.out.alloc _)) hO)
    clear s_g0_4
    have s_g0_4 := t_
    clear t_
    have t_ := Rep.sl_ext s_g0_5 (Only.ext ((E_g0_4.out.alloc _)) hO)
    clear s_g0_5
    have s_g0_5 := t_
    clear t_
    have t_ := Lib.hid (Unfr.ext U_g0.out (Only.ext ((E_g0_4.out.alloc _)) hO) (fun b hb => by have h1 := LT_g0.out b hb; have h2 := E_g0_4.out.size; omega))
    clear U_g0
    have U_g0 := t_
    clear t_
    clear E_g0_4
    have E_g0_5 := Lib.hid (Only.refl [] w5)
    clear E_B_4 E_P0_4 E_w0_4 E_X0_4
    clear hO
    go_wp2_with fail
    refine (toByteS_calls _ _ _ _ _ (Rep.sl_ext s_P0_1 (E_P0_5.out)) (by omega)).mono ?_
    rintro e w6 ⟨v_C5, F_C5_1, rfl, hV, hN⟩
    obtain ⟨A_C5_1, c_C5_1, rfl, s_C5_1⟩ := Rep.slice_V hV
    have LT_C5 : Hid (∀ b ∈ F_C5_1, b < w6.heap.size) := (fun b hb => Rep.sl_lt s_C5_1 b hb)
    have GE_C5 : Hid (∀ b ∈ F_C5_1, w5.heap.size + 0 ≤ b) := by
      have h : ∀ b ∈ F_C5_1, _ := hN.new
      try simp only [World.alloc, Array.size_push] at h
      exact h
    have U_C5 := Lib.hid hN.unfr
    have ND_C5 := Lib.hid hN.nodup
    have SZ_6 : Hid (w5.heap.size + 0 ≤ w6.heap.size) := by have := Only.size hN.ext; (try simp at this); exact (by omega : w5.heap.size + 0 ≤ w6.heap.size)
    have E_B_6 := Lib.hid (Only.ext (E_B_5.out) hN.ext)
    have E_P0_6 := Lib.hid (Only.ext (E_P0_5.out) hN.ext)
    have E_w0_6 := Lib.hid (Only.ext (E_w0_5.out) hN.ext)
    have E_X0_6 := Lib.hid (Only.ext (E_X0_5.out) hN.ext)
    have E_g0_6 := Lib.hid (Only.ext (E_g0_5.out) hN.ext)
    clear E_B_5 E_P0_5 E_w0_5 E_X0_5 E_g0_5
    clear hN
    have E_C5_6 := Lib.hid (Only.refl [] w6)
    go_wp2_with fail
    refine (eqByteS_calls _ _ _ _ _ _ _ _ _ (Rep.sl_ext s_X0_1 (E_X0_6.out)) (Rep.sl_ext s_C5_1 (E_C5_6.out))).mono ?_
    rintro e w7 ⟨rfl, hO⟩
    rw [show decide (x0 = x0) = true from decide_eq_true rfl]
    have SZ_7 : Hid (w6.heap.size + 0 ≤ w7.heap.size) := by have := Only.size hO; (try simp at this); exact (by omega : w6.heap.size + 0 ≤ w7.heap.size)
    have E_B_7 := Lib.hid (Only.ext (E_B_6.out) hO)
    have E_P0_7 := Lib.hid (Only.ext (E_P0_6.out) hO)
    have E_w0_7 := Lib.hid (Only.ext (E_w0_6.out) hO)
    have E_X0_7 := Lib.hid (Only.ext (E_X0_6.out) hO)
    have E_g0_7 := Lib.hid (Only.ext (E_g0_6.out) hO)
    have E_C5_7 := Lib.hid (Only.ext (E_C5_6.out) hO)
    clear E_B_6 E_P0_6 E_w0_6 E_X0_6 E_g0_6 E_C5_6
    clear hO
    clear E_C5_7
    have hk_X0 : x0.length ≤ 64 * (x0.length) := by omega
    as_aux_lemma =>
      go_wp2_with fail
      refine (markByteS_calls _ _ _ _ (1) _ (Rep.sl_ext s_X0_1 (E_X0_7.out)) ND_X0.out (Unfr.ext U_X0.out (E_X0_7.out) (fun b hb => by have h1 := LT_X0.out b hb; skip; omega)) (by omega) (by omega)).mono ?_
      rintro e w8 ⟨rfl, hV, hO, hU⟩
      have SZ_8 : Hid (w7.heap.size + 0 ≤ w8.heap.size) := by have := Only.size hO; exact (by omega : w7.heap.size + 0 ≤ w8.heap.size)
      have E_B_8 := Lib.hid (Only.then_ E_B_7.out hO (fun g hg h => by have h1 := GE_X0.out g hg; have q1 := SZ_1.out; have q2 := SZ_2.out; omega))
      have t_ := Rep.sl_only (Rep.sl_ext s_P0_1 E_P0_7.out) hO (fun b hb hb' => by have h1 := LT_P0.out b (hb); have h2 := GE_X0.out b hb'; have q1 := SZ_1.out; have q2 := SZ_2.out; omega)
      clear s_P0_1
      have s_P0_1 := t_
      clear t_
      have E_P0_8 := Lib.hid (Only.refl [] w8)
      have t_ := Rep.sl_only (Rep.sl_ext s_w0_1 E_w0_7.out) hO (fun b hb hb' => by have h1 := LT_w0.out b (by simp [hb]); have h2 := GE_X0.out b hb'; omega)
      clear s_w0_1
      have s_w0_1 := t_
      clear t_
      have t_ := Rep.sl_only (Rep.sl_ext s_w0_2 E_w0_7.out) hO (fun b hb hb' => by have h1 := LT_w0.out b (by simp [hb]); have h2 := GE_X0.out b hb'; omega)
      clear s_w0_2
      have s_w0_2 := t_
      clear t_
      have t_ := Rep.sl_only (Rep.sl_ext s_w0_3 E_w0_7.out) hO (fun b hb hb' => by have h1 := LT_w0.out b (by simp [hb]); have h2 := GE_X0.out b hb'; omega)
      clear s_w0_3
      have s_w0_3 := t_
      clear t_
      have t_ := Rep.sl_only (Rep.sl_ext s_w0_4 E_w0_7.out) hO (fun b hb hb' => by have h1 := LT_w0.out b (by simp [hb]); have h2 := GE_X0.out b hb'; omega)
      clear s_w0_4
      have s_w0_4 := t_
      clear t_
      have t_ := Rep.sl_only (Rep.sl_ext s_w0_5 E_w0_7.out) hO (fun b hb hb' => by have h1 := LT_w0.out b (by simp [hb]); have h2 := GE_X0.out b hb'; omega)
      clear s_w0_5
      have s_w0_5 := t_
      clear t_
      have t_ := Lib.hid (Only.heap hO (Only.heap E_w0_7.out HBX_w0.out (by simp)) (fun hb => by have h1 := GE_X0.out _ hb; omega))
      clear HBX_w0
      have HBX_w0 := t_
      clear t_
      have E_w0_8 := Lib.hid (Only.refl [] w8)
      have t_ := Rep.sl_only (Rep.sl_ext s_g0_1 E_g0_7.out) hO (fun b hb hb' => by have h1 := GE_g0.out b (by simp [hb]); have h2 := LT_X0.out b hb'; omega)
      clear s_g0_1
      have s_g0_1 := t_
      clear t_
      have t_ := Rep.sl_only (Rep.sl_ext s_g0_2 E_g0_7.out) hO (fun b hb hb' => by have h1 := GE_g0.out b (by simp [hb]); have h2 := LT_X0.out b hb'; omega)
      clear s_g0_2
      have s_g0_2 := t_
      clear t_
      have t_ := Rep.sl_only (Rep.sl_ext s_g0_3 E_g0_7.out) hO (fun b hb hb' => by have h1 := GE_g0.out b (by simp [hb]); have h2 := LT_X0.out b hb'; omega)
      clear s_g0_3
      have s_g0_3 := t_
      clear t_
      have t_ := Rep.sl_only (Rep.sl_ext s_g0_4 E_g0_7.out) hO (fun b hb hb' => by have h1 := GE_g0.out b (by simp [hb]); have h2 := LT_X0.out b hb'; omega)
      clear s_g0_4
      have s_g0_4 := t_
      clear t_
      have t_ := Rep.sl_only (Rep.sl_ext s_g0_5 E_g0_7.out) hO (fun b hb hb' => by have h1 := GE_g0.out b (by simp [hb]); have h2 := LT_X0.out b hb'; omega)
      clear s_g0_5
      have s_g0_5 := t_
      clear t_
      have t_ := Lib.hid (Unfr.only (Unfr.ext U_g0.out E_g0_7.out (fun b hb => by have h1 := LT_g0.out b hb; have q5 := SZ_5.out; omega)) hO (fun b hb => by have h1 := LT_g0.out b hb; have q5 := SZ_5.out; have q6 := SZ_6.out; have q7 := SZ_7.out; omega) (fun b hb hb' => by have h1 := GE_g0.out b hb; have h2 := LT_X0.out b hb'; omega))
      clear U_g0
      have U_g0 := t_
      clear t_
      have t_ := Lib.hid (Only.heap hO (Only.heap E_g0_7.out HBX_g0.out (by simp)) (fun hb => by have h1 := LT_X0.out _ hb; have q4 := SZ_4.out; omega))
      clear HBX_g0
      have HBX_g0 := t_
      clear t_
      have E_g0_8 := Lib.hid (Only.refl [] w8)
      clear E_B_7 E_P0_7 E_w0_7 E_X0_7 E_g0_7
      clear hO hU hV
      have hkk : decide (1 + x0.length < (0 : Int)) = false := by rw [decide_eq_false_iff_not]; omega
      have hh_g0 := E_g0_8.out.heap HBX_g0.out (by simp)
      have z_g0 := (Array.getElem?_eq_some_iff.1 hh_g0).1
      have cl_g0 := fun o => cell_of_row _ _ o _ _ _ hh_g0
      clear hh_g0
      have hh_w0 := E_w0_8.out.heap HBX_w0.out (by simp)
      have z_w0 := (Array.getElem?_eq_some_iff.1 hh_w0).1
      have cl_w0 := fun o => cell_of_row _ _ o _ _ _ hh_w0
      clear hh_w0
      go_wp2_with fail
      refine (eqRecordResult_calls _ R _ _ R _ _ ⟨_, ⟨A_g0_1, c_g0_1, _, A_g0_2, c_g0_2, _, A_g0_3, c_g0_3, _, A_g0_4, c_g0_4, _, A_g0_5, c_g0_5, _, rfl, rfl, wf_g0_, Rep.sl_ext s_g0_1 (E_g0_8.out), Rep.sl_ext s_g0_2 (E_g0_8.out), Rep.sl_ext s_g0_3 (E_g0_8.out), Rep.sl_ext s_g0_4 (E_g0_8.out), Rep.sl_ext s_g0_5 (E_g0_8.out)⟩, rfl⟩ ⟨_, ⟨A_w0_1, c_w0_1, _, A_w0_2, c_w0_2, _, A_w0_3, c_w0_3, _, A_w0_4, c_w0_4, _, A_w0_5, c_w0_5, _, rfl, rfl, wf_w0_, Rep.sl_ext s_w0_1 (E_w0_8.out), Rep.sl_ext s_w0_2 (E_w0_8.out), Rep.sl_ext s_w0_3 (E_w0_8.out), Rep.sl_ext s_w0_4 (E_w0_8.out), Rep.sl_ext s_w0_5 (E_w0_8.out)⟩, rfl⟩).mono ?_
      rintro e w9 ⟨rfl, hO⟩
      clear z_g0 cl_g0 z_w0 cl_w0
      rw [show decide (R = R) = true from decide_eq_true rfl]
      have SZ_9 : Hid (w8.heap.size + 0 ≤ w9.heap.size) := by have := Only.size hO; (try simp at this); exact (by omega : w8.heap.size + 0 ≤ w9.heap.size)
      have E_B_9 := Lib.hid (Only.ext (E_B_8.out) hO)
      have E_P0_9 := Lib.hid (Only.ext (E_P0_8.out) hO)
      have E_w0_9 := Lib.hid (Only.ext (E_w0_8.out) hO)
      have E_g0_9 := Lib.hid (Only.ext (E_g0_8.out) hO)
      clear E_B_8 E_P0_8 E_w0_8 E_g0_8
      clear hO
      have hh_g0 := E_g0_9.out.heap HBX_g0.out (by simp)
      have z_g0 := (Array.getElem?_eq_some_iff.1 hh_g0).1
      have cl_g0 := fun o => cell_of_row _ _ o _ _ _ hh_g0
      clear hh_g0
      go_wp2_with fail
      refine (markRecordResult_calls _ R (F_g0_1 ++ F_g0_2 ++ F_g0_3 ++ F_g0_4 ++ F_g0_5) (1) _ ⟨_, ⟨A_g0_1, c_g0_1, _, A_g0_2, c_g0_2, _, A_g0_3, c_g0_3, _, A_g0_4, c_g0_4, _, A_g0_5, c_g0_5, _, rfl, rfl, wf_g0_, Rep.sl_ext s_g0_1 (E_g0_9.out), Rep.sl_ext s_g0_2 (E_g0_9.out), Rep.sl_ext s_g0_3 (E_g0_9.out), Rep.sl_ext s_g0_4 (E_g0_9.out), Rep.sl_ext s_g0_5 (E_g0_9.out)⟩, rfl⟩ ND_g0.out (Unfr.ext U_g0.out (E_g0_9.out) (fun b hb => by have h1 := LT_g0.out b hb; have q5 := SZ_5.out; have q6 := SZ_6.out; have q7 := SZ_7.out; have q8 := SZ_8.out; omega)) (by omega) (by omega)).mono ?_
      rintro e w10 ⟨rfl, hV, hO, hU⟩
      clear z_g0 cl_g0
      have SZ_10 : Hid (w9.heap.size + 0 ≤ w10.heap.size) := by have := Only.size hO; exact (by omega : w9.heap.size + 0 ≤ w10.heap.size)
      have E_B_10 := Lib.hid (Only.then_ E_B_9.out hO (fun g hg h => by have h1 := GE_g0.out g hg; have q1 := SZ_1.out; have q2 := SZ_2.out; have q3 := SZ_3.out; omega))
      have t_ := Rep.sl_only (Rep.sl_ext s_P0_1 E_P0_9.out) hO (fun b hb hb' => by have h1 := LT_P0.out b (hb); have h2 := GE_g0.out b hb'; have q1 := SZ_1.out; have q2 := SZ_2.out; have q3 := SZ_3.out; omega)
      clear s_P0_1
      have s_P0_1 := t_
      clear t_
      have E_P0_10 := Lib.hid (Only.refl [] w10)
      have t_ := Rep.sl_only (Rep.sl_ext s_w0_1 E_w0_9.out) hO (fun b hb hb' => by have h1 := LT_w0.out b (by simp [hb]); have h2 := GE_g0.out b hb'; have q3 := SZ_3.out; omega)
      clear s_w0_1
      have s_w0_1 := t_
      clear t_
      have t_ := Rep.sl_only (Rep.sl_ext s_w0_2 E_w0_9.out) hO (fun b hb hb' => by have h1 := LT_w0.out b (by simp [hb]); have h2 := GE_g0.out b hb'; have q3 := SZ_3.out; omega)
      clear s_w0_2
      have s_w0_2 := t_
      clear t_
      have t_ := Rep.sl_only (Rep.sl_ext s_w0_3 E_w0_9.out) hO (fun b hb hb' => by have h1 := LT_w0.out b (by simp [hb]); have h2 := GE_g0.out b hb'; have q3 := SZ_3.out; omega)
      clear s_w0_3
      have s_w0_3 := t_
      clear t_
      have t_ := Rep.sl_only (Rep.sl_ext s_w0_4 E_w0_9.out) hO (fun b hb hb' => by have h1 := LT_w0.out b (by simp [hb]); have h2 := GE_g0.out b hb'; have q3 := SZ_3.out; omega)
      clear s_w0_4
      have s_w0_4 := t_
      clear t_
      have t_ := Rep.sl_only (Rep.sl_ext s_w0_5 E_w0_9.out) hO (fun b hb hb' => by have h1 := LT_w0.out b (by simp [hb]); have h2 := GE_g0.out b hb'; have q3 := SZ_3.out; omega)
      clear s_w0_5
      have s_w0_5 := t_
      clear t_
      have t_ := Lib.hid (Only.heap hO (Only.heap E_w0_9.out HBX_w0.out (by simp)) (fun hb => by have h1 := GE_g0.out _ hb; have q3 := SZ_3.out; omega))
      clear HBX_w0
      have HBX_w0 := t_
      clear t_
      have E_w0_10 := Lib.hid (Only.refl [] w10)
      have t_ := Lib.hid (Only.heap hO (Only.heap E_g0_9.out HBX_g0.out (by simp)) (fun hb => by have h1 := LT_g0.out _ hb; omega))
      clear HBX_g0
      have HBX_g0 := t_
      clear t_
      clear s_g0_1 s_g0_2 s_g0_3 s_g0_4 s_g0_5
      have VM := hV
      have E_g0_10 := Lib.hid (Only.refl [] w10)
      clear E_B_9 E_P0_9 E_w0_9 E_g0_9
      clear hO hU
      have hh_g0 := E_g0_10.out.heap HBX_g0.out (by simp)
      have z_g0 := (Array.getElem?_eq_some_iff.1 hh_g0).1
      have cl_g0 := fun o => cell_of_row _ _ o _ _ _ hh_g0
      clear hh_g0
      go_wp2_with fail
      refine (heldRecordResult_calls _ R _ 1 _ (V_ext VM (E_g0_10.out)) (by omega) (by omega)).mono ?_
      rintro e w11 ⟨rfl, hO⟩
      clear z_g0 cl_g0
      have SZ_11 : Hid (w10.heap.size + 0 ≤ w11.heap.size) := by have := Only.size hO; (try simp at this); exact (by omega : w10.heap.size + 0 ≤ w11.heap.size)
      have E_B_11 := Lib.hid (Only.ext (E_B_10.out) hO)
      have E_P0_11 := Lib.hid (Only.ext (E_P0_10.out) hO)
      have E_w0_11 := Lib.hid (Only.ext (E_w0_10.out) hO)
      have E_g0_11 := Lib.hid (Only.ext (E_g0_10.out) hO)
      clear E_B_10 E_P0_10 E_w0_10 E_g0_10
      clear hO
      as_aux_lemma =>
        go_wp2_with fail
        refine (toByteS_calls _ _ _ _ _ (Rep.sl_ext s_P0_1 (E_P0_11.out)) (by omega)).mono ?_
        rintro e w12 ⟨v_T0h0, F_T0h0_1, rfl, hV, hN⟩
        obtain ⟨A_T0h0_1, c_T0h0_1, rfl, s_T0h0_1⟩ := Rep.slice_V hV
        have LT_T0h0 : Hid (∀ b ∈ F_T0h0_1, b < w12.heap.size) := (fun b hb => Rep.sl_lt s_T0h0_1 b hb)
        have GE_T0h0 : Hid (∀ b ∈ F_T0h0_1, w11.heap.size + 0 ≤ b) := by
          have h : ∀ b ∈ F_T0h0_1, _ := hN.new
          try simp only [World.alloc, Array.size_push] at h
          exact h
        have U_T0h0 := Lib.hid hN.unfr
        have ND_T0h0 := Lib.hid hN.nodup
        have SZ_12 : Hid (w11.heap.size + 0 ≤ w12.heap.size) := by have := Only.size hN.ext; (try simp at this); exact (by omega : w11.heap.size + 0 ≤ w12.heap.size)
        have E_B_12 := Lib.hid (Only.ext (E_B_11.out) hN.ext)
        have E_P0_12 := Lib.hid (Only.ext (E_P0_11.out) hN.ext)
        have E_w0_12 := Lib.hid (Only.ext (E_w0_11.out) hN.ext)
        have E_g0_12 := Lib.hid (Only.ext (E_g0_11.out) hN.ext)
        clear E_B_11 E_P0_11 E_w0_11 E_g0_11
        clear hN
        have E_T0h0_12 := Lib.hid (Only.refl [] w12)
        go_wp2_with fail
        refine (implDecode_new _ _ _ x0 _ (Rep.sl_ext s_T0h0_1 (E_T0h0_12.out)) h_aB).mono ?_
        rintro e w13 ⟨v_h0, F_h0_, rfl, hV, hN⟩
        rw [HR.out] at hV
        obtain ⟨_, ⟨A_h0_1, c_h0_1, F_h0_1, A_h0_2, c_h0_2, F_h0_2, A_h0_3, c_h0_3, F_h0_3, A_h0_4, c_h0_4, F_h0_4, A_h0_5, c_h0_5, F_h0_5, rfl, rfl, wf_h0_, s_h0_1, s_h0_2, s_h0_3, s_h0_4, s_h0_5⟩, hv⟩ := hV
        replace hv : v_h0 = .agg #[_, _, _, _, _, _, _, _, _, _, _, _, _, _, _] := hv
        subst hv
        have LT_h0 : Hid (∀ b ∈ F_h0_1 ++ F_h0_2 ++ F_h0_3 ++ F_h0_4 ++ F_h0_5, b < w13.heap.size) := (by
          intro b hb
          simp only [List.mem_append] at hb
          rcases hb with ((((hb | hb) | hb) | hb) | hb)
          · exact Rep.sl_lt s_h0_1 b hb
          · exact Rep.sl_lt s_h0_2 b hb
          · exact Rep.sl_lt s_h0_3 b hb
          · exact Rep.sl_lt s_h0_4 b hb
          · exact Rep.sl_lt s_h0_5 b hb)
        have GE_h0 : Hid (∀ b ∈ F_h0_1 ++ F_h0_2 ++ F_h0_3 ++ F_h0_4 ++ F_h0_5, w12.heap.size + 0 ≤ b) := by
          have h : ∀ b ∈ F_h0_1 ++ F_h0_2 ++ F_h0_3 ++ F_h0_4 ++ F_h0_5, _ := hN.new
          try simp only [World.alloc, Array.size_push] at h
          exact h
        have U_h0 := Lib.hid hN.unfr
        have ND_h0 := Lib.hid hN.nodup
        have SZ_13 : Hid (w12.heap.size + 0 ≤ w13.heap.size) := by have := Only.size hN.ext; (try simp at this); exact (by omega : w12.heap.size + 0 ≤ w13.heap.size)
        have E_B_13 := Lib.hid (Only.ext (E_B_12.out) hN.ext)
        have E_P0_13 := Lib.hid (Only.ext (E_P0_12.out) hN.ext)
        have E_w0_13 := Lib.hid (Only.ext (E_w0_12.out) hN.ext)
        have E_g0_13 := Lib.hid (Only.ext (E_g0_12.out) hN.ext)
        have E_T0h0_13 := Lib.hid (Only.ext (E_T0h0_12.out) hN.ext)
        clear E_B_12 E_P0_12 E_w0_12 E_g0_12 E_T0h0_12
        clear hN
        clear E_T0h0_13
        have E_h0_13 := Lib.hid (Only.refl [] w13)
        have hh_w0 := E_w0_13.out.heap HBX_w0.out (by simp)
        have z_w0 := (Array.getElem?_eq_some_iff.1 hh_w0).1
        have cl_w0 := fun o => cell_of_row _ _ o _ _ _ hh_w0
        clear hh_w0
        go_wp2_with fail
        refine (eqRecordResult_calls _ R _ _ R _ _ ⟨_, ⟨A_h0_1, c_h0_1, _, A_h0_2, c_h0_2, _, A_h0_3, c_h0_3, _, A_h0_4, c_h0_4, _, A_h0_5, c_h0_5, _, rfl, rfl, wf_h0_, Rep.sl_ext s_h0_1 ((E_h0_13.out.alloc _)), Rep.sl_ext s_h0_2 ((E_h0_13.out.alloc _)), Rep.sl_ext s_h0_3 ((E_h0_13.out.alloc _)), Rep.sl_ext s_h0_4 ((E_h0_13.out.alloc _)), Rep.sl_ext s_h0_5 ((E_h0_13.out.alloc _))⟩, rfl⟩ ⟨_, ⟨A_w0_1, c_w0_1, _, A_w0_2, c_w0_2, _, A_w0_3, c_w0_3, _, A_w0_4, c_w0_4, _, A_w0_5, c_w0_5, _, rfl, rfl, wf_w0_, Rep.sl_ext s_w0_1 ((E_w0_13.out.alloc _)), Rep.sl_ext s_w0_2 ((E_w0_13.out.alloc _)), Rep.sl_ext s_w0_3 ((E_w0_13.out.alloc _)), Rep.sl_ext s_w0_4 ((E_w0_13.out.alloc _)), Rep.sl_ext s_w0_5 ((E_w0_13.out.alloc _))⟩, rfl⟩).mono ?_
        rintro e w14 ⟨rfl, hO⟩
        clear z_w0 cl_w0
        rw [show decide (R = R) = true from decide_eq_true rfl]
        have SZ_14 : Hid (w13.heap.size + 1 ≤ w14.heap.size) := by have := Only.size hO; (try simp at this); exact (by omega : w13.heap.size + 1 ≤ w14.heap.size)
        have E_B_14 := Lib.hid (Only.ext ((E_B_13.out.alloc _)) hO)
        have E_P0_14 := Lib.hid (Only.ext ((E_P0_13.out.alloc _)) hO)
        have E_w0_14 := Lib.hid (Only.ext ((E_w0_13.out.alloc _)) hO)
        have E_g0_14 := Lib.hid (Only.ext ((E_g0_13.out.alloc _)) hO)
        have HBX_h0 := Lib.hid (Only.heap hO (heap_alloc_new _ _) (by simp))
        have t_ := Rep.sl_ext s_h0_1 (Only.ext ((E_h0_13.out.alloc _)) hO)
        clear s_h0_1
        have s_h0_1 := t_
        clear t_
        have t_ := Rep.sl_ext s_h0_2 (Only.ext ((E_h0_13.out.alloc _)) hO)
        clear s_h0_2
        have s_h0_2 := t_
        clear t_
        have t_ := Rep.sl_ext s_h0_3 (Only.ext ((E_h0_13.out.alloc _)) hO)
        clear s_h0_3
        have s_h0_3 := t_
        clear t_
        have t_ := Rep.sl_ext s_h0_4 (Only.ext ((E_h0_13.out.alloc _)) hO)
        clear s_h0_4
        have s_h0_4 := t_
        clear t_
        have t_ := Rep.sl_ext s_h0_5 (Only.ext ((E_h0_13.out.alloc _)) hO)
        clear s_h0_5
        have s_h0_5 := t_
        clear t_
        have t_ := Lib.hid (Unfr.ext U_h0.out (Only.ext ((E_h0_13.out.alloc _)) hO) (fun b hb => by have h1 := LT_h0.out b hb; have h2 := E_h0_13.out.size; omega))
        clear U_h0
        have U_h0 := t_
        clear t_
        clear E_h0_13
        have E_h0_14 := Lib.hid (Only.refl [] w14)
        clear E_B_13 E_P0_13 E_w0_13 E_g0_13
        clear hO
        have hh_g0 := E_g0_14.out.heap HBX_g0.out (by simp)
        have z_g0 := (Array.getElem?_eq_some_iff.1 hh_g0).1
        have cl_g0 := fun o => cell_of_row _ _ o _ _ _ hh_g0
        clear hh_g0
        go_wp2_with fail
        refine (heldRecordResult_calls _ R _ 1 _ (V_ext VM (E_g0_14.out)) (by omega) (by omega)).mono ?_
        rintro e w15 ⟨rfl, hO⟩
        clear z_g0 cl_g0
        have SZ_15 : Hid (w14.heap.size + 0 ≤ w15.heap.size) := by have := Only.size hO; (try simp at this); exact (by omega : w14.heap.size + 0 ≤ w15.heap.size)
        have E_B_15 := Lib.hid (Only.ext (E_B_14.out) hO)
        have E_P0_15 := Lib.hid (Only.ext (E_P0_14.out) hO)
        have E_w0_15 := Lib.hid (Only.ext (E_w0_14.out) hO)
        have E_g0_15 := Lib.hid (Only.ext (E_g0_14.out) hO)
        have E_h0_15 := Lib.hid (Only.ext (E_h0_14.out) hO)
        clear E_B_14 E_P0_14 E_w0_14 E_g0_14 E_h0_14
        clear hO
        as_aux_lemma =>
          go_wp2_with fail
          go_ret
          exact ⟨rfl, (E_B_15.out)⟩
end Go.Proofs.YtghgjddiheebeaaDoor
