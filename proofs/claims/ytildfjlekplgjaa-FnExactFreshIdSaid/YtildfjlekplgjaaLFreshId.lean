/- FnExactFreshId: the walk of the law's own text over the contracts of what it calls. Printed by gen_law.py, a program of this session. -/
import Derived.Test.YtildfjlekplgjaaR5
import Derived.Deep.RegionHeld3
namespace Go.Proofs.Ytildfjlekplgjaa
open Go.RowKit
set_option linter.unusedSimpArgs false
set_option linter.unusedVariables false

set_option maxRecDepth 100000 in
set_option maxHeartbeats 8000000 in
theorem FreshId_walk (w : World) (A_P0_1 : Option Addr) (c_P0_1 : Nat) (x0 : List Int) (F_P0_1 : List Nat) (s_P0_1 : (Rep.int .i64).sl w A_P0_1 c_P0_1 x0 F_P0_1) (A_P1_1 : Option Addr) (c_P1_1 : Nat) (x1 : List DHold) (F_P1_1 : List Nat) (s_P1_1 : Rep.Hold.sl w A_P1_1 c_P1_1 x1 F_P1_1) (A_P2_1 : Option Addr) (c_P2_1 : Nat) (x2 : List DLock) (F_P2_1 : List Nat) (s_P2_1 : Rep.Lock.sl w A_P2_1 c_P2_1 x2 F_P2_1) (x3 : Int) (e3 : (Lit.int .i64 x3).wf = true) (x4 : Int) (e4 : (Lit.int .i64 x4).wf = true) :
    Calls Try.prog 7 #[.slice A_P0_1 x0.length c_P0_1, .slice A_P1_1 x1.length c_P1_1, .slice A_P2_1 x2.length c_P2_1, .int .i64 x3, .int .i64 x4] w fun e w' => e = .returned (.bool true) ∧ Ext w w' := by
  have LT_P0 : Hid (∀ b ∈ F_P0_1, b < w.heap.size) := fun b hb => Rep.sl_lt s_P0_1 b hb
  have LT_P1 : Hid (∀ b ∈ F_P1_1, b < w.heap.size) := fun b hb => Rep.sl_lt s_P1_1 b hb
  have LT_P2 : Hid (∀ b ∈ F_P2_1, b < w.heap.size) := fun b hb => Rep.sl_lt s_P2_1 b hb
  show Calls _ _ #[_, _, _, _, _] _ _
  go_enter Try.func7, Try.ntmps7
  have E_B_0 := Lib.hid (Only.refl [] w)
  have E_P0_0 := Lib.hid (Only.refl [] w)
  have E_P1_0 := Lib.hid (Only.refl [] w)
  have E_P2_0 := Lib.hid (Only.refl [] w)
  have hm0 := s_P0_1.1
  have hM0 := s_P0_1.2.1
  unfold maxLen at hM0
  by_cases hl0 : (1048576 : Int) < x0.length
  · go_wp2_with fail
    go_ret
    exact ⟨rfl, (E_B_0.out)⟩
  have h_aLengths : x0.length ≤ 1048576 := by omega
  clear hm0 hM0
  go_wp2_with fail
  refine (szHoldS_calls _ _ _ _ _ (by omega) (by omega) (Nat.le_trans s_P1_1.1 s_P1_1.2.1)).mono ?_
  rintro e w1 ⟨⟨l1, rfl, hr⟩, hO⟩
  have SZ_1 : Hid (w.heap.size + 0 ≤ w1.heap.size) := by have := Only.size hO; (try simp at this); exact (by omega : w.heap.size + 0 ≤ w1.heap.size)
  have E_B_1 := Lib.hid (Only.ext (E_B_0.out) hO)
  have E_P0_1 := Lib.hid (Only.ext (E_P0_0.out) hO)
  have E_P1_1 := Lib.hid (Only.ext (E_P1_0.out) hO)
  have E_P2_1 := Lib.hid (Only.ext (E_P2_0.out) hO)
  clear E_B_0 E_P0_0 E_P1_0 E_P2_0
  clear hO
  rcases hr with rfl | ⟨hr0, hr1⟩
  · go_wp2_with fail
    go_ret
    exact ⟨rfl, (E_B_1.out)⟩
  have h_aHolds : x1.length ≤ 1048576 := by omega
  have hq0_l1 : 0 ≤ l1 := hr0
  have hq1_l1 : l1 ≤ 1048576 := by omega
  clear hr0 hr1
  go_wp2_with fail
  refine (szLockS_calls _ _ _ _ _ (by omega) (by omega) (Nat.le_trans s_P2_1.1 s_P2_1.2.1)).mono ?_
  rintro e w2 ⟨⟨l2, rfl, hr⟩, hO⟩
  have SZ_2 : Hid (w1.heap.size + 0 ≤ w2.heap.size) := by have := Only.size hO; (try simp at this); exact (by omega : w1.heap.size + 0 ≤ w2.heap.size)
  have E_B_2 := Lib.hid (Only.ext (E_B_1.out) hO)
  have E_P0_2 := Lib.hid (Only.ext (E_P0_1.out) hO)
  have E_P1_2 := Lib.hid (Only.ext (E_P1_1.out) hO)
  have E_P2_2 := Lib.hid (Only.ext (E_P2_1.out) hO)
  clear E_B_1 E_P0_1 E_P1_1 E_P2_1
  clear hO
  rcases hr with rfl | ⟨hr0, hr1⟩
  · go_wp2_with fail
    go_ret
    exact ⟨rfl, (E_B_2.out)⟩
  have h_aLocks : x2.length ≤ 1048576 := by omega
  have hq0_l2 : 0 ≤ l2 := hr0
  have hq1_l2 : l2 ≤ 1048576 := by omega
  clear hr0 hr1
  go_wp2_with fail
  refine (toInt64S_calls _ _ _ _ _ (Rep.sl_ext s_P0_1 (E_P0_2.out)) (by omega)).mono ?_
  rintro e w3 ⟨v_T0w0, F_T0w0_1, rfl, hV, hN⟩
  obtain ⟨A_T0w0_1, c_T0w0_1, rfl, s_T0w0_1⟩ := Rep.slice_V hV
  have LT_T0w0 : Hid (∀ b ∈ F_T0w0_1, b < w3.heap.size) := (fun b hb => Rep.sl_lt s_T0w0_1 b hb)
  have GE_T0w0 : Hid (∀ b ∈ F_T0w0_1, w2.heap.size + 0 ≤ b) := by
    have h : ∀ b ∈ F_T0w0_1, _ := hN.new
    try simp only [World.alloc, Array.size_push] at h
    exact h
  have U_T0w0 := Lib.hid hN.unfr
  have ND_T0w0 := Lib.hid hN.nodup
  have SZ_3 : Hid (w2.heap.size + 0 ≤ w3.heap.size) := by have := Only.size hN.ext; (try simp at this); exact (by omega : w2.heap.size + 0 ≤ w3.heap.size)
  have E_B_3 := Lib.hid (Only.ext (E_B_2.out) hN.ext)
  have E_P0_3 := Lib.hid (Only.ext (E_P0_2.out) hN.ext)
  have E_P1_3 := Lib.hid (Only.ext (E_P1_2.out) hN.ext)
  have E_P2_3 := Lib.hid (Only.ext (E_P2_2.out) hN.ext)
  clear E_B_2 E_P0_2 E_P1_2 E_P2_2
  clear hN
  have E_T0w0_3 := Lib.hid (Only.refl [] w3)
  go_wp2_with fail
  refine (toHoldS_calls _ _ _ _ _ (Rep.sl_ext s_P1_1 (E_P1_3.out)) h_aHolds).mono ?_
  rintro e w4 ⟨v_T1w0, F_T1w0_1, rfl, hV, hN⟩
  obtain ⟨A_T1w0_1, c_T1w0_1, rfl, s_T1w0_1⟩ := Rep.slice_V hV
  have LT_T1w0 : Hid (∀ b ∈ F_T1w0_1, b < w4.heap.size) := (fun b hb => Rep.sl_lt s_T1w0_1 b hb)
  have GE_T1w0 : Hid (∀ b ∈ F_T1w0_1, w3.heap.size + 0 ≤ b) := by
    have h : ∀ b ∈ F_T1w0_1, _ := hN.new
    try simp only [World.alloc, Array.size_push] at h
    exact h
  have U_T1w0 := Lib.hid hN.unfr
  have ND_T1w0 := Lib.hid hN.nodup
  have SZ_4 : Hid (w3.heap.size + 0 ≤ w4.heap.size) := by have := Only.size hN.ext; (try simp at this); exact (by omega : w3.heap.size + 0 ≤ w4.heap.size)
  have E_B_4 := Lib.hid (Only.ext (E_B_3.out) hN.ext)
  have E_P0_4 := Lib.hid (Only.ext (E_P0_3.out) hN.ext)
  have E_P1_4 := Lib.hid (Only.ext (E_P1_3.out) hN.ext)
  have E_P2_4 := Lib.hid (Only.ext (E_P2_3.out) hN.ext)
  have E_T0w0_4 := Lib.hid (Only.ext (E_T0w0_3.out) hN.ext)
  clear E_B_3 E_P0_3 E_P1_3 E_P2_3 E_T0w0_3
  clear hN
  have E_T1w0_4 := Lib.hid (Only.refl [] w4)
  go_wp2_with fail
  refine (toLockS_calls _ _ _ _ _ (Rep.sl_ext s_P2_1 (E_P2_4.out)) h_aLocks).mono ?_
  rintro e w5 ⟨v_T2w0, F_T2w0_1, rfl, hV, hN⟩
  obtain ⟨A_T2w0_1, c_T2w0_1, rfl, s_T2w0_1⟩ := Rep.slice_V hV
  have LT_T2w0 : Hid (∀ b ∈ F_T2w0_1, b < w5.heap.size) := (fun b hb => Rep.sl_lt s_T2w0_1 b hb)
  have GE_T2w0 : Hid (∀ b ∈ F_T2w0_1, w4.heap.size + 0 ≤ b) := by
    have h : ∀ b ∈ F_T2w0_1, _ := hN.new
    try simp only [World.alloc, Array.size_push] at h
    exact h
  have U_T2w0 := Lib.hid hN.unfr
  have ND_T2w0 := Lib.hid hN.nodup
  have SZ_5 : Hid (w4.heap.size + 0 ≤ w5.heap.size) := by have := Only.size hN.ext; (try simp at this); exact (by omega : w4.heap.size + 0 ≤ w5.heap.size)
  have E_B_5 := Lib.hid (Only.ext (E_B_4.out) hN.ext)
  have E_P0_5 := Lib.hid (Only.ext (E_P0_4.out) hN.ext)
  have E_P1_5 := Lib.hid (Only.ext (E_P1_4.out) hN.ext)
  have E_P2_5 := Lib.hid (Only.ext (E_P2_4.out) hN.ext)
  have E_T0w0_5 := Lib.hid (Only.ext (E_T0w0_4.out) hN.ext)
  have E_T1w0_5 := Lib.hid (Only.ext (E_T1w0_4.out) hN.ext)
  clear E_B_4 E_P0_4 E_P1_4 E_P2_4 E_T0w0_4 E_T1w0_4
  clear hN
  have E_T2w0_5 := Lib.hid (Only.refl [] w5)
  go_wp2_with fail
  refine (specFreshId_calls _ _ _ x0 _ (Rep.sl_ext s_T0w0_1 (E_T0w0_5.out)) _ _ x1 _ (Rep.sl_ext s_T1w0_1 (E_T1w0_5.out)) _ _ x2 _ (Rep.sl_ext s_T2w0_1 (E_T2w0_5.out)) x3 e3 x4 e4 h_aLengths h_aHolds h_aLocks).mono ?_
  rintro e w6 ⟨rfl, hO⟩
  generalize hR : freshId x0 x1 x2 x3 x4 = R
  have HR := Lib.hid hR
  clear hR
  have SZ_6 : Hid (w5.heap.size + 0 ≤ w6.heap.size) := by have := Only.size hO; (try simp at this); exact (by omega : w5.heap.size + 0 ≤ w6.heap.size)
  have E_B_6 := Lib.hid (Only.ext (E_B_5.out) hO)
  have E_P0_6 := Lib.hid (Only.ext (E_P0_5.out) hO)
  have E_P1_6 := Lib.hid (Only.ext (E_P1_5.out) hO)
  have E_P2_6 := Lib.hid (Only.ext (E_P2_5.out) hO)
  have E_T0w0_6 := Lib.hid (Only.ext (E_T0w0_5.out) hO)
  have E_T1w0_6 := Lib.hid (Only.ext (E_T1w0_5.out) hO)
  have E_T2w0_6 := Lib.hid (Only.ext (E_T2w0_5.out) hO)
  clear E_B_5 E_P0_5 E_P1_5 E_P2_5 E_T0w0_5 E_T1w0_5 E_T2w0_5
  clear hO
  clear E_T0w0_6
  clear E_T1w0_6
  clear E_T2w0_6
  go_wp2_with fail
  refine (toInt64S_calls _ _ _ _ _ (Rep.sl_ext s_P0_1 (E_P0_6.out)) (by omega)).mono ?_
  rintro e w7 ⟨v_X0, F_X0_1, rfl, hV, hN⟩
  obtain ⟨A_X0_1, c_X0_1, rfl, s_X0_1⟩ := Rep.slice_V hV
  have LT_X0 : Hid (∀ b ∈ F_X0_1, b < w7.heap.size) := (fun b hb => Rep.sl_lt s_X0_1 b hb)
  have GE_X0 : Hid (∀ b ∈ F_X0_1, w6.heap.size + 0 ≤ b) := by
    have h : ∀ b ∈ F_X0_1, _ := hN.new
    try simp only [World.alloc, Array.size_push] at h
    exact h
  have U_X0 := Lib.hid hN.unfr
  have ND_X0 := Lib.hid hN.nodup
  have SZ_7 : Hid (w6.heap.size + 0 ≤ w7.heap.size) := by have := Only.size hN.ext; (try simp at this); exact (by omega : w6.heap.size + 0 ≤ w7.heap.size)
  have E_B_7 := Lib.hid (Only.ext (E_B_6.out) hN.ext)
  have E_P0_7 := Lib.hid (Only.ext (E_P0_6.out) hN.ext)
  have E_P1_7 := Lib.hid (Only.ext (E_P1_6.out) hN.ext)
  have E_P2_7 := Lib.hid (Only.ext (E_P2_6.out) hN.ext)
  clear E_B_6 E_P0_6 E_P1_6 E_P2_6
  clear hN
  have E_X0_7 := Lib.hid (Only.refl [] w7)
  go_wp2_with fail
  refine (toHoldS_calls _ _ _ _ _ (Rep.sl_ext s_P1_1 (E_P1_7.out)) h_aHolds).mono ?_
  rintro e w8 ⟨v_X1, F_X1_1, rfl, hV, hN⟩
  obtain ⟨A_X1_1, c_X1_1, rfl, s_X1_1⟩ := Rep.slice_V hV
  have LT_X1 : Hid (∀ b ∈ F_X1_1, b < w8.heap.size) := (fun b hb => Rep.sl_lt s_X1_1 b hb)
  have GE_X1 : Hid (∀ b ∈ F_X1_1, w7.heap.size + 0 ≤ b) := by
    have h : ∀ b ∈ F_X1_1, _ := hN.new
    try simp only [World.alloc, Array.size_push] at h
    exact h
  have U_X1 := Lib.hid hN.unfr
  have ND_X1 := Lib.hid hN.nodup
  have SZ_8 : Hid (w7.heap.size + 0 ≤ w8.heap.size) := by have := Only.size hN.ext; (try simp at this); exact (by omega : w7.heap.size + 0 ≤ w8.heap.size)
  have E_B_8 := Lib.hid (Only.ext (E_B_7.out) hN.ext)
  have E_P0_8 := Lib.hid (Only.ext (E_P0_7.out) hN.ext)
  have E_P1_8 := Lib.hid (Only.ext (E_P1_7.out) hN.ext)
  have E_P2_8 := Lib.hid (Only.ext (E_P2_7.out) hN.ext)
  have E_X0_8 := Lib.hid (Only.ext (E_X0_7.out) hN.ext)
  clear E_B_7 E_P0_7 E_P1_7 E_P2_7 E_X0_7
  clear hN
  have E_X1_8 := Lib.hid (Only.refl [] w8)
  go_wp2_with fail
  refine (toLockS_calls _ _ _ _ _ (Rep.sl_ext s_P2_1 (E_P2_8.out)) h_aLocks).mono ?_
  rintro e w9 ⟨v_X2, F_X2_1, rfl, hV, hN⟩
  obtain ⟨A_X2_1, c_X2_1, rfl, s_X2_1⟩ := Rep.slice_V hV
  have LT_X2 : Hid (∀ b ∈ F_X2_1, b < w9.heap.size) := (fun b hb => Rep.sl_lt s_X2_1 b hb)
  have GE_X2 : Hid (∀ b ∈ F_X2_1, w8.heap.size + 0 ≤ b) := by
    have h : ∀ b ∈ F_X2_1, _ := hN.new
    try simp only [World.alloc, Array.size_push] at h
    exact h
  have U_X2 := Lib.hid hN.unfr
  have ND_X2 := Lib.hid hN.nodup
  have SZ_9 : Hid (w8.heap.size + 0 ≤ w9.heap.size) := by have := Only.size hN.ext; (try simp at this); exact (by omega : w8.heap.size + 0 ≤ w9.heap.size)
  have E_B_9 := Lib.hid (Only.ext (E_B_8.out) hN.ext)
  have E_P0_9 := Lib.hid (Only.ext (E_P0_8.out) hN.ext)
  have E_P1_9 := Lib.hid (Only.ext (E_P1_8.out) hN.ext)
  have E_P2_9 := Lib.hid (Only.ext (E_P2_8.out) hN.ext)
  have E_X0_9 := Lib.hid (Only.ext (E_X0_8.out) hN.ext)
  have E_X1_9 := Lib.hid (Only.ext (E_X1_8.out) hN.ext)
  clear E_B_8 E_P0_8 E_P1_8 E_P2_8 E_X0_8 E_X1_8
  clear hN
  have E_X2_9 := Lib.hid (Only.refl [] w9)
  go_wp2_with fail
  refine (implFreshId_calls _ _ _ x0 _ (Rep.sl_ext s_X0_1 (E_X0_9.out)) _ _ x1 _ (Rep.sl_ext s_X1_1 (E_X1_9.out)) _ _ x2 _ (Rep.sl_ext s_X2_1 (E_X2_9.out)) x3 e3 x4 e4 h_aLengths h_aHolds h_aLocks).mono ?_
  rintro e w10 ⟨rfl, hO⟩
  rw [HR.out]
  have SZ_10 : Hid (w9.heap.size + 0 ≤ w10.heap.size) := by have := Only.size hO; (try simp at this); exact (by omega : w9.heap.size + 0 ≤ w10.heap.size)
  have E_B_10 := Lib.hid (Only.ext (E_B_9.out) hO)
  have E_P0_10 := Lib.hid (Only.ext (E_P0_9.out) hO)
  have E_P1_10 := Lib.hid (Only.ext (E_P1_9.out) hO)
  have E_P2_10 := Lib.hid (Only.ext (E_P2_9.out) hO)
  have E_X0_10 := Lib.hid (Only.ext (E_X0_9.out) hO)
  have E_X1_10 := Lib.hid (Only.ext (E_X1_9.out) hO)
  have E_X2_10 := Lib.hid (Only.ext (E_X2_9.out) hO)
  clear E_B_9 E_P0_9 E_P1_9 E_P2_9 E_X0_9 E_X1_9 E_X2_9
  clear hO
  go_wp2_with fail
  refine (toInt64S_calls _ _ _ _ _ (Rep.sl_ext s_P0_1 (E_P0_10.out)) (by omega)).mono ?_
  rintro e w11 ⟨v_C10, F_C10_1, rfl, hV, hN⟩
  obtain ⟨A_C10_1, c_C10_1, rfl, s_C10_1⟩ := Rep.slice_V hV
  have LT_C10 : Hid (∀ b ∈ F_C10_1, b < w11.heap.size) := (fun b hb => Rep.sl_lt s_C10_1 b hb)
  have GE_C10 : Hid (∀ b ∈ F_C10_1, w10.heap.size + 0 ≤ b) := by
    have h : ∀ b ∈ F_C10_1, _ := hN.new
    try simp only [World.alloc, Array.size_push] at h
    exact h
  have U_C10 := Lib.hid hN.unfr
  have ND_C10 := Lib.hid hN.nodup
  have SZ_11 : Hid (w10.heap.size + 0 ≤ w11.heap.size) := by have := Only.size hN.ext; (try simp at this); exact (by omega : w10.heap.size + 0 ≤ w11.heap.size)
  have E_B_11 := Lib.hid (Only.ext (E_B_10.out) hN.ext)
  have E_P0_11 := Lib.hid (Only.ext (E_P0_10.out) hN.ext)
  have E_P1_11 := Lib.hid (Only.ext (E_P1_10.out) hN.ext)
  have E_P2_11 := Lib.hid (Only.ext (E_P2_10.out) hN.ext)
  have E_X0_11 := Lib.hid (Only.ext (E_X0_10.out) hN.ext)
  have E_X1_11 := Lib.hid (Only.ext (E_X1_10.out) hN.ext)
  have E_X2_11 := Lib.hid (Only.ext (E_X2_10.out) hN.ext)
  clear E_B_10 E_P0_10 E_P1_10 E_P2_10 E_X0_10 E_X1_10 E_X2_10
  clear hN
  have E_C10_11 := Lib.hid (Only.refl [] w11)
  go_wp2_with fail
  refine (eqInt64S_calls _ _ _ _ _ _ _ _ _ (Rep.sl_ext s_X0_1 (E_X0_11.out)) (Rep.sl_ext s_C10_1 (E_C10_11.out))).mono ?_
  rintro e w12 ⟨rfl, hO⟩
  rw [show decide (x0 = x0) = true from decide_eq_true rfl]
  have SZ_12 : Hid (w11.heap.size + 0 ≤ w12.heap.size) := by have := Only.size hO; (try simp at this); exact (by omega : w11.heap.size + 0 ≤ w12.heap.size)
  have E_B_12 := Lib.hid (Only.ext (E_B_11.out) hO)
  have E_P0_12 := Lib.hid (Only.ext (E_P0_11.out) hO)
  have E_P1_12 := Lib.hid (Only.ext (E_P1_11.out) hO)
  have E_P2_12 := Lib.hid (Only.ext (E_P2_11.out) hO)
  have E_X0_12 := Lib.hid (Only.ext (E_X0_11.out) hO)
  have E_X1_12 := Lib.hid (Only.ext (E_X1_11.out) hO)
  have E_X2_12 := Lib.hid (Only.ext (E_X2_11.out) hO)
  have E_C10_12 := Lib.hid (Only.ext (E_C10_11.out) hO)
  clear E_B_11 E_P0_11 E_P1_11 E_P2_11 E_X0_11 E_X1_11 E_X2_11 E_C10_11
  clear hO
  clear E_C10_12
  go_wp2_with fail
  refine (toHoldS_calls _ _ _ _ _ (Rep.sl_ext s_P1_1 (E_P1_12.out)) h_aHolds).mono ?_
  rintro e w13 ⟨v_C12, F_C12_1, rfl, hV, hN⟩
  obtain ⟨A_C12_1, c_C12_1, rfl, s_C12_1⟩ := Rep.slice_V hV
  have LT_C12 : Hid (∀ b ∈ F_C12_1, b < w13.heap.size) := (fun b hb => Rep.sl_lt s_C12_1 b hb)
  have GE_C12 : Hid (∀ b ∈ F_C12_1, w12.heap.size + 0 ≤ b) := by
    have h : ∀ b ∈ F_C12_1, _ := hN.new
    try simp only [World.alloc, Array.size_push] at h
    exact h
  have U_C12 := Lib.hid hN.unfr
  have ND_C12 := Lib.hid hN.nodup
  have SZ_13 : Hid (w12.heap.size + 0 ≤ w13.heap.size) := by have := Only.size hN.ext; (try simp at this); exact (by omega : w12.heap.size + 0 ≤ w13.heap.size)
  have E_B_13 := Lib.hid (Only.ext (E_B_12.out) hN.ext)
  have E_P0_13 := Lib.hid (Only.ext (E_P0_12.out) hN.ext)
  have E_P1_13 := Lib.hid (Only.ext (E_P1_12.out) hN.ext)
  have E_P2_13 := Lib.hid (Only.ext (E_P2_12.out) hN.ext)
  have E_X0_13 := Lib.hid (Only.ext (E_X0_12.out) hN.ext)
  have E_X1_13 := Lib.hid (Only.ext (E_X1_12.out) hN.ext)
  have E_X2_13 := Lib.hid (Only.ext (E_X2_12.out) hN.ext)
  clear E_B_12 E_P0_12 E_P1_12 E_P2_12 E_X0_12 E_X1_12 E_X2_12
  clear hN
  have E_C12_13 := Lib.hid (Only.refl [] w13)
  go_wp2_with fail
  refine (eqHoldS_calls _ _ _ _ _ _ _ _ _ (Rep.sl_ext s_X1_1 (E_X1_13.out)) (Rep.sl_ext s_C12_1 (E_C12_13.out))).mono ?_
  rintro e w14 ⟨rfl, hO⟩
  rw [show decide (x1 = x1) = true from decide_eq_true rfl]
  have SZ_14 : Hid (w13.heap.size + 0 ≤ w14.heap.size) := by have := Only.size hO; (try simp at this); exact (by omega : w13.heap.size + 0 ≤ w14.heap.size)
  have E_B_14 := Lib.hid (Only.ext (E_B_13.out) hO)
  have E_P0_14 := Lib.hid (Only.ext (E_P0_13.out) hO)
  have E_P1_14 := Lib.hid (Only.ext (E_P1_13.out) hO)
  have E_P2_14 := Lib.hid (Only.ext (E_P2_13.out) hO)
  have E_X0_14 := Lib.hid (Only.ext (E_X0_13.out) hO)
  have E_X1_14 := Lib.hid (Only.ext (E_X1_13.out) hO)
  have E_X2_14 := Lib.hid (Only.ext (E_X2_13.out) hO)
  have E_C12_14 := Lib.hid (Only.ext (E_C12_13.out) hO)
  clear E_B_13 E_P0_13 E_P1_13 E_P2_13 E_X0_13 E_X1_13 E_X2_13 E_C12_13
  clear hO
  clear E_C12_14
  go_wp2_with fail
  refine (toLockS_calls _ _ _ _ _ (Rep.sl_ext s_P2_1 (E_P2_14.out)) h_aLocks).mono ?_
  rintro e w15 ⟨v_C14, F_C14_1, rfl, hV, hN⟩
  obtain ⟨A_C14_1, c_C14_1, rfl, s_C14_1⟩ := Rep.slice_V hV
  have LT_C14 : Hid (∀ b ∈ F_C14_1, b < w15.heap.size) := (fun b hb => Rep.sl_lt s_C14_1 b hb)
  have GE_C14 : Hid (∀ b ∈ F_C14_1, w14.heap.size + 0 ≤ b) := by
    have h : ∀ b ∈ F_C14_1, _ := hN.new
    try simp only [World.alloc, Array.size_push] at h
    exact h
  have U_C14 := Lib.hid hN.unfr
  have ND_C14 := Lib.hid hN.nodup
  have SZ_15 : Hid (w14.heap.size + 0 ≤ w15.heap.size) := by have := Only.size hN.ext; (try simp at this); exact (by omega : w14.heap.size + 0 ≤ w15.heap.size)
  have E_B_15 := Lib.hid (Only.ext (E_B_14.out) hN.ext)
  have E_P0_15 := Lib.hid (Only.ext (E_P0_14.out) hN.ext)
  have E_P1_15 := Lib.hid (Only.ext (E_P1_14.out) hN.ext)
  have E_P2_15 := Lib.hid (Only.ext (E_P2_14.out) hN.ext)
  have E_X0_15 := Lib.hid (Only.ext (E_X0_14.out) hN.ext)
  have E_X1_15 := Lib.hid (Only.ext (E_X1_14.out) hN.ext)
  have E_X2_15 := Lib.hid (Only.ext (E_X2_14.out) hN.ext)
  clear E_B_14 E_P0_14 E_P1_14 E_P2_14 E_X0_14 E_X1_14 E_X2_14
  clear hN
  have E_C14_15 := Lib.hid (Only.refl [] w15)
  go_wp2_with fail
  refine (eqLockS_calls _ _ _ _ _ _ _ _ _ (Rep.sl_ext s_X2_1 (E_X2_15.out)) (Rep.sl_ext s_C14_1 (E_C14_15.out))).mono ?_
  rintro e w16 ⟨rfl, hO⟩
  rw [show decide (x2 = x2) = true from decide_eq_true rfl]
  have SZ_16 : Hid (w15.heap.size + 0 ≤ w16.heap.size) := by have := Only.size hO; (try simp at this); exact (by omega : w15.heap.size + 0 ≤ w16.heap.size)
  have E_B_16 := Lib.hid (Only.ext (E_B_15.out) hO)
  have E_P0_16 := Lib.hid (Only.ext (E_P0_15.out) hO)
  have E_P1_16 := Lib.hid (Only.ext (E_P1_15.out) hO)
  have E_P2_16 := Lib.hid (Only.ext (E_P2_15.out) hO)
  have E_X0_16 := Lib.hid (Only.ext (E_X0_15.out) hO)
  have E_X1_16 := Lib.hid (Only.ext (E_X1_15.out) hO)
  have E_X2_16 := Lib.hid (Only.ext (E_X2_15.out) hO)
  have E_C14_16 := Lib.hid (Only.ext (E_C14_15.out) hO)
  clear E_B_15 E_P0_15 E_P1_15 E_P2_15 E_X0_15 E_X1_15 E_X2_15 E_C14_15
  clear hO
  clear E_C14_16
  go_wp2_with fail
  go_ret
  exact ⟨rfl, (E_B_16.out)⟩
end Go.Proofs.Ytildfjlekplgjaa
