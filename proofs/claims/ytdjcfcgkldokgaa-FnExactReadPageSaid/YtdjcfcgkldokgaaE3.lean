/- Geometries: both packages. -/
import Derived.Test.YtdjcfcgkldokgaaE0
import Derived.Test.YtdjcfcgkldokgaaFGeometry
import Derived.Test.YtdjcfcgkldokgaaD15
namespace Go.Proofs.Ytdjcfcgkldokgaa
open Go.RowKit
set_option linter.unusedSimpArgs false
set_option linter.unusedVariables false
def minLog (p : Int) : Int := if inR p 1 16 = true then 9 * p + 24 else -1
def geoFault (g : DGeometry) : Int := if inR g.Pages 1 16 = false then 1 else if inR g.Frames 3 16 = false then 2 else if inR g.LogSectors (9 * g.Pages + 24) 800 = false then 3 else 0
def diskSectors (g : DGeometry) : Int := if geoFault g = 0 then 2 + g.LogSectors + 8 * g.Pages else -1
def pageSector (g : DGeometry) (p : Int) : Int := if geoFault g = 0 ∧ inR p 0 (g.Pages - 1) = true then 2 + g.LogSectors + 8 * p else -1
theorem geoFault_room {g : DGeometry} (h : geoFault g = 0) : 1 ≤ g.Pages ∧ g.Pages ≤ 16 ∧ 33 ≤ g.LogSectors ∧ g.LogSectors ≤ 800 := by
  unfold geoFault at h
  split at h
  · cases h
  rename_i h1
  split at h
  · cases h
  split at h
  · cases h
  rename_i h3
  have h1 := inR_iff.1 (by simpa using h1)
  have h3 := inR_iff.1 (by simpa using h3)
  omega
set_option maxRecDepth 100000 in
theorem specMinLog_calls (p : Int) (w : World) : Calls Try.prog 102 #[.int .i64 p] w fun e w' => e = .returned (.int .i64 (minLog p)) ∧ w = w' := by
  cases h1 : inR p 1 16
  · go_enter Try.func102, Try.ntmps102
    go_wp2_with (go_at_call 80; refine (specIn_calls _ _ _ _).mono ?_; rintro e w1 ⟨rfl, rfl⟩)
    go_ret
    exact ⟨by rw [minLog, if_neg (by rw [h1]; simp)]; rfl, rfl⟩
  · have g1 := inR_iff.1 h1
    go_enter Try.func102, Try.ntmps102
    go_wp2_with (go_at_call 80; refine (specIn_calls _ _ _ _).mono ?_; rintro e w1 ⟨rfl, rfl⟩)
    go_ret
    exact ⟨by rw [minLog, if_pos h1]; first | rfl | exact congrArg (fun x => Ending.returned (.int .i64 x)) (by unfold wrap64; omega), rfl⟩
set_option maxRecDepth 100000 in
set_option maxHeartbeats 1000000 in
theorem specFault_calls (g : DGeometry) (w : World) : Calls Try.prog 97 #[.agg #[.int .i64 g.Pages, .int .i64 g.Frames, .int .i64 g.LogSectors]] w fun e w' => e = .returned (.int .i64 (geoFault g)) ∧ Ext w w' := by
  have hu := Try.underlying75
  have hEA := alloc_ext w (.cells #[.int .i64 g.Pages, .int .i64 g.Frames, .int .i64 g.LogSectors] 75)
  have m0 := fun o => cell_of_row _ _ o _ _ _ (heap_alloc_new w (.cells #[.int .i64 g.Pages, .int .i64 g.Frames, .int .i64 g.LogSectors] 75))
  have HEA := Lib.hid hEA
  clear hEA
  cases h1 : inR g.Pages 1 16
  · go_enter Try.func97, Try.ntmps97
    go_wp2_with (go_at_call 80; refine (specIn_calls _ _ _ _).mono ?_; rintro e w1 ⟨rfl, rfl⟩)
    go_ret
    exact ⟨by rw [geoFault, if_pos h1]; rfl, HEA.out⟩
  cases h2 : inR g.Frames 3 16
  · go_enter Try.func97, Try.ntmps97
    go_wp2_with (go_at_call 80; refine (specIn_calls _ _ _ _).mono ?_; rintro e w1 ⟨rfl, rfl⟩)
    go_ret
    exact ⟨by rw [geoFault, if_neg (by rw [h1]; simp), if_pos h2]; rfl, HEA.out⟩
  have hml : minLog g.Pages = 9 * g.Pages + 24 := if_pos h1
  obtain ⟨b, hb⟩ : ∃ b, b = inR g.LogSectors (9 * g.Pages + 24) 800 := ⟨_, rfl⟩
  have hf : geoFault g = if b = false then 3 else 0 := by rw [geoFault, if_neg (by rw [h1]; simp), if_neg (by rw [h2]; simp), hb]
  have HF := Lib.hid hf; have HB := Lib.hid hb; have HML := Lib.hid hml
  clear hf hb hml
  go_enter Try.func97, Try.ntmps97
  go_wp2_with (first | (go_at_call 80; refine (specIn_calls _ _ _ _).mono ?_; rintro e w1 ⟨rfl, rfl⟩) | fail)
  generalize (w.alloc (.cells #[.int .i64 g.Pages, .int .i64 g.Frames, .int .i64 g.LogSectors] 75)) = W0 at *
  have e1 : W0.cell? ⟨w.heap.size, 0, none⟩ = some (.int .i64 g.Pages) := m0 0
  have e2 : W0.cell? ⟨w.heap.size, 2, none⟩ = some (.int .i64 g.LogSectors) := m0 2
  clear m0
  refine wp_region_ext (by kernel_rfl) (by kernel_rfl) ?_
  repeat (first
    | (refine BigFrame.wpQuiet_skip (by rfl) ?_
       try simp only [Act.put, List.setIfInBounds_toArray, List.set_cons_zero, List.set_cons_succ])
    | (refine quiet_take ?_ (by rfl) (fun w' hw => ?_) ?_
       rotate_left
       · have c1 := hw.ecell e1
         have c2 := hw.ecell e2
         unfold Oper.quietAt
         go_simp
         first
           | done
           | exact ⟨rfl, rfl⟩
           | exact rfl
       try simp only [Act.put, List.setIfInBounds_toArray, List.set_cons_zero, List.set_cons_succ])
    | (refine quiet_take (.int .i64 (9 * g.Pages + 24)) (by rfl) (fun w' hw => ?_) ?_
       · unfold Oper.quietAt
         go_simp
         exact ((specMinLog_calls g.Pages w').mono (fun e w5 h5 => ⟨by rw [h5.1, HML.out], by rw [← h5.2]; exact hw⟩))
       try simp only [Act.put, List.setIfInBounds_toArray, List.set_cons_zero, List.set_cons_succ])
    | (refine quiet_take (.bool b) (by rfl) (fun w' hw => ?_) ?_
       · unfold Oper.quietAt
         go_simp
         exact ((specIn_calls g.LogSectors (9 * g.Pages + 24) 800 w').mono (fun e w5 h5 => ⟨by rw [h5.1, HB.out], by rw [← h5.2]; exact hw⟩))
       try simp only [Act.put, List.setIfInBounds_toArray, List.set_cons_zero, List.set_cons_succ]))
  refine wpQuiet_nil ?_
  intro w2 hw2
  have HE2 := Lib.hid (HEA.out.ext hw2)
  clear hw2 e1 e2
  cases b
  · go_wp2
    go_ret
    exact ⟨by rw [HF.out]; rfl, HE2.out⟩
  · go_wp2
    go_ret
    exact ⟨by rw [HF.out]; rfl, HE2.out⟩
set_option maxRecDepth 100000 in
set_option maxHeartbeats 1000000 in
theorem specSectors_calls (g : DGeometry) (w : World) : Calls Try.prog 98 #[.agg #[.int .i64 g.Pages, .int .i64 g.Frames, .int .i64 g.LogSectors]] w fun e w' => e = .returned (.int .i64 (diskSectors g)) ∧ Ext w w' := by
  have hu := Try.underlying75
  have hEA := alloc_ext w (.cells #[.int .i64 g.Pages, .int .i64 g.Frames, .int .i64 g.LogSectors] 75)
  have hb0 := heap_alloc_new w (.cells #[.int .i64 g.Pages, .int .i64 g.Frames, .int .i64 g.LogSectors] 75)
  have m0 := fun o => cell_of_row _ _ o _ _ _ hb0
  have HEA := Lib.hid hEA; have HB0 := Lib.hid hb0
  clear hEA hb0
  obtain ⟨k, hk⟩ : ∃ k, k = geoFault g := ⟨_, rfl⟩
  have HK := Lib.hid hk
  go_enter Try.func98, Try.ntmps98
  go_wp2_with fail
  refine (specFault_calls g _).mono ?_
  rw [← hk]
  clear hk m0
  rintro e w1 ⟨rfl, hO⟩
  have hb1 := hO.heap HB0.out (by simp)
  have m1 := fun o => cell_of_row _ _ o _ _ _ hb1
  have HE1 := Lib.hid (HEA.out.ext hO)
  clear hO hb1
  by_cases h0 : k = 0
  · subst h0
    have hd : diskSectors g = 2 + g.LogSectors + 8 * g.Pages := if_pos HK.out.symm
    have hr := geoFault_room HK.out.symm
    go_wp2
    go_ret
    refine ⟨?_, HE1.out⟩
    rw [hd]
    first | rfl | exact congrArg (fun x => Ending.returned (.int .i64 x)) (by (try unfold wrap64); omega)
  · have hkn : (k != 0) = true := by simp [h0]
    have hd : diskSectors g = -1 := if_neg (by rw [← HK.out]; exact h0)
    clear h0
    go_wp2
    go_ret
    exact ⟨by rw [hd]; rfl, HE1.out⟩
set_option maxRecDepth 100000 in
set_option maxHeartbeats 1000000 in
theorem specPageSector_calls (g : DGeometry) (p : Int) (w : World) : Calls Try.prog 87 #[.agg #[.int .i64 g.Pages, .int .i64 g.Frames, .int .i64 g.LogSectors], .int .i64 p] w fun e w' => e = .returned (.int .i64 (pageSector g p)) ∧ Ext w w' := by
  have hu := Try.underlying75
  have hEA := alloc_ext w (.cells #[.int .i64 g.Pages, .int .i64 g.Frames, .int .i64 g.LogSectors] 75)
  have hb0 := heap_alloc_new w (.cells #[.int .i64 g.Pages, .int .i64 g.Frames, .int .i64 g.LogSectors] 75)
  have m0 := fun o => cell_of_row _ _ o _ _ _ hb0
  have HEA := Lib.hid hEA; have HB0 := Lib.hid hb0
  clear hEA hb0
  obtain ⟨k, hk⟩ : ∃ k, k = geoFault g := ⟨_, rfl⟩
  have HK := Lib.hid hk
  go_enter Try.func87, Try.ntmps87
  go_wp2_with fail
  refine (specFault_calls g _).mono ?_
  rw [← hk]
  clear hk m0
  rintro e w1 ⟨rfl, hO⟩
  have hb1 := hO.heap HB0.out (by simp)
  have m1 := fun o => cell_of_row _ _ o _ _ _ hb1
  have HE1 := Lib.hid (HEA.out.ext hO)
  clear hO hb1
  by_cases h0 : k = 0
  · subst h0
    have hr := geoFault_room HK.out.symm
    have hkn : ((0 : Int) != 0) = false := by simp
    cases hp : inR p 0 (g.Pages - 1)
    · have hd : pageSector g p = -1 := if_neg (fun h => by rw [hp] at h; exact absurd h.2 (by simp))
      go_wp2_with (go_at_call 80; refine (specIn_calls _ _ _ _).mono ?_; rintro e w1 ⟨rfl, rfl⟩)
      go_ret
      exact ⟨by rw [hd]; rfl, HE1.out⟩
    · have hd : pageSector g p = 2 + g.LogSectors + 8 * p := if_pos ⟨HK.out.symm, hp⟩
      have hp2 := inR_iff.1 hp
      go_wp2_with (go_at_call 80; refine (specIn_calls _ _ _ _).mono ?_; rintro e w1 ⟨rfl, rfl⟩)
      go_ret
      refine ⟨?_, HE1.out⟩
      rw [hd]
      first | rfl | exact congrArg (fun x => Ending.returned (.int .i64 x)) (by (try unfold wrap64); omega)
  · have hkn : (k != 0) = true := by simp [h0]
    have hd : pageSector g p = -1 := if_neg (by rw [← HK.out]; exact fun h => h0 h.1)
    clear h0
    go_wp2_with (go_at_call 80; refine (specIn_calls _ _ _ _).mono ?_; rintro e w1 ⟨rfl, rfl⟩)
    go_ret
    exact ⟨by rw [hd]; rfl, HE1.out⟩
set_option maxRecDepth 100000 in
theorem implMinLog_calls (p : Int) (w : World) : Calls Try.prog 103 #[.int .i64 p] w fun e w' => e = .returned (.int .i64 (minLog p)) ∧ w = w' := by
  cases h1 : inR p 1 16
  · go_enter Try.func103, Try.ntmps103
    go_wp2_with (go_at_call 84; refine (implIn_calls _ _ _ _).mono ?_; rintro e w1 ⟨rfl, rfl⟩)
    go_ret
    exact ⟨by rw [minLog, if_neg (by rw [h1]; simp)]; rfl, rfl⟩
  · have g1 := inR_iff.1 h1
    go_enter Try.func103, Try.ntmps103
    go_wp2_with (go_at_call 84; refine (implIn_calls _ _ _ _).mono ?_; rintro e w1 ⟨rfl, rfl⟩)
    go_ret
    exact ⟨by rw [minLog, if_pos h1]; first | rfl | exact congrArg (fun x => Ending.returned (.int .i64 x)) (by unfold wrap64; omega), rfl⟩
set_option maxRecDepth 100000 in
set_option maxHeartbeats 1000000 in
theorem implFault_calls (g : DGeometry) (w : World) : Calls Try.prog 99 #[.agg #[.int .i64 g.Pages, .int .i64 g.Frames, .int .i64 g.LogSectors]] w fun e w' => e = .returned (.int .i64 (geoFault g)) ∧ Ext w w' := by
  have hu := Try.underlying75
  have hEA := alloc_ext w (.cells #[.int .i64 g.Pages, .int .i64 g.Frames, .int .i64 g.LogSectors] 75)
  have m0 := fun o => cell_of_row _ _ o _ _ _ (heap_alloc_new w (.cells #[.int .i64 g.Pages, .int .i64 g.Frames, .int .i64 g.LogSectors] 75))
  have HEA := Lib.hid hEA
  clear hEA
  cases h1 : inR g.Pages 1 16
  · go_enter Try.func99, Try.ntmps99
    go_wp2_with (go_at_call 84; refine (implIn_calls _ _ _ _).mono ?_; rintro e w1 ⟨rfl, rfl⟩)
    go_ret
    exact ⟨by rw [geoFault, if_pos h1]; rfl, HEA.out⟩
  cases h2 : inR g.Frames 3 16
  · go_enter Try.func99, Try.ntmps99
    go_wp2_with (go_at_call 84; refine (implIn_calls _ _ _ _).mono ?_; rintro e w1 ⟨rfl, rfl⟩)
    go_ret
    exact ⟨by rw [geoFault, if_neg (by rw [h1]; simp), if_pos h2]; rfl, HEA.out⟩
  have hml : minLog g.Pages = 9 * g.Pages + 24 := if_pos h1
  obtain ⟨b, hb⟩ : ∃ b, b = inR g.LogSectors (9 * g.Pages + 24) 800 := ⟨_, rfl⟩
  have hf : geoFault g = if b = false then 3 else 0 := by rw [geoFault, if_neg (by rw [h1]; simp), if_neg (by rw [h2]; simp), hb]
  have HF := Lib.hid hf; have HB := Lib.hid hb; have HML := Lib.hid hml
  clear hf hb hml
  go_enter Try.func99, Try.ntmps99
  go_wp2_with (first | (go_at_call 84; refine (implIn_calls _ _ _ _).mono ?_; rintro e w1 ⟨rfl, rfl⟩) | fail)
  generalize (w.alloc (.cells #[.int .i64 g.Pages, .int .i64 g.Frames, .int .i64 g.LogSectors] 75)) = W0 at *
  have e1 : W0.cell? ⟨w.heap.size, 0, none⟩ = some (.int .i64 g.Pages) := m0 0
  have e2 : W0.cell? ⟨w.heap.size, 2, none⟩ = some (.int .i64 g.LogSectors) := m0 2
  clear m0
  refine wp_region_ext (by kernel_rfl) (by kernel_rfl) ?_
  repeat (first
    | (refine BigFrame.wpQuiet_skip (by rfl) ?_
       try simp only [Act.put, List.setIfInBounds_toArray, List.set_cons_zero, List.set_cons_succ])
    | (refine quiet_take ?_ (by rfl) (fun w' hw => ?_) ?_
       rotate_left
       · have c1 := hw.ecell e1
         have c2 := hw.ecell e2
         unfold Oper.quietAt
         go_simp
         first
           | done
           | exact ⟨rfl, rfl⟩
           | exact rfl
       try simp only [Act.put, List.setIfInBounds_toArray, List.set_cons_zero, List.set_cons_succ])
    | (refine quiet_take (.int .i64 (9 * g.Pages + 24)) (by rfl) (fun w' hw => ?_) ?_
       · unfold Oper.quietAt
         go_simp
         exact ((implMinLog_calls g.Pages w').mono (fun e w5 h5 => ⟨by rw [h5.1, HML.out], by rw [← h5.2]; exact hw⟩))
       try simp only [Act.put, List.setIfInBounds_toArray, List.set_cons_zero, List.set_cons_succ])
    | (refine quiet_take (.bool b) (by rfl) (fun w' hw => ?_) ?_
       · unfold Oper.quietAt
         go_simp
         exact ((implIn_calls g.LogSectors (9 * g.Pages + 24) 800 w').mono (fun e w5 h5 => ⟨by rw [h5.1, HB.out], by rw [← h5.2]; exact hw⟩))
       try simp only [Act.put, List.setIfInBounds_toArray, List.set_cons_zero, List.set_cons_succ]))
  refine wpQuiet_nil ?_
  intro w2 hw2
  have HE2 := Lib.hid (HEA.out.ext hw2)
  clear hw2 e1 e2
  cases b
  · go_wp2
    go_ret
    exact ⟨by rw [HF.out]; rfl, HE2.out⟩
  · go_wp2
    go_ret
    exact ⟨by rw [HF.out]; rfl, HE2.out⟩
set_option maxRecDepth 100000 in
set_option maxHeartbeats 1000000 in
theorem implSectors_calls (g : DGeometry) (w : World) : Calls Try.prog 100 #[.agg #[.int .i64 g.Pages, .int .i64 g.Frames, .int .i64 g.LogSectors]] w fun e w' => e = .returned (.int .i64 (diskSectors g)) ∧ Ext w w' := by
  have hu := Try.underlying75
  have hEA := alloc_ext w (.cells #[.int .i64 g.Pages, .int .i64 g.Frames, .int .i64 g.LogSectors] 75)
  have hb0 := heap_alloc_new w (.cells #[.int .i64 g.Pages, .int .i64 g.Frames, .int .i64 g.LogSectors] 75)
  have m0 := fun o => cell_of_row _ _ o _ _ _ hb0
  have HEA := Lib.hid hEA; have HB0 := Lib.hid hb0
  clear hEA hb0
  obtain ⟨k, hk⟩ : ∃ k, k = geoFault g := ⟨_, rfl⟩
  have HK := Lib.hid hk
  go_enter Try.func100, Try.ntmps100
  go_wp2_with fail
  refine (implFault_calls g _).mono ?_
  rw [← hk]
  clear hk m0
  rintro e w1 ⟨rfl, hO⟩
  have hb1 := hO.heap HB0.out (by simp)
  have m1 := fun o => cell_of_row _ _ o _ _ _ hb1
  have HE1 := Lib.hid (HEA.out.ext hO)
  clear hO hb1
  by_cases h0 : k = 0
  · subst h0
    have hd : diskSectors g = 2 + g.LogSectors + 8 * g.Pages := if_pos HK.out.symm
    have hr := geoFault_room HK.out.symm
    go_wp2
    go_ret
    refine ⟨?_, HE1.out⟩
    rw [hd]
    first | rfl | exact congrArg (fun x => Ending.returned (.int .i64 x)) (by (try unfold wrap64); omega)
  · have hkn : (k != 0) = true := by simp [h0]
    have hd : diskSectors g = -1 := if_neg (by rw [← HK.out]; exact h0)
    clear h0
    go_wp2
    go_ret
    exact ⟨by rw [hd]; rfl, HE1.out⟩
set_option maxRecDepth 100000 in
set_option maxHeartbeats 1000000 in
theorem implPageSector_calls (g : DGeometry) (p : Int) (w : World) : Calls Try.prog 101 #[.agg #[.int .i64 g.Pages, .int .i64 g.Frames, .int .i64 g.LogSectors], .int .i64 p] w fun e w' => e = .returned (.int .i64 (pageSector g p)) ∧ Ext w w' := by
  have hu := Try.underlying75
  have hEA := alloc_ext w (.cells #[.int .i64 g.Pages, .int .i64 g.Frames, .int .i64 g.LogSectors] 75)
  have hb0 := heap_alloc_new w (.cells #[.int .i64 g.Pages, .int .i64 g.Frames, .int .i64 g.LogSectors] 75)
  have m0 := fun o => cell_of_row _ _ o _ _ _ hb0
  have HEA := Lib.hid hEA; have HB0 := Lib.hid hb0
  clear hEA hb0
  obtain ⟨k, hk⟩ : ∃ k, k = geoFault g := ⟨_, rfl⟩
  have HK := Lib.hid hk
  go_enter Try.func101, Try.ntmps101
  go_wp2_with fail
  refine (implFault_calls g _).mono ?_
  rw [← hk]
  clear hk m0
  rintro e w1 ⟨rfl, hO⟩
  have hb1 := hO.heap HB0.out (by simp)
  have m1 := fun o => cell_of_row _ _ o _ _ _ hb1
  have HE1 := Lib.hid (HEA.out.ext hO)
  clear hO hb1
  by_cases h0 : k = 0
  · subst h0
    have hr := geoFault_room HK.out.symm
    have hkn : ((0 : Int) != 0) = false := by simp
    cases hp : inR p 0 (g.Pages - 1)
    · have hd : pageSector g p = -1 := if_neg (fun h => by rw [hp] at h; exact absurd h.2 (by simp))
      go_wp2_with (go_at_call 84; refine (implIn_calls _ _ _ _).mono ?_; rintro e w1 ⟨rfl, rfl⟩)
      go_ret
      exact ⟨by rw [hd]; rfl, HE1.out⟩
    · have hd : pageSector g p = 2 + g.LogSectors + 8 * p := if_pos ⟨HK.out.symm, hp⟩
      have hp2 := inR_iff.1 hp
      go_wp2_with (go_at_call 84; refine (implIn_calls _ _ _ _).mono ?_; rintro e w1 ⟨rfl, rfl⟩)
      go_ret
      refine ⟨?_, HE1.out⟩
      rw [hd]
      first | rfl | exact congrArg (fun x => Ending.returned (.int .i64 x)) (by (try unfold wrap64); omega)
  · have hkn : (k != 0) = true := by simp [h0]
    have hd : pageSector g p = -1 := if_neg (by rw [← HK.out]; exact fun h => h0 h.1)
    clear h0
    go_wp2_with (go_at_call 84; refine (implIn_calls _ _ _ _).mono ?_; rintro e w1 ⟨rfl, rfl⟩)
    go_ret
    exact ⟨by rw [hd]; rfl, HE1.out⟩
end Go.Proofs.Ytdjcfcgkldokgaa
