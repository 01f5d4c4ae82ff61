/- Does the disk fit the geometry: both packages. -/
import Derived.Test.YtdjcfcgkldokgaaE3
import Derived.Test.YtdjcfcgkldokgaaE1
namespace Go.Proofs.Ytdjcfcgkldokgaa
open Go.RowKit
set_option linter.unusedSimpArgs false
set_option linter.unusedVariables false
def fitsOK (d : DDisk) (g : DGeometry) : Bool := decide (geoFault g = 0) && validDisk d && decide ((d.Durable.length : Int) / 512 = diskSectors g)
set_option maxRecDepth 100000 in
set_option maxHeartbeats 1000000 in
theorem specFits_calls (w : World) (v : Value) (d : DDisk) (F : List Nat) (h : Rep.Disk.V w v d F) (g : DGeometry) :
    Calls Try.prog 86 #[v, .agg #[.int .i64 g.Pages, .int .i64 g.Frames, .int .i64 g.LogSectors]] w fun e w' => e = .returned (.bool (fitsOK d g)) ∧ Ext w w' := by
  obtain ⟨_, ⟨A1, c1, F1, A2, c2, F2, rfl, rfl, hwd, s1, s2⟩, rfl⟩ := id h
  have hu := Try.underlying29
  have hu2 := Try.underlying75
  have hmx := Nat.le_trans s1.1 s1.2.1
  unfold maxLen at hmx
  have hEA := (alloc_ext w (.cells #[.slice A1 d.Durable.length c1, .slice A2 d.Pending.length c2] 29)).alloc (.cells #[.int .i64 g.Pages, .int .i64 g.Frames, .int .i64 g.LogSectors] 75)
  have hb1 := heap_alloc2_old w (.cells #[.slice A1 d.Durable.length c1, .slice A2 d.Pending.length c2] 29) (.cells #[.int .i64 g.Pages, .int .i64 g.Frames, .int .i64 g.LogSectors] 75)
  have hb2 := heap_alloc2_new w (.cells #[.slice A1 d.Durable.length c1, .slice A2 d.Pending.length c2] 29) (.cells #[.int .i64 g.Pages, .int .i64 g.Frames, .int .i64 g.LogSectors] 75)
  have HS1 := Lib.hid (Rep.sl_ext s1 hEA); have HS2 := Lib.hid (Rep.sl_ext s2 hEA); have HEA := Lib.hid hEA
  have e1 : ((w.alloc (.cells #[.slice A1 d.Durable.length c1, .slice A2 d.Pending.length c2] 29)).alloc (.cells #[.int .i64 g.Pages, .int .i64 g.Frames, .int .i64 g.LogSectors] 75)).cell? ⟨w.heap.size, 0, none⟩ = some (.slice A1 d.Durable.length c1) := cell_of_row _ _ 0 _ _ _ hb1
  have e2 : ((w.alloc (.cells #[.slice A1 d.Durable.length c1, .slice A2 d.Pending.length c2] 29)).alloc (.cells #[.int .i64 g.Pages, .int .i64 g.Frames, .int .i64 g.LogSectors] 75)).cell? ⟨w.heap.size, 1, none⟩ = some (.slice A2 d.Pending.length c2) := cell_of_row _ _ 1 _ _ _ hb1
  have e3 : ((w.alloc (.cells #[.slice A1 d.Durable.length c1, .slice A2 d.Pending.length c2] 29)).alloc (.cells #[.int .i64 g.Pages, .int .i64 g.Frames, .int .i64 g.LogSectors] 75)).cell? ⟨w.heap.size + 1, 0, none⟩ = some (.int .i64 g.Pages) := cell_of_row _ _ 0 _ _ _ hb2
  have e4 : ((w.alloc (.cells #[.slice A1 d.Durable.length c1, .slice A2 d.Pending.length c2] 29)).alloc (.cells #[.int .i64 g.Pages, .int .i64 g.Frames, .int .i64 g.LogSectors] 75)).cell? ⟨w.heap.size + 1, 1, none⟩ = some (.int .i64 g.Frames) := cell_of_row _ _ 1 _ _ _ hb2
  have e5 : ((w.alloc (.cells #[.slice A1 d.Durable.length c1, .slice A2 d.Pending.length c2] 29)).alloc (.cells #[.int .i64 g.Pages, .int .i64 g.Frames, .int .i64 g.LogSectors] 75)).cell? ⟨w.heap.size + 1, 2, none⟩ = some (.int .i64 g.LogSectors) := cell_of_row _ _ 2 _ _ _ hb2
  obtain ⟨k, hk⟩ : ∃ k, k = geoFault g := ⟨_, rfl⟩
  obtain ⟨vd, hvd⟩ : ∃ b, b = validDisk d := ⟨_, rfl⟩
  obtain ⟨ds, hds⟩ : ∃ b, b = diskSectors g := ⟨_, rfl⟩
  have hf : fitsOK d g = (decide (k = 0) && vd && decide ((d.Durable.length : Int) / 512 = ds)) := by rw [hk, hvd, hds]; rfl
  have HF := Lib.hid hf; have HK := Lib.hid hk; have HVD := Lib.hid hvd; have HDS := Lib.hid hds
  clear hEA hb1 hb2 s1 s2 hk hvd hds hf
  show Calls _ _ #[.agg #[_, _], _] _ _
  have hcs : ((k == 0) = false ∧ decide (k = 0) = false) ∨ (((k == 0) = true ∧ decide (k = 0) = true) ∧ (vd = false ∨ vd = true ∧ (((((d.Durable.length : Int) / 512) == ds) = false ∧ decide ((d.Durable.length : Int) / 512 = ds) = false) ∨ ((((d.Durable.length : Int) / 512) == ds) = true ∧ decide ((d.Durable.length : Int) / 512 = ds) = true)))) := by
    by_cases h0 : k = 0
    · right
      refine ⟨⟨by simp [h0], by simp [h0]⟩, ?_⟩
      cases vd
      · exact .inl rfl
      · right
        refine ⟨rfl, ?_⟩
        by_cases h1 : (d.Durable.length : Int) / 512 = ds
        · exact .inr ⟨by simp [h1], by simp [h1]⟩
        · exact .inl ⟨by simp [h1], by simp [h1]⟩
    · exact .inl ⟨by simp [h0], by simp [h0]⟩
  rcases hcs with ⟨h1, h2⟩ | ⟨⟨h1, h2⟩, rfl | ⟨rfl, ⟨h3, h4⟩ | ⟨h3, h4⟩⟩⟩
  all_goals
    have HA := Lib.hid h2
    try have HB := Lib.hid h4
    try clear h4
    clear h2
    go_enter Try.func86, Try.ntmps86
    go_wp2_with fail
    generalize ((w.alloc (.cells #[.slice A1 d.Durable.length c1, .slice A2 d.Pending.length c2] 29)).alloc (.cells #[.int .i64 g.Pages, .int .i64 g.Frames, .int .i64 g.LogSectors] 75)) = W0 at *
    refine wp_region_ext (by kernel_rfl) (by kernel_rfl) ?_
    repeat (first
      | (refine BigFrame.wpQuiet_skip (by rfl) ?_
         try simp only [Act.put, List.setIfInBounds_toArray, List.set_cons_zero, List.set_cons_succ])
      | (refine quiet_take ?_ (by rfl) (fun w' hw => ?_) ?_
         rotate_left
         · have c1 := hw.ecell e1
           have c2 := hw.ecell e2
           have c3 := hw.ecell e3
           have c4 := hw.ecell e4
           have c5 := hw.ecell e5
           unfold Oper.quietAt
           go_simp
           first
             | done
             | exact ⟨rfl, rfl⟩
             | exact rfl
         try simp only [Act.put, List.setIfInBounds_toArray, List.set_cons_zero, List.set_cons_succ])
      | (refine quiet_take (.int .i64 k) (by rfl) (fun w' hw => ?_) ?_
         · unfold Oper.quietAt
           go_simp
           exact ((specFault_calls g w').mono (fun e w5 h5 => ⟨by rw [h5.1, HK.out], hw.ext h5.2⟩))
         try simp only [Act.put, List.setIfInBounds_toArray, List.set_cons_zero, List.set_cons_succ])
      | (refine quiet_take (.bool true) (by rfl) (fun w' hw => ?_) ?_
         · unfold Oper.quietAt
           go_simp
           exact ((specValid_calls _ d _ _ ⟨_, ⟨A1, c1, _, A2, c2, _, rfl, rfl, hwd, Rep.sl_ext HS1.out hw, Rep.sl_ext HS2.out hw⟩, rfl⟩).mono (fun e w5 h5 => ⟨h5.1.trans (congrArg (fun b => Ending.returned (.bool b)) HVD.out.symm), hw.ext h5.2⟩))
         try simp only [Act.put, List.setIfInBounds_toArray, List.set_cons_zero, List.set_cons_succ])
      | (refine quiet_take (.bool false) (by rfl) (fun w' hw => ?_) ?_
         · unfold Oper.quietAt
           go_simp
           exact ((specValid_calls _ d _ _ ⟨_, ⟨A1, c1, _, A2, c2, _, rfl, rfl, hwd, Rep.sl_ext HS1.out hw, Rep.sl_ext HS2.out hw⟩, rfl⟩).mono (fun e w5 h5 => ⟨h5.1.trans (congrArg (fun b => Ending.returned (.bool b)) HVD.out.symm), hw.ext h5.2⟩))
         try simp only [Act.put, List.setIfInBounds_toArray, List.set_cons_zero, List.set_cons_succ])
      | (refine quiet_take (.int .i64 ((d.Durable.length : Int) / 512)) (by rfl) (fun w' hw => ?_) ?_
         · have c1 := hw.ecell e1
           unfold Oper.quietAt
           go_simp
           exact ((l1Sectors_calls _ _ _ _ _ _ _ (by omega)).mono (fun e w5 h5 => ⟨h5.1, by rw [h5.2]; exact Only.alloc hw _⟩))
         try simp only [Act.put, List.setIfInBounds_toArray, List.set_cons_zero, List.set_cons_succ])
      | (refine quiet_take (.int .i64 ds) (by rfl) (fun w' hw => ?_) ?_
         · unfold Oper.quietAt
           go_simp
           exact ((specSectors_calls g w').mono (fun e w5 h5 => ⟨by rw [h5.1, HDS.out], hw.ext h5.2⟩))
         try simp only [Act.put, List.setIfInBounds_toArray, List.set_cons_zero, List.set_cons_succ]))
    refine wpQuiet_nil ?_
    intro w2 hw2
    have HE2 := Lib.hid (HEA.out.ext hw2)
    clear hw2 e1 e2 e3 e4 e5
    go_wp2
    go_ret
    refine ⟨?_, HE2.out⟩
    rw [HF.out, HA.out]
    first | rfl | (rw [HB.out]; rfl) | (simp; done)
set_option maxRecDepth 100000 in
set_option maxHeartbeats 1000000 in
theorem implFits_calls (w : World) (v : Value) (d : DDisk) (F : List Nat) (h : Rep.Disk.V w v d F) (g : DGeometry) :
    Calls Try.prog 89 #[v, .agg #[.int .i64 g.Pages, .int .i64 g.Frames, .int .i64 g.LogSectors]] w fun e w' => e = .returned (.bool (fitsOK d g)) ∧ Ext w w' := by
  obtain ⟨_, ⟨A1, c1, F1, A2, c2, F2, rfl, rfl, hwd, s1, s2⟩, rfl⟩ := id h
  have hu := Try.underlying29
  have hu2 := Try.underlying75
  have hmx := Nat.le_trans s1.1 s1.2.1
  unfold maxLen at hmx
  have hEA := (alloc_ext w (.cells #[.slice A1 d.Durable.length c1, .slice A2 d.Pending.length c2] 29)).alloc (.cells #[.int .i64 g.Pages, .int .i64 g.Frames, .int .i64 g.LogSectors] 75)
  have hb1 := heap_alloc2_old w (.cells #[.slice A1 d.Durable.length c1, .slice A2 d.Pending.length c2] 29) (.cells #[.int .i64 g.Pages, .int .i64 g.Frames, .int .i64 g.LogSectors] 75)
  have hb2 := heap_alloc2_new w (.cells #[.slice A1 d.Durable.length c1, .slice A2 d.Pending.length c2] 29) (.cells #[.int .i64 g.Pages, .int .i64 g.Frames, .int .i64 g.LogSectors] 75)
  have HS1 := Lib.hid (Rep.sl_ext s1 hEA); have HS2 := Lib.hid (Rep.sl_ext s2 hEA); have HEA := Lib.hid hEA
  have e1 : ((w.alloc (.cells #[.slice A1 d.Durable.length c1, .slice A2 d.Pending.length c2] 29)).alloc (.cells #[.int .i64 g.Pages, .int .i64 g.Frames, .int .i64 g.LogSectors] 75)).cell? ⟨w.heap.size, 0, none⟩ = some (.slice A1 d.Durable.length c1) := cell_of_row _ _ 0 _ _ _ hb1
  have e2 : ((w.alloc (.cells #[.slice A1 d.Durable.length c1, .slice A2 d.Pending.length c2] 29)).alloc (.cells #[.int .i64 g.Pages, .int .i64 g.Frames, .int .i64 g.LogSectors] 75)).cell? ⟨w.heap.size, 1, none⟩ = some (.slice A2 d.Pending.length c2) := cell_of_row _ _ 1 _ _ _ hb1
  have e3 : ((w.alloc (.cells #[.slice A1 d.Durable.length c1, .slice A2 d.Pending.length c2] 29)).alloc (.cells #[.int .i64 g.Pages, .int .i64 g.Frames, .int .i64 g.LogSectors] 75)).cell? ⟨w.heap.size + 1, 0, none⟩ = some (.int .i64 g.Pages) := cell_of_row _ _ 0 _ _ _ hb2
  have e4 : ((w.alloc (.cells #[.slice A1 d.Durable.length c1, .slice A2 d.Pending.length c2] 29)).alloc (.cells #[.int .i64 g.Pages, .int .i64 g.Frames, .int .i64 g.LogSectors] 75)).cell? ⟨w.heap.size + 1, 1, none⟩ = some (.int .i64 g.Frames) := cell_of_row _ _ 1 _ _ _ hb2
  have e5 : ((w.alloc (.cells #[.slice A1 d.Durable.length c1, .slice A2 d.Pending.length c2] 29)).alloc (.cells #[.int .i64 g.Pages, .int .i64 g.Frames, .int .i64 g.LogSectors] 75)).cell? ⟨w.heap.size + 1, 2, none⟩ = some (.int .i64 g.LogSectors) := cell_of_row _ _ 2 _ _ _ hb2
  obtain ⟨k, hk⟩ : ∃ k, k = geoFault g := ⟨_, rfl⟩
  obtain ⟨vd, hvd⟩ : ∃ b, b = validDisk d := ⟨_, rfl⟩
  obtain ⟨ds, hds⟩ : ∃ b, b = diskSectors g := ⟨_, rfl⟩
  have hf : fitsOK d g = (decide (k = 0) && vd && decide ((d.Durable.length : Int) / 512 = ds)) := by rw [hk, hvd, hds]; rfl
  have HF := Lib.hid hf; have HK := Lib.hid hk; have HVD := Lib.hid hvd; have HDS := Lib.hid hds
  clear hEA hb1 hb2 s1 s2 hk hvd hds hf
  show Calls _ _ #[.agg #[_, _], _] _ _
  have hcs : ((k == 0) = false ∧ decide (k = 0) = false) ∨ (((k == 0) = true ∧ decide (k = 0) = true) ∧ (vd = false ∨ vd = true ∧ (((((d.Durable.length : Int) / 512) == ds) = false ∧ decide ((d.Durable.length : Int) / 512 = ds) = false) ∨ ((((d.Durable.length : Int) / 512) == ds) = true ∧ decide ((d.Durable.length : Int) / 512 = ds) = true)))) := by
    by_cases h0 : k = 0
    · right
      refine ⟨⟨by simp [h0], by simp [h0]⟩, ?_⟩
      cases vd
      · exact .inl rfl
      · right
        refine ⟨rfl, ?_⟩
        by_cases h1 : (d.Durable.length : Int) / 512 = ds
        · exact .inr ⟨by simp [h1], by simp [h1]⟩
        · exact .inl ⟨by simp [h1], by simp [h1]⟩
    · exact .inl ⟨by simp [h0], by simp [h0]⟩
  rcases hcs with ⟨h1, h2⟩ | ⟨⟨h1, h2⟩, rfl | ⟨rfl, ⟨h3, h4⟩ | ⟨h3, h4⟩⟩⟩
  all_goals
    have HA := Lib.hid h2
    try have HB := Lib.hid h4
    try clear h4
    clear h2
    go_enter Try.func89, Try.ntmps89
    go_wp2_with fail
    generalize ((w.alloc (.cells #[.slice A1 d.Durable.length c1, .slice A2 d.Pending.length c2] 29)).alloc (.cells #[.int .i64 g.Pages, .int .i64 g.Frames, .int .i64 g.LogSectors] 75)) = W0 at *
    refine wp_region_ext (by kernel_rfl) (by kernel_rfl) ?_
    repeat (first
      | (refine BigFrame.wpQuiet_skip (by rfl) ?_
         try simp only [Act.put, List.setIfInBounds_toArray, List.set_cons_zero, List.set_cons_succ])
      | (refine quiet_take ?_ (by rfl) (fun w' hw => ?_) ?_
         rotate_left
         · have c1 := hw.ecell e1
           have c2 := hw.ecell e2
           have c3 := hw.ecell e3
           have c4 := hw.ecell e4
           have c5 := hw.ecell e5
           unfold Oper.quietAt
           go_simp
           first
             | done
             | exact ⟨rfl, rfl⟩
             | exact rfl
         try simp only [Act.put, List.setIfInBounds_toArray, List.set_cons_zero, List.set_cons_succ])
      | (refine quiet_take (.int .i64 k) (by rfl) (fun w' hw => ?_) ?_
         · unfold Oper.quietAt
           go_simp
           exact ((implFault_calls g w').mono (fun e w5 h5 => ⟨by rw [h5.1, HK.out], hw.ext h5.2⟩))
         try simp only [Act.put, List.setIfInBounds_toArray, List.set_cons_zero, List.set_cons_succ])
      | (refine quiet_take (.bool true) (by rfl) (fun w' hw => ?_) ?_
         · unfold Oper.quietAt
           go_simp
           exact ((implValid_calls _ d _ _ ⟨_, ⟨A1, c1, _, A2, c2, _, rfl, rfl, hwd, Rep.sl_ext HS1.out hw, Rep.sl_ext HS2.out hw⟩, rfl⟩).mono (fun e w5 h5 => ⟨h5.1.trans (congrArg (fun b => Ending.returned (.bool b)) HVD.out.symm), hw.ext h5.2⟩))
         try simp only [Act.put, List.setIfInBounds_toArray, List.set_cons_zero, List.set_cons_succ])
      | (refine quiet_take (.bool false) (by rfl) (fun w' hw => ?_) ?_
         · unfold Oper.quietAt
           go_simp
           exact ((implValid_calls _ d _ _ ⟨_, ⟨A1, c1, _, A2, c2, _, rfl, rfl, hwd, Rep.sl_ext HS1.out hw, Rep.sl_ext HS2.out hw⟩, rfl⟩).mono (fun e w5 h5 => ⟨h5.1.trans (congrArg (fun b => Ending.returned (.bool b)) HVD.out.symm), hw.ext h5.2⟩))
         try simp only [Act.put, List.setIfInBounds_toArray, List.set_cons_zero, List.set_cons_succ])
      | (refine quiet_take (.int .i64 ((d.Durable.length : Int) / 512)) (by rfl) (fun w' hw => ?_) ?_
         · have c1 := hw.ecell e1
           unfold Oper.quietAt
           go_simp
           exact ((sectors_calls _ _ _ _ _ _ c1 (by omega)).mono (fun e w5 h5 => ⟨h5.1, by rw [h5.2]; exact hw⟩))
         try simp only [Act.put, List.setIfInBounds_toArray, List.set_cons_zero, List.set_cons_succ])
      | (refine quiet_take (.int .i64 ds) (by rfl) (fun w' hw => ?_) ?_
         · unfold Oper.quietAt
           go_simp
           exact ((implSectors_calls g w').mono (fun e w5 h5 => ⟨by rw [h5.1, HDS.out], hw.ext h5.2⟩))
         try simp only [Act.put, List.setIfInBounds_toArray, List.set_cons_zero, List.set_cons_succ]))
    refine wpQuiet_nil ?_
    intro w2 hw2
    have HE2 := Lib.hid (HEA.out.ext hw2)
    clear hw2 e1 e2 e3 e4 e5
    go_wp2
    go_ret
    refine ⟨?_, HE2.out⟩
    rw [HF.out, HA.out]
    first | rfl | (rw [HB.out]; rfl) | (simp; done)
end Go.Proofs.Ytdjcfcgkldokgaa
