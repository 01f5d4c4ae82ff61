/- FnDisk: the walk of the law. -/
import Derived.Test.YtdjcfcgkldokgaaG9
import Derived.Deep.DeepCutAuto
import Derived.Deep.CutRange
namespace Go.Proofs.Ytdjcfcgkldokgaa
open Go.RowKit
set_option linter.unusedSimpArgs false
set_option linter.unusedVariables false
theorem fold_len (ops : List DOp) : ∀ d : DDisk, validDisk d = true → (ops.foldl doOp d).Durable.length = d.Durable.length := by
  induction ops with
  | nil => intro d _; rfl
  | cons x xs ih => intro d h; exact (ih _ (valid_doOp h)).trans (doOp_len h)
set_option maxRecDepth 100000 in
set_option maxHeartbeats 16000000 in
theorem Disk_walk (w : World) (A : Option Addr) (c : Nat) (bs : List Int) (F : List Nat) (h : (Rep.int .u8).sl w A c bs F) (A2 : Option Addr) (c2 : Nat) (ms : List Int) (F2 : List Nat) (h2 : (Rep.int .u8).sl w A2 c2 ms F2) :
    Calls Try.prog 7 #[.slice A bs.length c, .slice A2 ms.length c2] w fun e w' => e = .returned (.bool true) ∧ Ext w w' := by
  have hm := h.1
  have hM := h.2.1
  have hm2 := h2.1
  have hM2 := h2.2.1
  unfold maxLen at hM hM2
  by_cases hl : (1048576 : Int) < bs.length
  · go_enter Try.func7, Try.ntmps7
    go_wp2
    go_ret
    exact ⟨rfl, Only.refl _ _⟩
  by_cases hl2 : (1048576 : Int) < ms.length
  · go_enter Try.func7, Try.ntmps7
    go_wp2
    go_ret
    exact ⟨rfl, Only.refl _ _⟩
  have hu := Try.underlying29
  have hu3 := Try.underlying49
  have HLEN := Lib.hid (show bs.length ≤ 1048576 by omega)
  have HLEN2 := Lib.hid (show ms.length ≤ 1048576 by omega)
  have H0 := Lib.hid h
  have H2 := Lib.hid h2
  clear hm hM hm2 hM2 h h2
  go_enter Try.func7, Try.ntmps7
  go_wp2_with (go_at_call 36; refine (drawRunOps_calls A c bs F w H0.out HLEN.out).mono ?_; rintro e w1 ⟨d, Ad, cd, Apd, cpd, Fd, Q, Ao, co, Fo, lm, rfl, HV, HQ, HQL, HWT, HQD, HE1⟩; refine Hid.out ?_)
  refine Lib.hid ?_
  obtain ⟨n, hn⟩ : ∃ n, n = Q.length := ⟨_, rfl⟩
  rw [← hn]
  have HN := Lib.hid hn
  have hn7 : n ≤ 7 := by rw [hn]; exact HQL.out
  clear hn HQL hl hl2
  have HD1 := Lib.hid (DL.of_V HV.out)
  obtain ⟨L, hL⟩ : ∃ L, L = d.Durable.length := ⟨_, rfl⟩
  obtain ⟨P, hP⟩ : ∃ P, P = d.Pending.length := ⟨_, rfl⟩
  rw [← hL, ← hP]
  have HL := Lib.hid hL; have HP := Lib.hid hP
  clear hL hP HV
  obtain ⟨b5, hb5⟩ : ∃ b, b = w1.heap.size := ⟨_, rfl⟩
  have HB5 := Lib.hid (heap_alloc_new w1 (.cells #[.slice Ad L cd, .slice Apd P cpd] 29))
  rw [← hb5] at HB5
  have m5 := fun o => cell_of_row _ _ o _ _ _ HB5.out
  have HE2 := Lib.hid (HE1.out.ext (alloc_ext w1 (.cells #[.slice Ad L cd, .slice Apd P cpd] 29)))
  have HD2 := Lib.hid (HD1.out.ext (alloc_ext w1 (.cells #[.slice Ad L cd, .slice Apd P cpd] 29)))
  have HQ2 := Lib.hid (Rep.sl_ext HQ.out (alloc_ext w1 (.cells #[.slice Ad L cd, .slice Apd P cpd] 29)))
  go_upto_region 4 with fail
  rw [← hb5]
  generalize (w1.alloc (.cells #[.slice Ad L cd, .slice Apd P cpd] 29)) = wd at *
  clear hb5 HQ HD1 HE1
  obtain ⟨FV, hFV⟩ := HD2.out.V
  rw [← HL.out, ← HP.out] at hFV
  have HFV := Lib.hid hFV
  clear hFV
  cases hvd : validDisk d
  · have HVD := Lib.hid hvd
    clear hvd
    go_wp2_with (first
      | (go_at_call 37; refine (specValid_calls _ d _ _ HFV.out).mono ?_; rw [HVD.out]; rintro e wv ⟨rfl, hE⟩; have HEV := Lib.hid hE; have mv := fun o => cell_of_row _ _ o _ _ _ (hE.heap HB5.out (by simp)); clear hE)
      | (go_at_call 38; refine (implValid_calls _ d _ _ (V_ext HFV.out HEV.out)).mono ?_; rw [HVD.out]; rintro e wx ⟨rfl, hE⟩; have HEX := Lib.hid hE; clear hE))
    go_ret
    exact ⟨rfl, (HE2.out.ext HEV.out).ext HEX.out⟩
  have HVD := Lib.hid hvd
  clear hvd
  go_upto_region 6 with (go_at_call 37; refine (specValid_calls _ d _ _ HFV.out).mono ?_; rw [HVD.out]; rintro e wv ⟨rfl, hE⟩; have HEV := Lib.hid hE; clear hE)
  have HE3 := Lib.hid (HE2.out.ext HEV.out)
  have HD3 := Lib.hid (HD2.out.ext HEV.out)
  have HQ3 := Lib.hid (Rep.sl_ext HQ2.out HEV.out)
  have HB3 := Lib.hid (HEV.out.heap HB5.out (by simp))
  clear m5 HE2 HD2 HQ2 HB5 HFV HEV
  have m5 := fun o => cell_of_row _ _ o _ _ _ HB3.out
  have HWD := Lib.hid (show wtDisk d ≤ 1048576 from by have := HWT.out; omega)
  have HWQ := Lib.hid (show wtOpS Q ≤ 4200 from by have h1 := wt_ops Q HQD.out; have h2 := HN.out; omega)
  obtain ⟨X, hX⟩ : ∃ X, X = Q.foldl doOp d := ⟨_, rfl⟩
  have HRX := Lib.hid (show runOps d Q (-1) = ⟨true, (n : Nat), X⟩ by rw [runOps_whole HVD.out, hX, HN.out])
  have HX := Lib.hid hX
  have HVX := Lib.hid (show validDisk X = true by rw [hX]; exact valid_fold Q d HVD.out)
  have HLX := Lib.hid (show L = X.Durable.length by rw [hX, fold_len Q d HVD.out]; exact HL.out)
  have HWX := Lib.hid (show wtDisk X ≤ 1048576 by rw [hX]; have h1 := wt_fold Q d HVD.out; have h2 := HWT.out; have h3 := HWQ.out; omega)
  obtain ⟨PX, hPX⟩ : ∃ P, P = X.Pending.length := ⟨_, rfl⟩
  have HPX := Lib.hid hPX
  clear hX hPX
  go_wp2_with (go_at_call 30; refine (runLaw_calls _ 0 Ad cd Apd cpd d HD3.out Ao co Q Fo HQ3.out (-1) rfl HWD.out (by have := HWQ.out; omega) true n X HRX.out n HN.out L P HL.out HP.out L PX HLX.out HPX.out).mono ?_; rintro e w8 ⟨Ax, cx, Apx, cpx, rfl, HDX, HEX⟩; have HE8 := Lib.hid (HEX.out.ext (alloc_ext w8 (.cells #[.bool true, .int .i64 (n : Int), .slice Ax L cx, .slice Apx PX cpx] 49))); have HB8 := Lib.hid (heap_alloc_new w8 (.cells #[.bool true, .int .i64 (n : Int), .slice Ax L cx, .slice Apx PX cpx] 49)); refine Hid.out ?_)
  refine Lib.hid ?_
  go_upto_region 7 with fail
  have HDX8 := Lib.hid ((HDX.out.ext (alloc_ext w8 (.cells #[.bool true, .int .i64 (n : Int), .slice Ax L cx, .slice Apx PX cpx] 49))).mono (Nat.zero_le _))
  obtain ⟨b8, hb8⟩ : ∃ b, b = w8.heap.size := ⟨_, rfl⟩
  rw [← hb8] at HB8 ⊢
  generalize (w8.alloc (.cells #[.bool true, .int .i64 (n : Int), .slice Ax L cx, .slice Apx PX cpx] 49)) = wA at *
  clear hb8 HDX HEX HRX m5
  have ew1 : IntKind.i64.wrap ((n : Int) + 1) = ((n + 1 : Nat) : Int) := by rw [IntKind.wrap_i64] <;> omega
  go_upto_region 8 with (go_at_call 39; refine (lwK_calls A2 c2 ms F2 wA (Rep.sl_ext H2.out (HE3.out.ext HE8.out)) HLEN2.out (n + 1) _ rfl ⟨by omega, by omega⟩).mono ?_; rintro e wr ⟨k, rfl, hk, HEA⟩)
  have HR3 := Lib.hid (HE8.out.ext HEA.out)
  have HER := Lib.hid (HE3.out.ext HR3.out)
  have HDR := Lib.hid (HD3.out.ext HR3.out)
  have HQR := Lib.hid (Rep.sl_ext HQ3.out HR3.out)
  have HBR5 := Lib.hid (HR3.out.heap HB3.out (by simp))
  have HBR8 := Lib.hid (HEA.out.heap HB8.out (by simp))
  have HXR := Lib.hid (HDX8.out.ext HEA.out)
  clear HE3 HD3 HQ3 HB3 HE8 HB8 HDX8 HEA HR3 ew1
  have hkn : k ≤ n := by omega
  clear hk
  obtain ⟨Y, hY⟩ : ∃ Y, Y = (Q.take k).foldl doOp d := ⟨_, rfl⟩
  have hco : n ≤ co := by have := HQR.out.1; rw [HN.out]; exact this
  have hlenk : k = (Q.take k).length := by rw [List.length_take, ← HN.out]; omega
  have hlend : n - k = (Q.drop k).length := by rw [List.length_drop, ← HN.out]
  have HRY := Lib.hid (show runOps d (Q.take k) (-1) = ⟨true, (k : Nat), Y⟩ by rw [runOps_whole HVD.out, hY, ← hlenk])
  have HVY := Lib.hid (show validDisk Y = true by rw [hY]; exact valid_fold _ d HVD.out)
  have HLY := Lib.hid (show L = Y.Durable.length by rw [hY, fold_len _ d HVD.out]; exact HL.out)
  have HWK := Lib.hid (show wtOpS (Q.take k) ≤ 1048576 from Nat.le_trans (wtOpS_take Q k) (by have := HWQ.out; omega))
  have HWR := Lib.hid (show wtOpS (Q.drop k) ≤ 1048576 from by have h1 := wt_ops (Q.drop k) (fun x hx => HQD.out x (List.mem_of_mem_drop hx)); omega)
  have HWY := Lib.hid (show wtDisk Y ≤ 1048576 by rw [hY]; have h1 := wt_fold (Q.take k) d HVD.out; have h2 := HWT.out; have h3 := wtOpS_take Q k; have h4 := HWQ.out; omega)
  have HRT := Lib.hid (show runOps Y (Q.drop k) (-1) = ⟨true, ((n - k : Nat)), X⟩ by rw [runOps_whole HVY.out, hY, ops_two, ← HX.out, ← hlend])
  have HRC := Lib.hid (show runOps d Q k = ⟨decide (k = n), (k : Nat), Y⟩ by rw [runOps_part HVD.out Q k (by rw [← HN.out]; exact hkn), hY, HN.out])
  have HSK := Lib.hid (sl_first HQR.out k (by rw [← HN.out]; exact hkn))
  have HSD := Lib.hid (sl_last HQR.out k (by rw [← HN.out]; exact hkn))
  obtain ⟨PY, hPY⟩ : ∃ P, P = Y.Pending.length := ⟨_, rfl⟩
  have HPY := Lib.hid hPY
  have HY := Lib.hid hY
  have HLK := Lib.hid hlenk
  have HLD := Lib.hid hlend
  clear hY hlenk hlend hPY
  have hkI : (k : Int) ≤ (co : Int) := by omega
  have hkI2 : (k : Int) ≤ (n : Int) := by omega
  have m5 := fun o => cell_of_row _ _ o _ _ _ HBR5.out
  go_cut [10] from 49 to 53 (fun p wx => RunB wr p wx true k Y L PY)
  case first =>
    have md := fun o => cell_of_row _ _ o _ _ _ (show wr.drew.heap[b5]? = _ from HBR5.out)
    obtain ⟨GK, hGK⟩ := HSK.out
    have HGK := Lib.hid hGK
    have hx1 : Ext wr wr.drew := (Only.refl _ _).drew
    have hx2 : Ext wr (wr.alloc (.cells #[.bool false, .int .i64 0, .slice none 0 0, .slice none 0 0] 49)).drew := (alloc_ext _ _).drew
    have hz5 : (wr.alloc (.cells #[.bool false, .int .i64 0, .slice none 0 0, .slice none 0 0] 49)).heap[b5]? = some (.cells #[.slice Ad L cd, .slice Apd P cpd] 29 (0, 0)) := (alloc_ext _ _).heap HBR5.out (by simp)
    have mz1 := fun o => cell_of_row _ _ o _ _ _ hz5
    have mz2 := fun o => cell_of_row _ _ o _ _ _ (show (wr.alloc (.cells #[.bool false, .int .i64 0, .slice none 0 0, .slice none 0 0] 49)).drew.heap[b5]? = _ from hz5)
    clear hGK hz5
    go_wp2_with fail
    refine wp_region_noPanic ?_
    refine wp_region_held_drew (S := (fun w' => True)) (by kernel_rfl) ?_ (fun hHeld => ?_)
    · exact True.intro
    refine wpAnyH_take (i := 1) (v := ?_) rfl (by kernel_rfl) (by kernel_rfl) (by kernel_rfl) (fun _ _ _ h => h) (Or.inl ⟨by rfl, ?_⟩) (by assumption) ?_
    rotate_left
    · intro w hSw; (try dsimp only at hSw); go_simp <;> with_reducible rfl
    try simp only [Act.put, List.setIfInBounds_toArray, List.set_cons_zero, List.set_cons_succ]
    refine wpAnyH_take (i := 2) (v := ?_) rfl (by kernel_rfl) (by kernel_rfl) (by kernel_rfl) (fun _ _ _ h => h) (Or.inl ⟨by rfl, ?_⟩) (by assumption) ?_
    rotate_left
    · intro w hSw; (try dsimp only at hSw); go_simp <;> with_reducible rfl
    try simp only [Act.put, List.setIfInBounds_toArray, List.set_cons_zero, List.set_cons_succ]
    refine wpAnyH_ready (rs := [0, 3, 5]) (by kernel_rfl) (by simp) ?_
    refine AllReadyH.cons rfl (fun K hK => ?_) ?_
    · go_simp
      refine hK.out _ _ ?_ (fun hHeld => ?_)
      · exact True.intro
      clear hK K
      try simp only [Act.put, List.setIfInBounds_toArray, List.set_cons_zero, List.set_cons_succ]
      refine wpAnyH_ready (rs := [3, 5]) (by kernel_rfl) (by simp) ?_
      refine AllReadyH.cons rfl (fun K hK => ?_) ?_
      · go_simp
        refine hK.out _ _ ?_ (fun hHeld => ?_)
        · exact True.intro
        clear hK K
        try simp only [Act.put, List.setIfInBounds_toArray, List.set_cons_zero, List.set_cons_succ]
        refine wpAnyH_ready (rs := [4, 5]) (by kernel_rfl) (by simp) ?_
        refine AllReadyH.cons rfl (fun K hK => ?_) ?_
        · go_simp
          refine (runLaw_calls _ 0 Ad cd Apd cpd d (HDR.out.ext hx1) Ao co (Q.take k) GK (Rep.sl_ext HGK.out hx1) (-1) rfl HWD.out HWK.out true k Y HRY.out k HLK.out L P HL.out HP.out L PY HLY.out HPY.out).mono ?_
          rintro e w1 ⟨A', c', Ap', cp', rfl, HD', HE'⟩
          have HEW := Lib.hid (hx1.ext HE'.out)
          go_wp2_with fail
          refine hK.out _ _ ?_ (fun hHeld => ?_)
          · exact True.intro
          clear hK K
          try simp only [Act.put, List.setIfInBounds_toArray, List.set_cons_zero, List.set_cons_succ]
          refine wpAnyH_ready (rs := [5]) (by kernel_rfl) (by simp) ?_
          refine AllReadyH.cons rfl (fun K hK => ?_) ?_
          · go_simp
            refine hK.out _ _ ?_ (fun hHeld => ?_)
            · exact True.intro
            clear hK K
            try simp only [Act.put, List.setIfInBounds_toArray, List.set_cons_zero, List.set_cons_succ]
            refine wpAnyH_ready (rs := [6]) (by kernel_rfl) (by simp) ?_
            refine AllReadyH.cons rfl (fun K hK => ?_) ?_
            · go_simp
              refine hK.out _ _ ?_ (fun hHeld => ?_)
              · exact True.intro
              clear hK K
              try simp only [Act.put, List.setIfInBounds_toArray, List.set_cons_zero, List.set_cons_succ]
              refine wpAnyH_done (by kernel_rfl) ?_ _
              refine NoPanic.normal ?_
              go_wp2_with fail
              go_meet
              exact RunB.fin2 rfl HEW.out HD'.out
            exact AllReadyH.nil
          exact AllReadyH.nil
        refine AllReadyH.cons rfl (fun K hK => ?_) ?_
        · go_simp
          refine hK.out _ _ ?_ (fun hHeld => ?_)
          · exact True.intro
          clear hK K
          try simp only [Act.put, List.setIfInBounds_toArray, List.set_cons_zero, List.set_cons_succ]
          refine wpAnyH_ready (rs := [4]) (by kernel_rfl) (by simp) ?_
          refine AllReadyH.cons rfl (fun K hK => ?_) ?_
          · go_simp
            refine (runLaw_calls _ 0 Ad cd Apd cpd d (HDR.out.ext hx2) Ao co (Q.take k) GK (Rep.sl_ext HGK.out hx2) (-1) rfl HWD.out HWK.out true k Y HRY.out k HLK.out L P HL.out HP.out L PY HLY.out HPY.out).mono ?_
            rintro e w1 ⟨A', c', Ap', cp', rfl, HD', HE'⟩
            have HEW := Lib.hid (hx2.ext HE'.out)
            have HBZ := Lib.hid (HE'.out.heap (show (wr.alloc (.cells #[.bool false, .int .i64 0, .slice none 0 0, .slice none 0 0] 49)).drew.heap[wr.heap.size]? = _ from heap_alloc_new wr _) (by simp))
            have mz := fun o => cell_of_row _ _ o _ _ _ HBZ.out
            have fz := fun o => frozen_of_row _ _ o _ _ HBZ.out
            go_wp2_with fail
            refine hK.out _ _ ?_ (fun hHeld => ?_)
            · exact True.intro
            clear hK K
            try simp only [Act.put, List.setIfInBounds_toArray, List.set_cons_zero, List.set_cons_succ]
            refine wpAnyH_ready (rs := [6]) (by kernel_rfl) (by simp) ?_
            refine AllReadyH.cons rfl (fun K hK => ?_) ?_
            · go_simp
              refine hK.out _ _ ?_ (fun hHeld => ?_)
              · exact True.intro
              clear hK K
              try simp only [Act.put, List.setIfInBounds_toArray, List.set_cons_zero, List.set_cons_succ]
              refine wpAnyH_done (by kernel_rfl) ?_ _
              refine NoPanic.normal ?_
              go_wp2_with fail
              go_meet
              exact RunB.fin HBZ.out (Nat.le_refl _) (by simp [World.drew]) HEW.out HD'.out
            exact AllReadyH.nil
          exact AllReadyH.nil
        exact AllReadyH.nil
      refine AllReadyH.cons rfl (fun K hK => ?_) ?_
      · go_simp
        refine hK.out _ _ ?_ (fun hHeld => ?_)
        · exact True.intro
        clear hK K
        try simp only [Act.put, List.setIfInBounds_toArray, List.set_cons_zero, List.set_cons_succ]
        refine wpAnyH_ready (rs := [3]) (by kernel_rfl) (by simp) ?_
        refine AllReadyH.cons rfl (fun K hK => ?_) ?_
        · go_simp
          refine hK.out _ _ ?_ (fun hHeld => ?_)
          · exact True.intro
          clear hK K
          try simp only [Act.put, List.setIfInBounds_toArray, List.set_cons_zero, List.set_cons_succ]
          refine wpAnyH_ready (rs := [4]) (by kernel_rfl) (by simp) ?_
          refine AllReadyH.cons rfl (fun K hK => ?_) ?_
          · go_simp
            refine (runLaw_calls _ 0 Ad cd Apd cpd d (HDR.out.ext hx2) Ao co (Q.take k) GK (Rep.sl_ext HGK.out hx2) (-1) rfl HWD.out HWK.out true k Y HRY.out k HLK.out L P HL.out HP.out L PY HLY.out HPY.out).mono ?_
            rintro e w1 ⟨A', c', Ap', cp', rfl, HD', HE'⟩
            have HEW := Lib.hid (hx2.ext HE'.out)
            have HBZ := Lib.hid (HE'.out.heap (show (wr.alloc (.cells #[.bool false, .int .i64 0, .slice none 0 0, .slice none 0 0] 49)).drew.heap[wr.heap.size]? = _ from heap_alloc_new wr _) (by simp))
            have mz := fun o => cell_of_row _ _ o _ _ _ HBZ.out
            have fz := fun o => frozen_of_row _ _ o _ _ HBZ.out
            go_wp2_with fail
            refine hK.out _ _ ?_ (fun hHeld => ?_)
            · exact True.intro
            clear hK K
            try simp only [Act.put, List.setIfInBounds_toArray, List.set_cons_zero, List.set_cons_succ]
            refine wpAnyH_ready (rs := [6]) (by kernel_rfl) (by simp) ?_
            refine AllReadyH.cons rfl (fun K hK => ?_) ?_
            · go_simp
              refine hK.out _ _ ?_ (fun hHeld => ?_)
              · exact True.intro
              clear hK K
              try simp only [Act.put, List.setIfInBounds_toArray, List.set_cons_zero, List.set_cons_succ]
              refine wpAnyH_done (by kernel_rfl) ?_ _
              refine NoPanic.normal ?_
              go_wp2_with fail
              go_meet
              exact RunB.fin HBZ.out (Nat.le_refl _) (by simp [World.drew]) HEW.out HD'.out
            exact AllReadyH.nil
          exact AllReadyH.nil
        exact AllReadyH.nil
      exact AllReadyH.nil
    refine AllReadyH.cons rfl (fun K hK => ?_) ?_
    · go_simp
      refine hK.out _ _ ?_ (fun hHeld => ?_)
      · exact True.intro
      clear hK K
      try simp only [Act.put, List.setIfInBounds_toArray, List.set_cons_zero, List.set_cons_succ]
      refine wpAnyH_ready (rs := [0, 5]) (by kernel_rfl) (by simp) ?_
      refine AllReadyH.cons rfl (fun K hK => ?_) ?_
      · go_simp
        refine hK.out _ _ ?_ (fun hHeld => ?_)
        · exact True.intro
        clear hK K
        try simp only [Act.put, List.setIfInBounds_toArray, List.set_cons_zero, List.set_cons_succ]
        refine wpAnyH_ready (rs := [4, 5]) (by kernel_rfl) (by simp) ?_
        refine AllReadyH.cons rfl (fun K hK => ?_) ?_
        · go_simp
          refine (runLaw_calls _ 0 Ad cd Apd cpd d (HDR.out.ext hx1) Ao co (Q.take k) GK (Rep.sl_ext HGK.out hx1) (-1) rfl HWD.out HWK.out true k Y HRY.out k HLK.out L P HL.out HP.out L PY HLY.out HPY.out).mono ?_
          rintro e w1 ⟨A', c', Ap', cp', rfl, HD', HE'⟩
          have HEW := Lib.hid (hx1.ext HE'.out)
          go_wp2_with fail
          refine hK.out _ _ ?_ (fun hHeld => ?_)
          · exact True.intro
          clear hK K
          try simp only [Act.put, List.setIfInBounds_toArray, List.set_cons_zero, List.set_cons_succ]
          refine wpAnyH_ready (rs := [5]) (by kernel_rfl) (by simp) ?_
          refine AllReadyH.cons rfl (fun K hK => ?_) ?_
          · go_simp
            refine hK.out _ _ ?_ (fun hHeld => ?_)
            · exact True.intro
            clear hK K
            try simp only [Act.put, List.setIfInBounds_toArray, List.set_cons_zero, List.set_cons_succ]
            refine wpAnyH_ready (rs := [6]) (by kernel_rfl) (by simp) ?_
            refine AllReadyH.cons rfl (fun K hK => ?_) ?_
            · go_simp
              refine hK.out _ _ ?_ (fun hHeld => ?_)
              · exact True.intro
              clear hK K
              try simp only [Act.put, List.setIfInBounds_toArray, List.set_cons_zero, List.set_cons_succ]
              refine wpAnyH_done (by kernel_rfl) ?_ _
              refine NoPanic.normal ?_
              go_wp2_with fail
              go_meet
              exact RunB.fin2 rfl HEW.out HD'.out
            exact AllReadyH.nil
          exact AllReadyH.nil
        refine AllReadyH.cons rfl (fun K hK => ?_) ?_
        · go_simp
          refine hK.out _ _ ?_ (fun hHeld => ?_)
          · exact True.intro
          clear hK K
          try simp only [Act.put, List.setIfInBounds_toArray, List.set_cons_zero, List.set_cons_succ]
          refine wpAnyH_ready (rs := [4]) (by kernel_rfl) (by simp) ?_
          refine AllReadyH.cons rfl (fun K hK => ?_) ?_
          · go_simp
            refine (runLaw_calls _ 0 Ad cd Apd cpd d (HDR.out.ext hx2) Ao co (Q.take k) GK (Rep.sl_ext HGK.out hx2) (-1) rfl HWD.out HWK.out true k Y HRY.out k HLK.out L P HL.out HP.out L PY HLY.out HPY.out).mono ?_
            rintro e w1 ⟨A', c', Ap', cp', rfl, HD', HE'⟩
            have HEW := Lib.hid (hx2.ext HE'.out)
            have HBZ := Lib.hid (HE'.out.heap (show (wr.alloc (.cells #[.bool false, .int .i64 0, .slice none 0 0, .slice none 0 0] 49)).drew.heap[wr.heap.size]? = _ from heap_alloc_new wr _) (by simp))
            have mz := fun o => cell_of_row _ _ o _ _ _ HBZ.out
            have fz := fun o => frozen_of_row _ _ o _ _ HBZ.out
            go_wp2_with fail
            refine hK.out _ _ ?_ (fun hHeld => ?_)
            · exact True.intro
            clear hK K
            try simp only [Act.put, List.setIfInBounds_toArray, List.set_cons_zero, List.set_cons_succ]
            refine wpAnyH_ready (rs := [6]) (by kernel_rfl) (by simp) ?_
            refine AllReadyH.cons rfl (fun K hK => ?_) ?_
            · go_simp
              refine hK.out _ _ ?_ (fun hHeld => ?_)
              · exact True.intro
              clear hK K
              try simp only [Act.put, List.setIfInBounds_toArray, List.set_cons_zero, List.set_cons_succ]
              refine wpAnyH_done (by kernel_rfl) ?_ _
              refine NoPanic.normal ?_
              go_wp2_with fail
              go_meet
              exact RunB.fin HBZ.out (Nat.le_refl _) (by simp [World.drew]) HEW.out HD'.out
            exact AllReadyH.nil
          exact AllReadyH.nil
        exact AllReadyH.nil
      refine AllReadyH.cons rfl (fun K hK => ?_) ?_
      · go_simp
        refine hK.out _ _ ?_ (fun hHeld => ?_)
        · exact True.intro
        clear hK K
        try simp only [Act.put, List.setIfInBounds_toArray, List.set_cons_zero, List.set_cons_succ]
        refine wpAnyH_ready (rs := [0]) (by kernel_rfl) (by simp) ?_
        refine AllReadyH.cons rfl (fun K hK => ?_) ?_
        · go_simp
          refine hK.out _ _ ?_ (fun hHeld => ?_)
          · exact True.intro
          clear hK K
          try simp only [Act.put, List.setIfInBounds_toArray, List.set_cons_zero, List.set_cons_succ]
          refine wpAnyH_ready (rs := [4]) (by kernel_rfl) (by simp) ?_
          refine AllReadyH.cons rfl (fun K hK => ?_) ?_
          · go_simp
            refine (runLaw_calls _ 0 Ad cd Apd cpd d (HDR.out.ext hx2) Ao co (Q.take k) GK (Rep.sl_ext HGK.out hx2) (-1) rfl HWD.out HWK.out true k Y HRY.out k HLK.out L P HL.out HP.out L PY HLY.out HPY.out).mono ?_
            rintro e w1 ⟨A', c', Ap', cp', rfl, HD', HE'⟩
            have HEW := Lib.hid (hx2.ext HE'.out)
            have HBZ := Lib.hid (HE'.out.heap (show (wr.alloc (.cells #[.bool false, .int .i64 0, .slice none 0 0, .slice none 0 0] 49)).drew.heap[wr.heap.size]? = _ from heap_alloc_new wr _) (by simp))
            have mz := fun o => cell_of_row _ _ o _ _ _ HBZ.out
            have fz := fun o => frozen_of_row _ _ o _ _ HBZ.out
            go_wp2_with fail
            refine hK.out _ _ ?_ (fun hHeld => ?_)
            · exact True.intro
            clear hK K
            try simp only [Act.put, List.setIfInBounds_toArray, List.set_cons_zero, List.set_cons_succ]
            refine wpAnyH_ready (rs := [6]) (by kernel_rfl) (by simp) ?_
            refine AllReadyH.cons rfl (fun K hK => ?_) ?_
            · go_simp
              refine hK.out _ _ ?_ (fun hHeld => ?_)
              · exact True.intro
              clear hK K
              try simp only [Act.put, List.setIfInBounds_toArray, List.set_cons_zero, List.set_cons_succ]
              refine wpAnyH_done (by kernel_rfl) ?_ _
              refine NoPanic.normal ?_
              go_wp2_with fail
              go_meet
              exact RunB.fin HBZ.out (Nat.le_refl _) (by simp [World.drew]) HEW.out HD'.out
            exact AllReadyH.nil
          exact AllReadyH.nil
        exact AllReadyH.nil
      exact AllReadyH.nil
    refine AllReadyH.cons rfl (fun K hK => ?_) ?_
    · go_simp
      refine hK.out _ _ ?_ (fun hHeld => ?_)
      · exact True.intro
      clear hK K
      try simp only [Act.put, List.setIfInBounds_toArray, List.set_cons_zero, List.set_cons_succ]
      refine wpAnyH_ready (rs := [0, 3]) (by kernel_rfl) (by simp) ?_
      refine AllReadyH.cons rfl (fun K hK => ?_) ?_
      · go_simp
        refine hK.out _ _ ?_ (fun hHeld => ?_)
        · exact True.intro
        clear hK K
        try simp only [Act.put, List.setIfInBounds_toArray, List.set_cons_zero, List.set_cons_succ]
        refine wpAnyH_ready (rs := [3]) (by kernel_rfl) (by simp) ?_
        refine AllReadyH.cons rfl (fun K hK => ?_) ?_
        · go_simp
          refine hK.out _ _ ?_ (fun hHeld => ?_)
          · exact True.intro
          clear hK K
          try simp only [Act.put, List.setIfInBounds_toArray, List.set_cons_zero, List.set_cons_succ]
          refine wpAnyH_ready (rs := [4]) (by kernel_rfl) (by simp) ?_
          refine AllReadyH.cons rfl (fun K hK => ?_) ?_
          · go_simp
            refine (runLaw_calls _ 0 Ad cd Apd cpd d (HDR.out.ext hx2) Ao co (Q.take k) GK (Rep.sl_ext HGK.out hx2) (-1) rfl HWD.out HWK.out true k Y HRY.out k HLK.out L P HL.out HP.out L PY HLY.out HPY.out).mono ?_
            rintro e w1 ⟨A', c', Ap', cp', rfl, HD', HE'⟩
            have HEW := Lib.hid (hx2.ext HE'.out)
            have HBZ := Lib.hid (HE'.out.heap (show (wr.alloc (.cells #[.bool false, .int .i64 0, .slice none 0 0, .slice none 0 0] 49)).drew.heap[wr.heap.size]? = _ from heap_alloc_new wr _) (by simp))
            have mz := fun o => cell_of_row _ _ o _ _ _ HBZ.out
            have fz := fun o => frozen_of_row _ _ o _ _ HBZ.out
            go_wp2_with fail
            refine hK.out _ _ ?_ (fun hHeld => ?_)
            · exact True.intro
            clear hK K
            try simp only [Act.put, List.setIfInBounds_toArray, List.set_cons_zero, List.set_cons_succ]
            refine wpAnyH_ready (rs := [6]) (by kernel_rfl) (by simp) ?_
            refine AllReadyH.cons rfl (fun K hK => ?_) ?_
            · go_simp
              refine hK.out _ _ ?_ (fun hHeld => ?_)
              · exact True.intro
              clear hK K
              try simp only [Act.put, List.setIfInBounds_toArray, List.set_cons_zero, List.set_cons_succ]
              refine wpAnyH_done (by kernel_rfl) ?_ _
              refine NoPanic.normal ?_
              go_wp2_with fail
              go_meet
              exact RunB.fin HBZ.out (Nat.le_refl _) (by simp [World.drew]) HEW.out HD'.out
            exact AllReadyH.nil
          exact AllReadyH.nil
        exact AllReadyH.nil
      refine AllReadyH.cons rfl (fun K hK => ?_) ?_
      · go_simp
        refine hK.out _ _ ?_ (fun hHeld => ?_)
        · exact True.intro
        clear hK K
        try simp only [Act.put, List.setIfInBounds_toArray, List.set_cons_zero, List.set_cons_succ]
        refine wpAnyH_ready (rs := [0]) (by kernel_rfl) (by simp) ?_
        refine AllReadyH.cons rfl (fun K hK => ?_) ?_
        · go_simp
          refine hK.out _ _ ?_ (fun hHeld => ?_)
          · exact True.intro
          clear hK K
          try simp only [Act.put, List.setIfInBounds_toArray, List.set_cons_zero, List.set_cons_succ]
          refine wpAnyH_ready (rs := [4]) (by kernel_rfl) (by simp) ?_
          refine AllReadyH.cons rfl (fun K hK => ?_) ?_
          · go_simp
            refine (runLaw_calls _ 0 Ad cd Apd cpd d (HDR.out.ext hx2) Ao co (Q.take k) GK (Rep.sl_ext HGK.out hx2) (-1) rfl HWD.out HWK.out true k Y HRY.out k HLK.out L P HL.out HP.out L PY HLY.out HPY.out).mono ?_
            rintro e w1 ⟨A', c', Ap', cp', rfl, HD', HE'⟩
            have HEW := Lib.hid (hx2.ext HE'.out)
            have HBZ := Lib.hid (HE'.out.heap (show (wr.alloc (.cells #[.bool false, .int .i64 0, .slice none 0 0, .slice none 0 0] 49)).drew.heap[wr.heap.size]? = _ from heap_alloc_new wr _) (by simp))
            have mz := fun o => cell_of_row _ _ o _ _ _ HBZ.out
            have fz := fun o => frozen_of_row _ _ o _ _ HBZ.out
            go_wp2_with fail
            refine hK.out _ _ ?_ (fun hHeld => ?_)
            · exact True.intro
            clear hK K
            try simp only [Act.put, List.setIfInBounds_toArray, List.set_cons_zero, List.set_cons_succ]
            refine wpAnyH_ready (rs := [6]) (by kernel_rfl) (by simp) ?_
            refine AllReadyH.cons rfl (fun K hK => ?_) ?_
            · go_simp
              refine hK.out _ _ ?_ (fun hHeld => ?_)
              · exact True.intro
              clear hK K
              try simp only [Act.put, List.setIfInBounds_toArray, List.set_cons_zero, List.set_cons_succ]
              refine wpAnyH_done (by kernel_rfl) ?_ _
              refine NoPanic.normal ?_
              go_wp2_with fail
              go_meet
              exact RunB.fin HBZ.out (Nat.le_refl _) (by simp [World.drew]) HEW.out HD'.out
            exact AllReadyH.nil
          exact AllReadyH.nil
        exact AllReadyH.nil
      exact AllReadyH.nil
    exact AllReadyH.nil
  case rest =>
    obtain ⟨b10, A10, c10, Ap10, cp10, rfl, HB10, HDY, HEC⟩ := hcut
    have HEW := Lib.hid (HER.out.ext HEC.out)
    have HDW := Lib.hid (HDR.out.ext HEC.out)
    have HQW := Lib.hid (Rep.sl_ext HQR.out HEC.out)
    have HBW5 := Lib.hid (HEC.out.heap HBR5.out (by simp))
    have HBW8 := Lib.hid (HEC.out.heap HBR8.out (by simp))
    have HXW := Lib.hid (HXR.out.ext HEC.out)
    replace HSD := Lib.hid (HSD.out.elim fun G hG => ⟨G, Rep.sl_ext hG HEC.out⟩ : ∃ G, Rep.Op.sl wc (if co = k then Ao else Ao.map (·.add (k * Rep.Op.sz))) (co - k) (Q.drop k) G)
    clear HER HDR HQR HBR5 HBR8 HXR HSK HEC m5
    have m10 := fun o => cell_of_row _ _ o _ _ _ HB10.out
    go_upto_region 9 with fail
    go_cut [11] from 54 to 59 (fun p wx => RunB wc p wx true (n - k) X L PX)
    case first =>
      have md := fun o => cell_of_row _ _ o _ _ _ (show wc.drew.heap[b10]? = _ from HB10.out)
      obtain ⟨GK, hGK⟩ := HSD.out
      have hx1 : Ext wc wc.drew := (Only.refl _ _).drew
      have hx2 : Ext wc (wc.alloc (.cells #[.bool false, .int .i64 0, .slice none 0 0, .slice none 0 0] 49)).drew := (alloc_ext _ _).drew
      have hz5 : (wc.alloc (.cells #[.bool false, .int .i64 0, .slice none 0 0, .slice none 0 0] 49)).heap[b10]? = some (.cells #[.bool true, .int .i64 (k : Int), .slice A10 L c10, .slice Ap10 PY cp10] 49 (0, 0)) := (alloc_ext _ _).heap HB10.out (by simp)
      have mz1 := fun o => cell_of_row _ _ o _ _ _ hz5
      have mz2 := fun o => cell_of_row _ _ o _ _ _ (show (wc.alloc (.cells #[.bool false, .int .i64 0, .slice none 0 0, .slice none 0 0] 49)).drew.heap[b10]? = _ from hz5)
      clear hz5
      have hnk : ((n : Int) - (k : Int)).toNat = n - k := by omega
      have HGK := Lib.hid hGK
      clear hGK
      go_wp2_with fail
      refine wp_region_noPanic ?_
      refine wp_region_held_drew (S := (fun w' => True)) (by kernel_rfl) ?_ (fun hHeld => ?_)
      · exact True.intro
      refine wpAnyH_take (i := 0) (v := ?_) rfl (by kernel_rfl) (by kernel_rfl) (by kernel_rfl) (fun _ _ _ h => h) (Or.inl ⟨by rfl, ?_⟩) (by assumption) ?_
      rotate_left
      · intro w hSw; (try dsimp only at hSw); go_simp <;> with_reducible rfl
      try simp only [Act.put, List.setIfInBounds_toArray, List.set_cons_zero, List.set_cons_succ]
      refine wpAnyH_take (i := 2) (v := ?_) rfl (by kernel_rfl) (by kernel_rfl) (by kernel_rfl) (fun _ _ _ h => h) (Or.inl ⟨by rfl, ?_⟩) (by assumption) ?_
      rotate_left
      · intro w hSw; (try dsimp only at hSw); go_simp <;> with_reducible rfl
      try simp only [Act.put, List.setIfInBounds_toArray, List.set_cons_zero, List.set_cons_succ]
      refine wpAnyH_take (i := 3) (v := ?_) rfl (by kernel_rfl) (by kernel_rfl) (by kernel_rfl) (fun _ _ _ h => h) (Or.inl ⟨by rfl, ?_⟩) (by assumption) ?_
      rotate_left
      · intro w hSw; (try dsimp only at hSw); go_simp <;> with_reducible rfl
      try simp only [Act.put, List.setIfInBounds_toArray, List.set_cons_zero, List.set_cons_succ]
      refine wpAnyH_ready (rs := [1, 4, 6]) (by kernel_rfl) (by simp) ?_
      refine AllReadyH.cons rfl (fun K hK => ?_) ?_
      · go_simp
        refine hK.out _ _ ?_ (fun hHeld => ?_)
        · exact True.intro
        clear hK K
        try simp only [Act.put, List.setIfInBounds_toArray, List.set_cons_zero, List.set_cons_succ]
        refine wpAnyH_ready (rs := [4, 6]) (by kernel_rfl) (by simp) ?_
        refine AllReadyH.cons rfl (fun K hK => ?_) ?_
        · go_simp
          refine hK.out _ _ ?_ (fun hHeld => ?_)
          · exact True.intro
          clear hK K
          try simp only [Act.put, List.setIfInBounds_toArray, List.set_cons_zero, List.set_cons_succ]
          refine wpAnyH_ready (rs := [5, 6]) (by kernel_rfl) (by simp) ?_
          refine AllReadyH.cons rfl (fun K hK => ?_) ?_
          · go_simp
            refine (runLaw_calls _ 0 A10 c10 Ap10 cp10 Y (HDY.out.ext hx1) _ _ (Q.drop k) GK (Rep.sl_ext HGK.out hx1) (-1) rfl HWY.out HWR.out true (n - k) X HRT.out (n - k) HLD.out L PY HLY.out HPY.out L PX HLX.out HPX.out).mono ?_
            rintro e w1 ⟨A', c', Ap', cp', rfl, HD', HE'⟩
            have HEW := Lib.hid (hx1.ext HE'.out)
            dsimp only
            refine hK.out _ _ ?_ (fun hHeld => ?_)
            · exact True.intro
            clear hK K
            try simp only [Act.put, List.setIfInBounds_toArray, List.set_cons_zero, List.set_cons_succ]
            refine wpAnyH_ready (rs := [6]) (by kernel_rfl) (by simp) ?_
            refine AllReadyH.cons rfl (fun K hK => ?_) ?_
            · go_simp
              refine hK.out _ _ ?_ (fun hHeld => ?_)
              · exact True.intro
              clear hK K
              try simp only [Act.put, List.setIfInBounds_toArray, List.set_cons_zero, List.set_cons_succ]
              refine wpAnyH_ready (rs := [7]) (by kernel_rfl) (by simp) ?_
              refine AllReadyH.cons rfl (fun K hK => ?_) ?_
              · go_simp
                refine hK.out _ _ ?_ (fun hHeld => ?_)
                · exact True.intro
                clear hK K
                try simp only [Act.put, List.setIfInBounds_toArray, List.set_cons_zero, List.set_cons_succ]
                refine wpAnyH_done (by kernel_rfl) ?_ _
                refine NoPanic.normal ?_
                (repeat (first | go_values | go_skip | go_guarded | go_step | go_upon | go_back))
                go_meet
                exact RunB.fin2 rfl HEW.out HD'.out
              exact AllReadyH.nil
            exact AllReadyH.nil
          refine AllReadyH.cons rfl (fun K hK => ?_) ?_
          · go_simp
            refine hK.out _ _ ?_ (fun hHeld => ?_)
            · exact True.intro
            clear hK K
            try simp only [Act.put, List.setIfInBounds_toArray, List.set_cons_zero, List.set_cons_succ]
            refine wpAnyH_ready (rs := [5]) (by kernel_rfl) (by simp) ?_
            refine AllReadyH.cons rfl (fun K hK => ?_) ?_
            · go_simp
              refine (runLaw_calls _ 0 A10 c10 Ap10 cp10 Y (HDY.out.ext hx2) _ _ (Q.drop k) GK (Rep.sl_ext HGK.out hx2) (-1) rfl HWY.out HWR.out true (n - k) X HRT.out (n - k) HLD.out L PY HLY.out HPY.out L PX HLX.out HPX.out).mono ?_
              rintro e w1 ⟨A', c', Ap', cp', rfl, HD', HE'⟩
              have HEW := Lib.hid (hx2.ext HE'.out)
              have HBZ := Lib.hid (HE'.out.heap (show (wc.alloc (.cells #[.bool false, .int .i64 0, .slice none 0 0, .slice none 0 0] 49)).drew.heap[wc.heap.size]? = _ from heap_alloc_new wc _) (by simp))
              have mz := fun o => cell_of_row _ _ o _ _ _ HBZ.out
              have fz := fun o => frozen_of_row _ _ o _ _ HBZ.out
              dsimp only
              refine hK.out _ _ ?_ (fun hHeld => ?_)
              · exact True.intro
              clear hK K
              try simp only [Act.put, List.setIfInBounds_toArray, List.set_cons_zero, List.set_cons_succ]
              refine wpAnyH_ready (rs := [7]) (by kernel_rfl) (by simp) ?_
              refine AllReadyH.cons rfl (fun K hK => ?_) ?_
              · go_simp
                refine hK.out _ _ ?_ (fun hHeld => ?_)
                · exact True.intro
                clear hK K
                try simp only [Act.put, List.setIfInBounds_toArray, List.set_cons_zero, List.set_cons_succ]
                refine wpAnyH_done (by kernel_rfl) ?_ _
                refine NoPanic.normal ?_
                (repeat (first | go_values | go_skip | go_guarded | go_step | go_upon | go_back))
                go_meet
                exact RunB.fin HBZ.out (Nat.le_refl _) (by simp [World.drew]) HEW.out HD'.out
              exact AllReadyH.nil
            exact AllReadyH.nil
          exact AllReadyH.nil
        refine AllReadyH.cons rfl (fun K hK => ?_) ?_
        · go_simp
          refine hK.out _ _ ?_ (fun hHeld => ?_)
          · exact True.intro
          clear hK K
          try simp only [Act.put, List.setIfInBounds_toArray, List.set_cons_zero, List.set_cons_succ]
          refine wpAnyH_ready (rs := [4]) (by kernel_rfl) (by simp) ?_
          refine AllReadyH.cons rfl (fun K hK => ?_) ?_
          · go_simp
            refine hK.out _ _ ?_ (fun hHeld => ?_)
            · exact True.intro
            clear hK K
            try simp only [Act.put, List.setIfInBounds_toArray, List.set_cons_zero, List.set_cons_succ]
            refine wpAnyH_ready (rs := [5]) (by kernel_rfl) (by simp) ?_
            refine AllReadyH.cons rfl (fun K hK => ?_) ?_
            · go_simp
              refine (runLaw_calls _ 0 A10 c10 Ap10 cp10 Y (HDY.out.ext hx2) _ _ (Q.drop k) GK (Rep.sl_ext HGK.out hx2) (-1) rfl HWY.out HWR.out true (n - k) X HRT.out (n - k) HLD.out L PY HLY.out HPY.out L PX HLX.out HPX.out).mono ?_
              rintro e w1 ⟨A', c', Ap', cp', rfl, HD', HE'⟩
              have HEW := Lib.hid (hx2.ext HE'.out)
              have HBZ := Lib.hid (HE'.out.heap (show (wc.alloc (.cells #[.bool false, .int .i64 0, .slice none 0 0, .slice none 0 0] 49)).drew.heap[wc.heap.size]? = _ from heap_alloc_new wc _) (by simp))
              have mz := fun o => cell_of_row _ _ o _ _ _ HBZ.out
              have fz := fun o => frozen_of_row _ _ o _ _ HBZ.out
              dsimp only
              refine hK.out _ _ ?_ (fun hHeld => ?_)
              · exact True.intro
              clear hK K
              try simp only [Act.put, List.setIfInBounds_toArray, List.set_cons_zero, List.set_cons_succ]
              refine wpAnyH_ready (rs := [7]) (by kernel_rfl) (by simp) ?_
              refine AllReadyH.cons rfl (fun K hK => ?_) ?_
              · go_simp
                refine hK.out _ _ ?_ (fun hHeld => ?_)
                · exact True.intro
                clear hK K
                try simp only [Act.put, List.setIfInBounds_toArray, List.set_cons_zero, List.set_cons_succ]
                refine wpAnyH_done (by kernel_rfl) ?_ _
                refine NoPanic.normal ?_
                (repeat (first | go_values | go_skip | go_guarded | go_step | go_upon | go_back))
                go_meet
                exact RunB.fin HBZ.out (Nat.le_refl _) (by simp [World.drew]) HEW.out HD'.out
              exact AllReadyH.nil
            exact AllReadyH.nil
          exact AllReadyH.nil
        exact AllReadyH.nil
      refine AllReadyH.cons rfl (fun K hK => ?_) ?_
      · go_simp
        refine hK.out _ _ ?_ (fun hHeld => ?_)
        · exact True.intro
        clear hK K
        try simp only [Act.put, List.setIfInBounds_toArray, List.set_cons_zero, List.set_cons_succ]
        refine wpAnyH_ready (rs := [1, 6]) (by kernel_rfl) (by simp) ?_
        refine AllReadyH.cons rfl (fun K hK => ?_) ?_
        · go_simp
          refine hK.out _ _ ?_ (fun hHeld => ?_)
          · exact True.intro
          clear hK K
          try simp only [Act.put, List.setIfInBounds_toArray, List.set_cons_zero, List.set_cons_succ]
          refine wpAnyH_ready (rs := [5, 6]) (by kernel_rfl) (by simp) ?_
          refine AllReadyH.cons rfl (fun K hK => ?_) ?_
          · go_simp
            refine (runLaw_calls _ 0 A10 c10 Ap10 cp10 Y (HDY.out.ext hx1) _ _ (Q.drop k) GK (Rep.sl_ext HGK.out hx1) (-1) rfl HWY.out HWR.out true (n - k) X HRT.out (n - k) HLD.out L PY HLY.out HPY.out L PX HLX.out HPX.out).mono ?_
            rintro e w1 ⟨A', c', Ap', cp', rfl, HD', HE'⟩
            have HEW := Lib.hid (hx1.ext HE'.out)
            dsimp only
            refine hK.out _ _ ?_ (fun hHeld => ?_)
            · exact True.intro
            clear hK K
            try simp only [Act.put, List.setIfInBounds_toArray, List.set_cons_zero, List.set_cons_succ]
            refine wpAnyH_ready (rs := [6]) (by kernel_rfl) (by simp) ?_
            refine AllReadyH.cons rfl (fun K hK => ?_) ?_
            · go_simp
              refine hK.out _ _ ?_ (fun hHeld => ?_)
              · exact True.intro
              clear hK K
              try simp only [Act.put, List.setIfInBounds_toArray, List.set_cons_zero, List.set_cons_succ]
              refine wpAnyH_ready (rs := [7]) (by kernel_rfl) (by simp) ?_
              refine AllReadyH.cons rfl (fun K hK => ?_) ?_
              · go_simp
                refine hK.out _ _ ?_ (fun hHeld => ?_)
                · exact True.intro
                clear hK K
                try simp only [Act.put, List.setIfInBounds_toArray, List.set_cons_zero, List.set_cons_succ]
                refine wpAnyH_done (by kernel_rfl) ?_ _
                refine NoPanic.normal ?_
                (repeat (first | go_values | go_skip | go_guarded | go_step | go_upon | go_back))
                go_meet
                exact RunB.fin2 rfl HEW.out HD'.out
              exact AllReadyH.nil
            exact AllReadyH.nil
          refine AllReadyH.cons rfl (fun K hK => ?_) ?_
          · go_simp
            refine hK.out _ _ ?_ (fun hHeld => ?_)
            · exact True.intro
            clear hK K
            try simp only [Act.put, List.setIfInBounds_toArray, List.set_cons_zero, List.set_cons_succ]
            refine wpAnyH_ready (rs := [5]) (by kernel_rfl) (by simp) ?_
            refine AllReadyH.cons rfl (fun K hK => ?_) ?_
            · go_simp
              refine (runLaw_calls _ 0 A10 c10 Ap10 cp10 Y (HDY.out.ext hx2) _ _ (Q.drop k) GK (Rep.sl_ext HGK.out hx2) (-1) rfl HWY.out HWR.out true (n - k) X HRT.out (n - k) HLD.out L PY HLY.out HPY.out L PX HLX.out HPX.out).mono ?_
              rintro e w1 ⟨A', c', Ap', cp', rfl, HD', HE'⟩
              have HEW := Lib.hid (hx2.ext HE'.out)
              have HBZ := Lib.hid (HE'.out.heap (show (wc.alloc (.cells #[.bool false, .int .i64 0, .slice none 0 0, .slice none 0 0] 49)).drew.heap[wc.heap.size]? = _ from heap_alloc_new wc _) (by simp))
              have mz := fun o => cell_of_row _ _ o _ _ _ HBZ.out
              have fz := fun o => frozen_of_row _ _ o _ _ HBZ.out
              dsimp only
              refine hK.out _ _ ?_ (fun hHeld => ?_)
              · exact True.intro
              clear hK K
              try simp only [Act.put, List.setIfInBounds_toArray, List.set_cons_zero, List.set_cons_succ]
              refine wpAnyH_ready (rs := [7]) (by kernel_rfl) (by simp) ?_
              refine AllReadyH.cons rfl (fun K hK => ?_) ?_
              · go_simp
                refine hK.out _ _ ?_ (fun hHeld => ?_)
                · exact True.intro
                clear hK K
                try simp only [Act.put, List.setIfInBounds_toArray, List.set_cons_zero, List.set_cons_succ]
                refine wpAnyH_done (by kernel_rfl) ?_ _
                refine NoPanic.normal ?_
                (repeat (first | go_values | go_skip | go_guarded | go_step | go_upon | go_back))
                go_meet
                exact RunB.fin HBZ.out (Nat.le_refl _) (by simp [World.drew]) HEW.out HD'.out
              exact AllReadyH.nil
            exact AllReadyH.nil
          exact AllReadyH.nil
        refine AllReadyH.cons rfl (fun K hK => ?_) ?_
        · go_simp
          refine hK.out _ _ ?_ (fun hHeld => ?_)
          · exact True.intro
          clear hK K
          try simp only [Act.put, List.setIfInBounds_toArray, List.set_cons_zero, List.set_cons_succ]
          refine wpAnyH_ready (rs := [1]) (by kernel_rfl) (by simp) ?_
          refine AllReadyH.cons rfl (fun K hK => ?_) ?_
          · go_simp
            refine hK.out _ _ ?_ (fun hHeld => ?_)
            · exact True.intro
            clear hK K
            try simp only [Act.put, List.setIfInBounds_toArray, List.set_cons_zero, List.set_cons_succ]
            refine wpAnyH_ready (rs := [5]) (by kernel_rfl) (by simp) ?_
            refine AllReadyH.cons rfl (fun K hK => ?_) ?_
            · go_simp
              refine (runLaw_calls _ 0 A10 c10 Ap10 cp10 Y (HDY.out.ext hx2) _ _ (Q.drop k) GK (Rep.sl_ext HGK.out hx2) (-1) rfl HWY.out HWR.out true (n - k) X HRT.out (n - k) HLD.out L PY HLY.out HPY.out L PX HLX.out HPX.out).mono ?_
              rintro e w1 ⟨A', c', Ap', cp', rfl, HD', HE'⟩
              have HEW := Lib.hid (hx2.ext HE'.out)
              have HBZ := Lib.hid (HE'.out.heap (show (wc.alloc (.cells #[.bool false, .int .i64 0, .slice none 0 0, .slice none 0 0] 49)).drew.heap[wc.heap.size]? = _ from heap_alloc_new wc _) (by simp))
              have mz := fun o => cell_of_row _ _ o _ _ _ HBZ.out
              have fz := fun o => frozen_of_row _ _ o _ _ HBZ.out
              dsimp only
              refine hK.out _ _ ?_ (fun hHeld => ?_)
              · exact True.intro
              clear hK K
              try simp only [Act.put, List.setIfInBounds_toArray, List.set_cons_zero, List.set_cons_succ]
              refine wpAnyH_ready (rs := [7]) (by kernel_rfl) (by simp) ?_
              refine AllReadyH.cons rfl (fun K hK => ?_) ?_
              · go_simp
                refine hK.out _ _ ?_ (fun hHeld => ?_)
                · exact True.intro
                clear hK K
                try simp only [Act.put, List.setIfInBounds_toArray, List.set_cons_zero, List.set_cons_succ]
                refine wpAnyH_done (by kernel_rfl) ?_ _
                refine NoPanic.normal ?_
                (repeat (first | go_values | go_skip | go_guarded | go_step | go_upon | go_back))
                go_meet
                exact RunB.fin HBZ.out (Nat.le_refl _) (by simp [World.drew]) HEW.out HD'.out
              exact AllReadyH.nil
            exact AllReadyH.nil
          exact AllReadyH.nil
        exact AllReadyH.nil
      refine AllReadyH.cons rfl (fun K hK => ?_) ?_
      · go_simp
        refine hK.out _ _ ?_ (fun hHeld => ?_)
        · exact True.intro
        clear hK K
        try simp only [Act.put, List.setIfInBounds_toArray, List.set_cons_zero, List.set_cons_succ]
        refine wpAnyH_ready (rs := [1, 4]) (by kernel_rfl) (by simp) ?_
        refine AllReadyH.cons rfl (fun K hK => ?_) ?_
        · go_simp
          refine hK.out _ _ ?_ (fun hHeld => ?_)
          · exact True.intro
          clear hK K
          try simp only [Act.put, List.setIfInBounds_toArray, List.set_cons_zero, List.set_cons_succ]
          refine wpAnyH_ready (rs := [4]) (by kernel_rfl) (by simp) ?_
          refine AllReadyH.cons rfl (fun K hK => ?_) ?_
          · go_simp
            refine hK.out _ _ ?_ (fun hHeld => ?_)
            · exact True.intro
            clear hK K
            try simp only [Act.put, List.setIfInBounds_toArray, List.set_cons_zero, List.set_cons_succ]
            refine wpAnyH_ready (rs := [5]) (by kernel_rfl) (by simp) ?_
            refine AllReadyH.cons rfl (fun K hK => ?_) ?_
            · go_simp
              refine (runLaw_calls _ 0 A10 c10 Ap10 cp10 Y (HDY.out.ext hx2) _ _ (Q.drop k) GK (Rep.sl_ext HGK.out hx2) (-1) rfl HWY.out HWR.out true (n - k) X HRT.out (n - k) HLD.out L PY HLY.out HPY.out L PX HLX.out HPX.out).mono ?_
              rintro e w1 ⟨A', c', Ap', cp', rfl, HD', HE'⟩
              have HEW := Lib.hid (hx2.ext HE'.out)
              have HBZ := Lib.hid (HE'.out.heap (show (wc.alloc (.cells #[.bool false, .int .i64 0, .slice none 0 0, .slice none 0 0] 49)).drew.heap[wc.heap.size]? = _ from heap_alloc_new wc _) (by simp))
              have mz := fun o => cell_of_row _ _ o _ _ _ HBZ.out
              have fz := fun o => frozen_of_row _ _ o _ _ HBZ.out
              dsimp only
              refine hK.out _ _ ?_ (fun hHeld => ?_)
              · exact True.intro
              clear hK K
              try simp only [Act.put, List.setIfInBounds_toArray, List.set_cons_zero, List.set_cons_succ]
              refine wpAnyH_ready (rs := [7]) (by kernel_rfl) (by simp) ?_
              refine AllReadyH.cons rfl (fun K hK => ?_) ?_
              · go_simp
                refine hK.out _ _ ?_ (fun hHeld => ?_)
                · exact True.intro
                clear hK K
                try simp only [Act.put, List.setIfInBounds_toArray, List.set_cons_zero, List.set_cons_succ]
                refine wpAnyH_done (by kernel_rfl) ?_ _
                refine NoPanic.normal ?_
                (repeat (first | go_values | go_skip | go_guarded | go_step | go_upon | go_back))
                go_meet
                exact RunB.fin HBZ.out (Nat.le_refl _) (by simp [World.drew]) HEW.out HD'.out
              exact AllReadyH.nil
            exact AllReadyH.nil
          exact AllReadyH.nil
        refine AllReadyH.cons rfl (fun K hK => ?_) ?_
        · go_simp
          refine hK.out _ _ ?_ (fun hHeld => ?_)
          · exact True.intro
          clear hK K
          try simp only [Act.put, List.setIfInBounds_toArray, List.set_cons_zero, List.set_cons_succ]
          refine wpAnyH_ready (rs := [1]) (by kernel_rfl) (by simp) ?_
          refine AllReadyH.cons rfl (fun K hK => ?_) ?_
          · go_simp
            refine hK.out _ _ ?_ (fun hHeld => ?_)
            · exact True.intro
            clear hK K
            try simp only [Act.put, List.setIfInBounds_toArray, List.set_cons_zero, List.set_cons_succ]
            refine wpAnyH_ready (rs := [5]) (by kernel_rfl) (by simp) ?_
            refine AllReadyH.cons rfl (fun K hK => ?_) ?_
            · go_simp
              refine (runLaw_calls _ 0 A10 c10 Ap10 cp10 Y (HDY.out.ext hx2) _ _ (Q.drop k) GK (Rep.sl_ext HGK.out hx2) (-1) rfl HWY.out HWR.out true (n - k) X HRT.out (n - k) HLD.out L PY HLY.out HPY.out L PX HLX.out HPX.out).mono ?_
              rintro e w1 ⟨A', c', Ap', cp', rfl, HD', HE'⟩
              have HEW := Lib.hid (hx2.ext HE'.out)
              have HBZ := Lib.hid (HE'.out.heap (show (wc.alloc (.cells #[.bool false, .int .i64 0, .slice none 0 0, .slice none 0 0] 49)).drew.heap[wc.heap.size]? = _ from heap_alloc_new wc _) (by simp))
              have mz := fun o => cell_of_row _ _ o _ _ _ HBZ.out
              have fz := fun o => frozen_of_row _ _ o _ _ HBZ.out
              dsimp only
              refine hK.out _ _ ?_ (fun hHeld => ?_)
              · exact True.intro
              clear hK K
              try simp only [Act.put, List.setIfInBounds_toArray, List.set_cons_zero, List.set_cons_succ]
              refine wpAnyH_ready (rs := [7]) (by kernel_rfl) (by simp) ?_
              refine AllReadyH.cons rfl (fun K hK => ?_) ?_
              · go_simp
                refine hK.out _ _ ?_ (fun hHeld => ?_)
                · exact True.intro
                clear hK K
                try simp only [Act.put, List.setIfInBounds_toArray, List.set_cons_zero, List.set_cons_succ]
                refine wpAnyH_done (by kernel_rfl) ?_ _
                refine NoPanic.normal ?_
                (repeat (first | go_values | go_skip | go_guarded | go_step | go_upon | go_back))
                go_meet
                exact RunB.fin HBZ.out (Nat.le_refl _) (by simp [World.drew]) HEW.out HD'.out
              exact AllReadyH.nil
            exact AllReadyH.nil
          exact AllReadyH.nil
        exact AllReadyH.nil
      exact AllReadyH.nil
    case rest =>
      obtain ⟨b11, A11, c11, Ap11, cp11, rfl, HB11, HDT, HEC⟩ := hcut
      have HEV := Lib.hid (HEW.out.ext HEC.out)
      have HDV := Lib.hid (HDW.out.ext HEC.out)
      have HQV := Lib.hid (Rep.sl_ext HQW.out HEC.out)
      have HBV5 := Lib.hid (HEC.out.heap HBW5.out (by simp))
      have HBV8 := Lib.hid (HEC.out.heap HBW8.out (by simp))
      have HBV10 := Lib.hid (HEC.out.heap HB10.out (by simp))
      have HXV := Lib.hid (HXW.out.ext HEC.out)
      have HYV := Lib.hid (HDY.out.ext HEC.out)
      clear HEW HDW HQW HBW5 HBW8 HB10 HXW HDY HSD HEC m10
      have m5 := fun o => cell_of_row _ _ o _ _ _ HBV5.out
      obtain ⟨bd, hbd⟩ : ∃ b, b = decide (k = n) := ⟨_, rfl⟩
      rw [← hbd] at HRC
      have hkb : ((k : Int) == (n : Int)) = bd := by
        rw [hbd]
        by_cases hc : k = n
        · simp [hc]
        · simp [hc]; omega
      clear hbd
      go_wp2_with (go_at_call 30; refine (runLaw_calls _ 0 Ad cd Apd cpd d HDV.out Ao co Q Fo HQV.out k (small64 (by omega) (by omega)) HWD.out (by have := HWQ.out; omega) bd k Y HRC.out n HN.out L P HL.out HP.out L PY HLY.out HPY.out).mono ?_; rintro e w12 ⟨A12, c12, Ap12, cp12, rfl, HDC, HEX⟩; refine Hid.out ?_)
      refine Lib.hid ?_
      go_upto_region 11 with fail
      have HE12 := Lib.hid (HEX.out.ext (alloc_ext w12 (.cells #[.bool bd, .int .i64 (k : Int), .slice A12 L c12, .slice Ap12 PY cp12] 49)))
      have HB12 := Lib.hid (heap_alloc_new w12 (.cells #[.bool bd, .int .i64 (k : Int), .slice A12 L c12, .slice Ap12 PY cp12] 49))
      have HC12 := Lib.hid ((HDC.out.ext (alloc_ext w12 (.cells #[.bool bd, .int .i64 (k : Int), .slice A12 L c12, .slice Ap12 PY cp12] 49))).mono (Nat.zero_le _))
      obtain ⟨b12, hb12⟩ : ∃ b, b = w12.heap.size := ⟨_, rfl⟩
      rw [← hb12] at HB12 ⊢
      generalize (w12.alloc (.cells #[.bool bd, .int .i64 (k : Int), .slice A12 L c12, .slice Ap12 PY cp12] 49)) = wq at *
      have HEQ := Lib.hid (HEV.out.ext HE12.out)
      have R5 := Lib.hid (HE12.out.heap HBV5.out (by simp))
      have R8 := Lib.hid (HE12.out.heap HBV8.out (by simp))
      have R10 := Lib.hid (HE12.out.heap HBV10.out (by simp))
      have R11 := Lib.hid (HE12.out.heap HB11.out (by simp))
      have X8 := Lib.hid (HXV.out.ext HE12.out)
      have Y10 := Lib.hid (HYV.out.ext HE12.out)
      have X11 := Lib.hid (HDT.out.ext HE12.out)
      clear hb12 HEV HBV5 HBV8 HBV10 HB11 HXV HYV HDT HE12 HDC HEX m5 HDV HQV
      have m8 := fun o => cell_of_row _ _ o _ _ _ R8.out
      have m10 := fun o => cell_of_row _ _ o _ _ _ R10.out
      have m11 := fun o => cell_of_row _ _ o _ _ _ R11.out
      have m12 := fun o => cell_of_row _ _ o _ _ _ HB12.out
      go_upto_region 13 with (first
        | (go_at_call 40; refine (sameLaw_calls wS 0 0 A12 c12 Ap12 cp12 A10 c10 Ap10 cp10 Y (HC12.out.ext HS1.out) (Y10.out.ext HS1.out) L PY HLY.out HPY.out).mono ?_; rintro e wT ⟨rfl, HS2⟩; have n12b := fun o => cell_of_row _ _ o _ _ _ (HS2.out.heap (HS1.out.heap HB12.out (by simp)) (by simp)))
        | (go_at_call 40; refine (sameLaw_calls _ 0 0 A11 c11 Ap11 cp11 Ax cx Apx cpx X X11.out X8.out L PX HLX.out HPX.out).mono ?_; rintro e wS ⟨rfl, HS1⟩; have n12 := fun o => cell_of_row _ _ o _ _ _ (HS1.out.heap HB12.out (by simp)); have n10 := fun o => cell_of_row _ _ o _ _ _ (HS1.out.heap R10.out (by simp))))
      have HST := Lib.hid (HS1.out.ext HS2.out)
      clear m8 m10 m11 m12 n12 n10 n12b HS1 HS2
      go_upto_region 14 with (go_at_call 41; refine (lwKeep_calls A2 c2 ms F2 _ (Rep.sl_ext H2.out (HEQ.out.ext HST.out)) HLEN2.out).mono ?_; rintro e wk ⟨Ak, ck, ks, Fk, rfl, HKL, HKS, -, HKE⟩; rw [HKL.out])
      have HQK := Lib.hid (HST.out.ext HKE.out)
      have U8 := Lib.hid (HQK.out.heap R8.out (by simp))
      have m8 := fun o => cell_of_row _ _ o _ _ _ U8.out
      have HCR := crash_room HVX.out ks
      have HSR := sync_room HVX.out
      obtain ⟨C, hC⟩ : ∃ C, diskCrash X ks = C := ⟨_, rfl⟩
      obtain ⟨S, hS⟩ : ∃ S, diskSync X = S := ⟨_, rfl⟩
      rw [hC] at HCR
      rw [hS] at HSR
      have HCL := Lib.hid (show L = C.Durable.length by rw [HCR.1]; exact HLX.out)
      have HSL := Lib.hid (show L = S.Durable.length by rw [HSR.1]; exact HLX.out)
      have HCP := Lib.hid (show 0 = C.Pending.length by rw [HCR.2]; rfl)
      have HSP := Lib.hid (show 0 = S.Pending.length by rw [HSR.2]; rfl)
      have HC := Lib.hid hC; have HS := Lib.hid hS
      clear HCR HSR hC hS
      go_wp2_with (go_at_call 24; refine (crashLaw_calls _ 0 Ax cx Apx cpx X (X8.out.ext HQK.out) HWX.out Ak ck ks Fk HKS.out (by rw [HKL.out]; decide) 60 HKL.out.symm C HC.out L PX HLX.out HPX.out L 0 HCL.out HCP.out).mono ?_; rintro e w14 ⟨AC, cC, ApC, cpC, rfl, HDC, HEC⟩; refine Hid.out ?_)
      refine Lib.hid ?_
      go_upto_region 15 with fail
      have HE14 := Lib.hid (HEC.out.ext (alloc_ext w14 (.cells #[.slice AC L cC, .slice ApC 0 cpC] 29)))
      have R14 := Lib.hid (heap_alloc_new w14 (.cells #[.slice AC L cC, .slice ApC 0 cpC] 29))
      have D14 := Lib.hid (HDC.out.ext (alloc_ext w14 (.cells #[.slice AC L cC, .slice ApC 0 cpC] 29)))
      obtain ⟨b14, hb14⟩ : ∃ b, b = w14.heap.size := ⟨_, rfl⟩
      rw [← hb14] at R14 ⊢
      generalize (w14.alloc (.cells #[.slice AC L cC, .slice ApC 0 cpC] 29)) = wu at *
      clear hb14 HDC HEC m8
      have HQU := Lib.hid (HQK.out.ext HE14.out)
      have V8 := Lib.hid (HQU.out.heap R8.out (by simp))
      have m8 := fun o => cell_of_row _ _ o _ _ _ V8.out
      go_wp2_with (go_at_call 13; refine (syncLaw_calls _ 0 Ax cx Apx cpx X (X8.out.ext HQU.out) HWX.out S HS.out L PX HLX.out HPX.out L 0 HSL.out HSP.out).mono ?_; rintro e w15 ⟨AS, cS, ApS, cpS, rfl, HDS, HES⟩; refine Hid.out ?_)
      refine Lib.hid ?_
      go_upto_region 16 with fail
      have HE15 := Lib.hid (HES.out.ext (alloc_ext w15 (.cells #[.slice AS L cS, .slice ApS 0 cpS] 29)))
      have R15 := Lib.hid (heap_alloc_new w15 (.cells #[.slice AS L cS, .slice ApS 0 cpS] 29))
      have D15 := Lib.hid (HDS.out.ext (alloc_ext w15 (.cells #[.slice AS L cS, .slice ApS 0 cpS] 29)))
      obtain ⟨b15, hb15⟩ : ∃ b, b = w15.heap.size := ⟨_, rfl⟩
      rw [← hb15] at R15 ⊢
      generalize (w15.alloc (.cells #[.slice AS L cS, .slice ApS 0 cpS] 29)) = wv' at *
      clear hb15 HDS HES m8
      have HQV := Lib.hid (HQU.out.ext HE15.out)
      have S5 := Lib.hid (HQV.out.heap R5.out (by simp))
      have S8 := Lib.hid (HQV.out.heap R8.out (by simp))
      have S14 := Lib.hid (HE15.out.heap R14.out (by simp))
      have S15 := R15
      have XX := Lib.hid (X8.out.ext HQV.out)
      have XC := Lib.hid (D14.out.ext HE15.out)
      have XS := D15
      have HKV := Lib.hid (Rep.sl_ext HKS.out (HE14.out.ext HE15.out))
      have HEZ := Lib.hid (HEQ.out.ext HQV.out)
      clear HQU V8 U8 HQK R5 R8 R10 R11 HB12 R14 R15 D14 D15 X8 Y10 X11 HC12 HE14 HE15 HKS HKE HEQ HQV HST
      have m5 := fun o => cell_of_row _ _ o _ _ _ S5.out
      have m14 := fun o => cell_of_row _ _ o _ _ _ S14.out
      have m15 := fun o => cell_of_row _ _ o _ _ _ S15.out
      go_upto_region 19 with fail
      have hv := valid_facts HVX.out
      obtain ⟨M, hM⟩ : ∃ M, M = L / 512 := ⟨_, rfl⟩
      have hLM : L = M * 512 := by have h1 := HLX.out; have h2 := hv.1; omega
      have hLs : 512 ≤ L ∧ L ≤ 524288 := by have h1 := HLX.out; have h2 := hv.2.1; have h3 := hv.2.2.1; omega
      have hPs : PX ≤ 8192 := by have h1 := HPX.out; have h2 := hv.2.2.2.1; omega
      have HOK := Lib.hid (show ∀ x ∈ X.Pending, okW (X.Durable.length / 512) x = true from fun x hx => List.all_eq_true.1 hv.2.2.2.2 x hx)
      have hq : (L : Int) / 512 = (M : Int) := by omega
      have HLM := Lib.hid hLM
      obtain ⟨hL1, hL2⟩ := hLs
      clear hv hM hLM
      obtain ⟨Fx, Gx, hx1, hx2, -⟩ := XX.out
      obtain ⟨Fc, Gc, hc1, -⟩ := XC.out
      obtain ⟨Fs, Gs, hs1, -⟩ := XS.out
      obtain ⟨gx, ox, rfl⟩ := sl_some hx1 (by rw [← HLX.out]; omega)
      obtain ⟨gc, oc, rfl⟩ := sl_some hc1 (by rw [← HCL.out]; omega)
      obtain ⟨gs, os, rfl⟩ := sl_some hs1 (by rw [← HSL.out]; omega)
      have kx : L ≤ cx := by rw [HLX.out]; exact hx1.1
      have kc : L ≤ cC := by rw [HCL.out]; exact hc1.1
      have ks' : L ≤ cS := by rw [HSL.out]; exact hs1.1
      have BX := Lib.hid (show SL wv' _ _ X.Durable from ⟨_, hx1⟩)
      have BC := Lib.hid (show SL wv' _ _ C.Durable from ⟨_, hc1⟩)
      have BS := Lib.hid (show SL wv' _ _ S.Durable from ⟨_, hs1⟩)
      have BP := Lib.hid hx2
      clear hx1 hx2 hc1 hs1 XC XS m5 m14 m15
      go_loopg [16] M (fun m i wz => ∃ j : Nat, m + j = M ∧ i = .int .i64 j ∧ Hid (Ext wv' wz))
      case atStart => exact ⟨0, by simp, rfl, Lib.hid (Only.refl _ _)⟩
      case round =>
        obtain ⟨wz, rfl⟩ : ∃ w', w' = wr := ⟨_, rfl⟩
        obtain ⟨g0, rfl⟩ : ∃ m, m = gk := ⟨_, rfl⟩
        obtain ⟨j, hj, rfl, HZ⟩ := hrel
        have Z5 := Lib.hid (HZ.out.heap S5.out (by simp))
        have m5 := fun o => cell_of_row _ _ o _ _ _ Z5.out
        by_cases hjm : j < M
        · have HJ := Lib.hid hj
          clear hj
          have hjL : j * 512 + 512 ≤ L := by have := HLM.out; omega
          have Z8 := Lib.hid (HZ.out.heap S8.out (by simp))
          have Z14 := Lib.hid (HZ.out.heap S14.out (by simp))
          have Z15 := Lib.hid (HZ.out.heap S15.out (by simp))
          have m8 := fun o => cell_of_row _ _ o _ _ _ Z8.out
          have hjI : (j : Int) < (M : Int) := by omega
          have q0 : IntKind.i64.wrap ((j : Int) * 512) = (j : Int) * 512 := wrap_small _ (by omega) (by omega)
          have q1 : ((j : Int) * 512).toNat = j * 512 := by omega
          have q2 : IntKind.i64.wrap (((j : Int) + 1) * 512) = (j : Int) * 512 + 512 := by rw [wrap_small _ (by omega) (by omega)]; omega
          have q3 : ((j : Int) * 512 + 512).toNat = j * 512 + 512 := by omega
          have q4 : ¬ cx = j * 512 := by omega
          have q5 : (j : Int) * 512 + 512 ≤ (cx : Int) := by omega
          have q6 : (0 : Int) ≤ (j : Int) * 512 := by omega
          have q7 : ¬ cC = j * 512 := by omega
          have q8 : (j : Int) * 512 + 512 ≤ (cC : Int) := by omega
          have q9 : ¬ cS = j * 512 := by omega
          have q10 : (j : Int) * 512 + 512 ≤ (cS : Int) := by omega
          have hwas := sect_SL (BX.out.ext HZ.out) j (by rw [← HLX.out]; exact hjL)
          have hwl := sect_len X.Durable j (by rw [← HLX.out]; exact hjL)
          obtain ⟨was, hws⟩ : ∃ l, l = sect X.Durable j := ⟨_, rfl⟩
          rw [← hws] at hwas hwl
          have HWAS := Lib.hid hwas; have HWL := Lib.hid hwl; have HWS := Lib.hid hws
          clear hwas hwl hws
          go_wp2_with fail
          go_loopg [20, 18, 19] PX (fun m i se ke wy => ∃ (q : Nat) (As : Option Addr) (cs : Nat) (Ak' : Option Addr) (ck' : Nat), m + q = PX ∧ i = .int .i64 q ∧ se = .slice As 512 cs ∧ ke = .slice Ak' 512 ck' ∧ Hid (SL wz As cs (lastUp X.Pending (fun _ => true) j was q)) ∧ Hid (SL wz Ak' ck' (lastUp X.Pending (selOf false ks) j was q)) ∧ wz = wy)
          case atStart => exact ⟨0, _, _, _, _, by simp, rfl, rfl, rfl, HWAS, HWAS, rfl⟩
          case round =>
            obtain ⟨q, As, cs, Ak', ck', hq', rfl, rfl, rfl, HSE, HKE', rfl⟩ := hrel
            by_cases hqp : q < PX
            · have HQQ := Lib.hid hq'
              clear hq'
              have hqI : (q : Int) < (PX : Int) := by omega
              have HQX := Lib.hid (show q < X.Pending.length by rw [← HPX.out]; exact hqp)
              obtain ⟨gp, op, Aq, cq, Fq, eA, hg, hwf, t1, k0, k1⟩ := sl_SectorWrite (Rep.sl_ext BP.out HZ.out) q HQX.out
              subst eA
              have hn1 := lastUp_next (fun _ => true) j was q HQX.out
              have hn2 := lastUp_next (selOf false ks) j was q HQX.out
              have hxl := (okW_room (n := 0) (HOK.out _ (List.getElem_mem HQX.out))).1
              rw [hxl] at k1
              generalize X.Pending[q]'HQX.out = x at *
              obtain ⟨RS, hRS⟩ : ∃ l, l = lastUp X.Pending (fun _ => true) j was q := ⟨_, rfl⟩
              obtain ⟨RK, hRK⟩ : ∃ l, l = lastUp X.Pending (selOf false ks) j was q := ⟨_, rfl⟩
              rw [← hRS] at hn1 HSE
              rw [← hRK] at hn2 HKE'
              have HT := Lib.hid (show SL wz Aq cq x.Data from ⟨_, t1⟩)
              clear t1 hwf hg hRS hRK hxl
              by_cases hsec : x.Sector = (j : Int)
              · have b1 : (x.Sector == (j : Int)) = true := by simp [hsec]
                rw [if_pos ⟨hsec, rfl⟩] at hn1
                by_cases h60 : q < 60
                · have h60I : (q : Int) < 60 := by omega
                  obtain ⟨gk', ok', eK, hgk, -, kk, -⟩ := Rep.sl_int (Rep.sl_ext HKV.out HZ.out) q (by rw [HKL.out]; exact h60)
                  subst eK
                  have hsel : selOf false ks q = (ks[q]'(by rw [HKL.out]; exact h60) != 0) := by
                    unfold selOf
                    rw [List.getElem?_eq_getElem (by rw [HKL.out]; exact h60)]
                    rfl
                  generalize ks[q]'(by rw [HKL.out]; exact h60) = kv at *
                  by_cases hk0 : kv = 0
                  · have b2 : (kv != 0) = false := by simp [hk0]
                    rw [if_neg (by rw [hsel, b2]; simp)] at hn2
                    have HN1 := Lib.hid hn1; have HN2 := Lib.hid hn2
                    clear hn1 hn2 hsec hsel hk0
                    go_wp2
                    go_roundg (PX - (q + 1))
                    case measure => have := HQQ.out; omega
                    case rel => exact ⟨q + 1, _, _, _, _, by have := HQQ.out; omega, by go_num, rfl, rfl, by rw [HN1.out]; exact HT, by rw [HN2.out]; exact HKE', rfl⟩
                  · have b2 : (kv != 0) = true := by simp [hk0]
                    rw [if_pos ⟨hsec, by rw [hsel, b2]⟩] at hn2
                    have HN1 := Lib.hid hn1; have HN2 := Lib.hid hn2
                    clear hn1 hn2 hsec hsel hk0
                    go_wp2
                    go_roundg (PX - (q + 1))
                    case measure => have := HQQ.out; omega
                    case rel => exact ⟨q + 1, _, _, _, _, by have := HQQ.out; omega, by go_num, rfl, rfl, by rw [HN1.out]; exact HT, by rw [HN2.out]; exact HT, rfl⟩
                · have h60I : ¬ (q : Int) < 60 := by omega
                  have hsel : selOf false ks q = false := by
                    unfold selOf
                    rw [List.getElem?_eq_none (by rw [HKL.out]; omega)]
                    rfl
                  rw [if_neg (by rw [hsel]; simp)] at hn2
                  have HN1 := Lib.hid hn1; have HN2 := Lib.hid hn2
                  clear hn1 hn2 hsec hsel h60
                  go_wp2
                  go_roundg (PX - (q + 1))
                  case measure => have := HQQ.out; omega
                  case rel => exact ⟨q + 1, _, _, _, _, by have := HQQ.out; omega, by go_num, rfl, rfl, by rw [HN1.out]; exact HT, by rw [HN2.out]; exact HKE', rfl⟩
              · have b1 : (x.Sector == (j : Int)) = false := by simp [hsec]
                rw [if_neg (fun h => hsec h.1)] at hn1 hn2
                have HN1 := Lib.hid hn1; have HN2 := Lib.hid hn2
                clear hn1 hn2 hsec
                go_wp2
                go_roundg (PX - (q + 1))
                case measure => have := HQQ.out; omega
                case rel => exact ⟨q + 1, _, _, _, _, by have := HQQ.out; omega, by go_num, rfl, rfl, by rw [HN1.out]; exact HSE, by rw [HN2.out]; exact HKE', rfl⟩
            · obtain rfl : q = PX := by omega
              clear hq' hqp
              have hls := lastUp_len HOK.out (fun _ => true) j was HWL.out q
              have hlk := lastUp_len HOK.out (selOf false ks) j was HWL.out q
              have hrs := seenL_last X j
              have hss := sync_sect HVX.out j
              have hkk := crash_sect HVX.out ks j
              rw [HS.out] at hss
              rw [HC.out] at hkk
              rw [← HPX.out, ← HWS.out] at hrs hss hkk
              obtain ⟨RS, hRS⟩ : ∃ l, l = lastUp X.Pending (fun _ => true) j was q := ⟨_, rfl⟩
              obtain ⟨RK, hRK⟩ : ∃ l, l = lastUp X.Pending (selOf false ks) j was q := ⟨_, rfl⟩
              rw [← hRS] at hls hrs hss HSE
              rw [← hRK] at hlk hkk HKE'
              have HSS := Lib.hid (show SL wz _ _ RS from hss ▸ sect_SL (BS.out.ext HZ.out) j (by rw [← HSL.out]; exact hjL))
              have HKK := Lib.hid (show SL wz _ _ RK from hkk ▸ sect_SL (BC.out.ext HZ.out) j (by rw [← HCL.out]; exact hjL))
              have HRS := Lib.hid hrs; have HLS := Lib.hid hls.symm; have HLK' := Lib.hid hlk.symm
              have hjX : j < X.Durable.length / 512 := by rw [← HLX.out]; have := HLM.out; omega
              have HJX := Lib.hid hjX
              clear hrs hss hkk hls hlk hRS hRK hjX
              have XZ := Lib.hid (XX.out.ext HZ.out)
              go_wp2_with (first
                | (go_at_call 42; refine (sameSL_calls wB _ _ RK _ _ (HKK.out.ext HEB.out) (HKE'.out.ext HEB.out) 512 HLK'.out).mono ?_; rintro e wD ⟨rfl, HED⟩; have HEE := Lib.hid (HEB.out.ext HED.out))
                | (go_at_call 42; refine (sameSL_calls wA' _ _ RS _ _ (HSS.out.ext HEA'.out) (HSE.out.ext HEA'.out) 512 HLS.out).mono ?_; rintro e wB ⟨rfl, HEB'⟩; have HEB := Lib.hid (HEA'.out.ext HEB'.out); have m14 := fun o => cell_of_row _ _ o _ _ _ (HEB.out.heap Z14.out (by simp)))
                | (go_at_call 42; refine (sameSL_calls _ _ _ RS _ _ HRR.out (HSE.out.ext HER.out) 512 HLS.out).mono ?_; rintro e wA' ⟨rfl, HEA2⟩; have HEA' := Lib.hid (HER.out.ext HEA2.out); have m15 := fun o => cell_of_row _ _ o _ _ _ (HEA'.out.heap Z15.out (by simp)))
                | (go_at_call 43; refine (readLaw_calls _ 0 _ cx _ cpx X XZ.out HVX.out j HJX.out L q HLX.out HPX.out).mono ?_; rintro e wR ⟨AR, cR, FR, rfl, HR1, HER⟩; have HRR := Lib.hid (show SL wR AR cR RS from ⟨FR, HRS.out ▸ HR1.out⟩)))
              go_roundg (M - (j + 1))
              case measure => have := HJ.out; omega
              case rel => exact ⟨j + 1, by have := HJ.out; omega, by go_num, Lib.hid (HZ.out.ext HEE.out)⟩
        · obtain rfl : j = M := by omega
          clear hj hjm
          go_wp2
          go_ret
          exact ⟨rfl, HEZ.out.ext HZ.out⟩
end Go.Proofs.Ytdjcfcgkldokgaa
