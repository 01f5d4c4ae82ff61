/- LogLoad: the program's. -/
import Derived.Test.YtdjcfcgkldokgaaE1
namespace Go.Proofs.Ytdjcfcgkldokgaa
open Go.RowKit
set_option linter.unusedSimpArgs false
set_option linter.unusedVariables false
set_option maxRecDepth 100000 in
set_option maxHeartbeats 2000000 in
theorem implLogLoad_new (w : World) (v : Value) (d : DDisk) (F : List Nat) (h : Rep.Disk.V w v d F) (m : Int) (em : (Lit.int .i64 m).wf = true) (l : Int) (el : (Lit.int .i64 l).wf = true) (ep : Int) (ee : (Lit.int .i64 ep).wf = true) (hs : wtDisk d ≤ 1048576) :
    Calls Try.prog 45 #[v, .int .i64 m, .int .i64 l, .int .i64 ep] w (NewPost Rep.Log (logLoad d m l ep) w) := by
  obtain ⟨_, ⟨A1, c1, F1, A2, c2, F2, rfl, rfl, hw, s1, s2⟩, rfl⟩ := id h
  have hu := Try.underlying29
  have hu2 := Try.underlying67
  show Calls _ _ #[.agg #[_, _], _, _, _] _ _
  obtain ⟨R, hR⟩ : ∃ R, R = logLoad d m l ep := ⟨_, rfl⟩
  have hwf : wfLog R := by rw [hR]; exact logLoad_wf _ _ _ _
  rw [← hR]
  have HR := Lib.hid hR; have HWF := Lib.hid hwf; have HS1 := Lib.hid s1; have HS2 := Lib.hid s2
  clear hR hwf s1 s2
  have hEA := (alloc_ext w (.cells #[.slice A1 d.Durable.length c1, .slice A2 d.Pending.length c2] 29)).alloc (.cells #[.int .i64 0, .int .i64 0, .int .i64 0, .int .i64 0, .slice none 0 0] 67)
  have hb1 := heap_alloc2_old w (.cells #[.slice A1 d.Durable.length c1, .slice A2 d.Pending.length c2] 29) (.cells #[.int .i64 0, .int .i64 0, .int .i64 0, .int .i64 0, .slice none 0 0] 67)
  have hb2 := heap_alloc2_new w (.cells #[.slice A1 d.Durable.length c1, .slice A2 d.Pending.length c2] 29) (.cells #[.int .i64 0, .int .i64 0, .int .i64 0, .int .i64 0, .slice none 0 0] 67)
  have HE0 := Lib.hid hEA; have HB10 := Lib.hid hb1; have HB20 := Lib.hid hb2
  clear hEA hb1 hb2
  go_enter Try.func45, Try.ntmps45
  have m0 := fun o => cell_of_row _ _ o _ _ _ HB10.out
  have hmx := Nat.le_trans HS1.out.1 HS1.out.2.1
  unfold maxLen at hmx
  go_wp2_with fail
  refine (implValid_calls _ d _ _ ⟨_, ⟨A1, c1, _, A2, c2, _, rfl, rfl, hw, Rep.sl_ext HS1.out HE0.out, Rep.sl_ext HS2.out HE0.out⟩, rfl⟩).mono ?_
  rintro e w1 ⟨rfl, hO⟩
  have HB1 := Lib.hid (hO.heap HB10.out (by simp)); have HB2 := Lib.hid (hO.heap HB20.out (by simp))
  have HE1 := Lib.hid (HE0.out.ext hO)
  have hz1 : w.heap.size + 2 ≤ w1.heap.size := by have := hO.size; simp at this; omega
  clear hO m0
  have m1 := fun o => cell_of_row _ _ o _ _ _ HB1.out
  have m2 := fun o => cell_of_row _ _ o _ _ _ HB2.out
  have f2 := fun o => frozen_of_row _ _ o _ _ HB2.out
  cases hvd : validDisk d
  · have HRb := Lib.hid (show R = ⟨0, 0, 0, 0, []⟩ by
      rw [HR.out, logLoad, if_neg]
      intro h; simp only [logOK, Bool.and_eq_true] at h; rw [hvd] at h; exact absurd h.1.2 (by simp))
    go_wp2
    refine bodyPost_ret (v := .agg #[.int .i64 0, .int .i64 0, .int .i64 0, .int .i64 0, .slice none 0 0]) (by simp [results, Try.results45, go_sem, m2]) rfl ?_
    rw [HRb.out]
    refine logLoad_new (r := ⟨0, 0, 0, 0, []⟩) (w2 := w1) (b := w.heap.size + 2) ⟨rfl, rfl, rfl, rfl⟩ (Rep.sl_nil (by unfold maxLen; omega)) (NewIn.nil _ _) ?_ (Nat.le_refl _) ?_ rfl rfl rfl rfl rfl
    · repeat (first | with_reducible exact Only.refl _ _ | ((with_reducible apply Only.set); · simp))
    · repeat (first | with_reducible exact HE1.out | ((with_reducible apply Only.set); · (first | (simp; done) | (simp; omega))))
  cases g1 : inR m 16 800
  · have HRb := Lib.hid (show R = ⟨0, 0, 0, 0, []⟩ by
      rw [HR.out, logLoad, if_neg]
      intro h; simp only [logOK, Bool.and_eq_true] at h; rw [g1] at h; exact absurd h.1.1.1.1 (by simp))
    go_wp2_with (go_at_call 84; refine (implIn_calls _ _ _ _).mono ?_; rintro e w1 ⟨rfl, rfl⟩)
    refine bodyPost_ret (v := .agg #[.int .i64 0, .int .i64 0, .int .i64 0, .int .i64 0, .slice none 0 0]) (by simp [results, Try.results45, go_sem, m2]) rfl ?_
    rw [HRb.out]
    refine logLoad_new (r := ⟨0, 0, 0, 0, []⟩) (w2 := w1) (b := w.heap.size + 2) ⟨rfl, rfl, rfl, rfl⟩ (Rep.sl_nil (by unfold maxLen; omega)) (NewIn.nil _ _) ?_ (Nat.le_refl _) ?_ rfl rfl rfl rfl rfl
    · repeat (first | with_reducible exact Only.refl _ _ | ((with_reducible apply Only.set); · simp))
    · repeat (first | with_reducible exact HE1.out | ((with_reducible apply Only.set); · (first | (simp; done) | (simp; omega))))
  have gm := inR_iff.1 g1
  by_cases hrm : m + 2 ≤ (d.Durable.length / 512 : Nat)
  rotate_left
  · have HRb := Lib.hid (show R = ⟨0, 0, 0, 0, []⟩ by
      rw [HR.out, logLoad, if_neg]
      intro h; simp only [logOK, Bool.and_eq_true] at h; exact hrm (by simpa using h.2))
    have hlt : decide ((d.Durable.length : Int) / 512 < m + 2) = true := by simp; omega
    clear hrm
    go_wp2_with (first | (go_at_call 84; refine (implIn_calls _ _ _ _).mono ?_; rintro e w1 ⟨rfl, rfl⟩) | (go_at_call 76; refine (sectors_calls _ _ _ _ _ _ (m1 0) (by omega)).mono ?_; rintro e w1 ⟨rfl, rfl⟩))
    refine bodyPost_ret (v := .agg #[.int .i64 0, .int .i64 0, .int .i64 0, .int .i64 0, .slice none 0 0]) (by simp [results, Try.results45, go_sem, m2]) rfl ?_
    rw [HRb.out]
    refine logLoad_new (r := ⟨0, 0, 0, 0, []⟩) (w2 := w1) (b := w.heap.size + 2) ⟨rfl, rfl, rfl, rfl⟩ (Rep.sl_nil (by unfold maxLen; omega)) (NewIn.nil _ _) ?_ (Nat.le_refl _) ?_ rfl rfl rfl rfl rfl
    · repeat (first | with_reducible exact Only.refl _ _ | ((with_reducible apply Only.set); · simp))
    · repeat (first | with_reducible exact HE1.out | ((with_reducible apply Only.set); · (first | (simp; done) | (simp; omega))))
  have hlt : decide ((d.Durable.length : Int) / 512 < m + 2) = false := by simp; omega
  cases g2 : inR l 512 1099511627776
  · have HRb := Lib.hid (show R = ⟨0, 0, 0, 0, []⟩ by
      rw [HR.out, logLoad, if_neg]
      intro h; simp only [logOK, Bool.and_eq_true] at h; rw [g2] at h; exact absurd h.1.1.1.2 (by simp))
    clear hrm
    go_wp2_with (first | (go_at_call 84; refine (implIn_calls _ _ _ _).mono ?_; rintro e w1 ⟨rfl, rfl⟩) | (go_at_call 76; refine (sectors_calls _ _ _ _ _ _ (m1 0) (by omega)).mono ?_; rintro e w1 ⟨rfl, rfl⟩))
    refine bodyPost_ret (v := .agg #[.int .i64 0, .int .i64 0, .int .i64 0, .int .i64 0, .slice none 0 0]) (by simp [results, Try.results45, go_sem, m2]) rfl ?_
    rw [HRb.out]
    refine logLoad_new (r := ⟨0, 0, 0, 0, []⟩) (w2 := w1) (b := w.heap.size + 2) ⟨rfl, rfl, rfl, rfl⟩ (Rep.sl_nil (by unfold maxLen; omega)) (NewIn.nil _ _) ?_ (Nat.le_refl _) ?_ rfl rfl rfl rfl rfl
    · repeat (first | with_reducible exact Only.refl _ _ | ((with_reducible apply Only.set); · simp))
    · repeat (first | with_reducible exact HE1.out | ((with_reducible apply Only.set); · (first | (simp; done) | (simp; omega))))
  have gl := inR_iff.1 g2
  cases g3 : inR ep 1 4294967295
  · have HRb := Lib.hid (show R = ⟨0, 0, 0, 0, []⟩ by
      rw [HR.out, logLoad, if_neg]
      intro h; simp only [logOK, Bool.and_eq_true] at h; rw [g3] at h; exact absurd h.1.1.2 (by simp))
    clear hrm
    go_wp2_with (first | (go_at_call 84; refine (implIn_calls _ _ _ _).mono ?_; rintro e w1 ⟨rfl, rfl⟩) | (go_at_call 76; refine (sectors_calls _ _ _ _ _ _ (m1 0) (by omega)).mono ?_; rintro e w1 ⟨rfl, rfl⟩))
    refine bodyPost_ret (v := .agg #[.int .i64 0, .int .i64 0, .int .i64 0, .int .i64 0, .slice none 0 0]) (by simp [results, Try.results45, go_sem, m2]) rfl ?_
    rw [HRb.out]
    refine logLoad_new (r := ⟨0, 0, 0, 0, []⟩) (w2 := w1) (b := w.heap.size + 2) ⟨rfl, rfl, rfl, rfl⟩ (Rep.sl_nil (by unfold maxLen; omega)) (NewIn.nil _ _) ?_ (Nat.le_refl _) ?_ rfl rfl rfl rfl rfl
    · repeat (first | with_reducible exact Only.refl _ _ | ((with_reducible apply Only.set); · simp))
    · repeat (first | with_reducible exact HE1.out | ((with_reducible apply Only.set); · (first | (simp; done) | (simp; omega))))
  · have hpr := logPlace_room ⟨g1, g2⟩
    obtain ⟨s, hse⟩ := Int.eq_ofNat_of_zero_le (show 0 ≤ logPlace m l by omega)
    have HP := Lib.hid hse
    have hsl2 : s < d.Durable.length / 512 := by rw [hse] at hpr; omega
    clear hse hpr
    have HRg := Lib.hid (show R = ⟨m, ep, l, l, (seenL d s).take (l % 512).toNat⟩ by
      rw [HR.out, logLoad, if_pos, HP.out]
      simp only [logOK, Bool.and_eq_true]; exact ⟨⟨⟨⟨g1, g2⟩, g3⟩, hvd⟩, by simpa using hrm⟩)
    have HVD := Lib.hid hvd; have HSL := Lib.hid hsl2
    have HLN := Lib.hid (seenL_len hvd (s := (s : Int)) (by omega) (by omega))
    obtain ⟨l', rfl⟩ := Int.eq_ofNat_of_zero_le (show 0 ≤ l by omega)
    clear hrm hsl2 hvd
    go_wp2_with (first | (go_at_call 84; refine (implIn_calls _ _ _ _).mono ?_; rintro e w1 ⟨rfl, rfl⟩) | (go_at_call 76; refine (sectors_calls _ _ _ _ _ _ (m1 0) (by omega)).mono ?_; rintro e w1 ⟨rfl, rfl⟩) | fail)
    refine (implPlace_calls _ _ _).mono ?_
    rw [HP.out]
    rintro e w2 ⟨rfl, rfl⟩
    go_wp2_with fail
    refine (seen_calls w.heap.size w1 A1 c1 A2 c2 d _ HB1.out _ _ (Rep.sl_ext HS1.out HE1.out) (Rep.sl_ext HS2.out HE1.out) HVD.out s HSL.out).mono ?_
    rintro e w2 ⟨rfl, B, cb, Fb, rfl, hB⟩
    have hcb := hB.1
    rw [HLN.out] at hcb
    obtain ⟨gB, oB, rfl, -⟩ := Rep.sl_int hB 0 (by rw [HLN.out]; omega)
    have hq1 : (0 : Int) ≤ (l' : Int) % 512 := by omega
    have hq2 : (l' : Int) % 512 ≤ (cb : Int) := by omega
    have hq3 : ((l' : Int) % 512).toNat = l' % 512 := by omega
    have hql : ((seenL d s).take (l' % 512)).length = l' % 512 := by rw [List.length_take, HLN.out]; omega
    have HQL := Lib.hid hql
    obtain ⟨Fp, hFp, -⟩ := sl_pre hB (l' % 512)
    have HFP := Lib.hid hFp
    rw [hq3] at HRg
    have HRg2 := Lib.hid (show R = ⟨m, ep, l', l', (seenL d s).take (l' % 512)⟩ from HRg.out)
    clear HRg hql hFp hB
    go_wp2_with fail
    have hcp := Clone_calls _ _ _ _ _ HFP.out (by rw [HQL.out]; omega)
    rw [HQL.out] at hcp
    refine hcp.mono ?_
    rintro e w5 ⟨v5, G5, rfl, hV5, hN5⟩
    obtain ⟨A5, c5, hv5, q5⟩ := Rep.slice_V hV5
    rw [HQL.out] at hv5
    subst hv5
    have hz5 := hN5.ext.size
    have hr5 := hN5.ext.heap HB2.out (by simp)
    have HQ5 := Lib.hid q5
    have HN5 := Lib.hid ((NewIn.one (n := w1.heap.size) hN5 (fun b hb => Rep.sl_lt q5 b hb) (Nat.le_refl _)))
    have HE5 := Lib.hid (HE1.out.ext hN5.ext)
    clear m1 m2 f2 hcp hV5 hN5 q5
    have m2 := fun o => cell_of_row _ _ o _ _ _ hr5
    have f2 := fun o => frozen_of_row _ _ o _ _ hr5
    go_wp2
    refine bodyPost_ret (v := .agg #[.int .i64 m, .int .i64 ep, .int .i64 l', .int .i64 l', .slice A5 (l' % 512) c5]) (by simp [results, Try.results45, go_sem, m2]) rfl ?_
    refine logLoad_new (r := R) (w2 := w5) (F := G5) HWF.out (by rw [HRg2.out]; exact HQ5.out) HN5.out ?_ hz1 ?_ (by rw [HRg2.out]) (by rw [HRg2.out]) (by rw [HRg2.out]) (by rw [HRg2.out]) (by rw [HRg2.out]; exact HQL.out.symm)
    · repeat (first | with_reducible exact Only.refl _ _ | ((with_reducible apply Only.set); · simp))
    · repeat (first | with_reducible exact HE5.out | ((with_reducible apply Only.set); · (first | (simp; done) | (simp; omega))))
end Go.Proofs.Ytdjcfcgkldokgaa
