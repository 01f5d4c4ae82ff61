/- RunOps: the program's. -/
import Derived.Test.YtdjcfcgkldokgaaD17
namespace Go.Proofs.Ytdjcfcgkldokgaa
open Go.RowKit
set_option linter.unusedSimpArgs false
set_option linter.unusedVariables false
theorem OpsPost.new {r : DOpsResult} {w w' : World} {e : Ending} (h : OpsPost r w e w') (hu : (Lit.int .i64 r.Used).wf = true) : NewPost Rep.OpsResult r w e w' := by
  obtain ⟨A, c, Ap, cp, n, rfl, h1, h2, h3⟩ := h
  obtain ⟨F, Ap', cp', G, e1, k1, k2, k3, k4, k5, k6, k7, k8⟩ := h1.open_
  injection e1 with e1 e2 e3
  subst e1; subst e3
  refine ⟨_, F ++ G, rfl, ⟨_, ⟨A, c, F, Ap, cp, G, rfl, rfl, hu, k1, k2⟩, rfl⟩, h3, fun g hg => ?_, List.nodup_append.2 ⟨k5, k6, fun x hx y hy e => ?_⟩, fun g hg => ?_⟩
  · rcases List.mem_append.1 hg with hg | hg
    · exact (k3 g hg).1
    · have := k4 g hg; omega
  · subst e; have := k3 x hx; have := k4 x hy; omega
  · rcases List.mem_append.1 hg with hg | hg
    · exact k7 g hg
    · exact k8 g hg
set_option maxRecDepth 100000 in
set_option maxHeartbeats 2000000 in
theorem implRunOps_post (w : World) (v : Value) (d : DDisk) (F : List Nat) (h : Rep.Disk.V w v d F) (Ao : Option Addr) (co : Nat) (ops : List DOp) (Fo : List Nat) (ho : Rep.Op.sl w Ao co ops Fo) (lim : Int) (el : (Lit.int .i64 lim).wf = true) (hs : wtDisk d ≤ 1048576) :
    Calls Try.prog 30 #[v, .slice Ao ops.length co, .int .i64 lim] w (OpsPost (runOps d ops lim) w) := by
  obtain ⟨_, ⟨A1, c1, F1, A2, c2, F2, rfl, rfl, hw, s1, s2⟩, rfl⟩ := id h
  have hu := Try.underlying29
  have hu2 := Try.underlying90
  have hu3 := Try.underlying49
  have hmo := Nat.le_trans ho.1 ho.2.1
  unfold maxLen at hmo
  show Calls _ _ #[.agg #[_, _], _, _] _ _
  obtain ⟨R, hR⟩ : ∃ R, R = runOps d ops lim := ⟨_, rfl⟩
  rw [← hR]
  have HR := Lib.hid hR
  clear hR
  obtain ⟨st, hst⟩ : ∃ st, st = stepD (validDisk d) d ops := ⟨_, rfl⟩
  have HST := Lib.hid hst
  clear hst
  have HO := Lib.hid ho; have HS1 := Lib.hid s1; have HS2 := Lib.hid s2
  clear ho
  go_enter Try.func30, Try.ntmps30
  go_wp2_with fail
  refine (cloneDisk_calls _ d _ _ ⟨_, ⟨A1, c1, _, A2, c2, _, rfl, rfl, hw, Rep.sl_ext s1 ((alloc_ext _ _).alloc _), Rep.sl_ext s2 ((alloc_ext _ _).alloc _)⟩, rfl⟩ hs).mono ?_
  rintro e w1 ⟨B, dd, pv, n, rfl, hD, hn, hE⟩
  obtain ⟨Ap, cp, rfl, -⟩ := hD.form
  have HE1 := Lib.hid (Only.ext ((alloc_ext w _).alloc _) hE)
  have hb1 := Only.heap hE (heap_alloc2_old w _ _) (by simp)
  have hb2 := Only.heap hE (heap_alloc2_new w _ _) (by simp)
  have hz1 : w.heap.size + 2 ≤ w1.heap.size := by have := hE.size; simp at this; omega
  have hn1 : w.heap.size + 2 ≤ n := by simp at hn; omega
  have hn2 := hD.le
  have hDP0 := DiskP.of (P := fun g => g ≠ w1.heap.size) (hD.more (b' := w.heap.size + 2) (by simp)) (fun g _ hg => by omega) hn1
  clear hE hn hD s1 s2
  -- the result's own box
  have hb3 := heap_alloc_new w1 (.cells #[.bool false, .int .i64 0, .slice B d.Durable.length dd, .slice Ap d.Pending.length cp] 49)
  have hEA := alloc_ext w1 (.cells #[.bool false, .int .i64 0, .slice B d.Durable.length dd, .slice Ap d.Pending.length cp] 49)
  have hzA : (w1.alloc (.cells #[.bool false, .int .i64 0, .slice B d.Durable.length dd, .slice Ap d.Pending.length cp] 49)).heap.size = w1.heap.size + 1 := by simp
  have HB1 := Lib.hid (hEA.heap hb1 (by simp)); have HB2 := Lib.hid (hEA.heap hb2 (by simp)); have HB3 := Lib.hid hb3
  have HEA := Lib.hid (HE1.out.ext hEA)
  have HDP1 := Lib.hid (hDP0.ext hEA hn1)
  have k1 := fun o => cell_of_row _ _ o _ _ _ HB1.out
  clear hb1 hb2 hb3 hDP0
  go_wp2_with fail
  generalize w1.alloc (.cells #[.bool false, .int .i64 0, .slice B d.Durable.length dd, .slice Ap d.Pending.length cp] 49) = WA at *
  refine (implValid_calls _ d _ _ ⟨_, ⟨A1, c1, _, A2, c2, _, rfl, rfl, hw, Rep.sl_ext HS1.out HEA.out, Rep.sl_ext HS2.out HEA.out⟩, rfl⟩).mono ?_
  rintro e w2 ⟨rfl, hO⟩
  have hb2 := hO.heap HB2.out (by simp)
  have hb3 := hO.heap HB3.out (by simp)
  have hDP2 := HDP1.out.ext hO hn1
  have hE2 := HEA.out.ext hO
  have hz2 : w1.heap.size + 1 ≤ w2.heap.size := by have := hO.size; omega
  have HB2' := Lib.hid hb2; have HB3' := Lib.hid hb3; have HDP2 := Lib.hid hDP2; have HE2 := Lib.hid hE2
  clear hO hb2 hb3 hDP2 hE2 k1 HB1 HB2 HB3 HDP1 hEA HEA HE1
  have hst0 : st 0 = d := by rw [HST.out]; exact stepD_zero _ _ _
  have HST0 := Lib.hid hst0
  clear hst0
  obtain ⟨vd, hvd⟩ : ∃ vd, vd = validDisk d := ⟨_, rfl⟩
  rw [← hvd]
  have HVD := Lib.hid hvd
  clear hvd
  go_wp2
  go_loopg [18] (ops.length) (fun m i wr => ∃ (k : Nat) (A : Option Addr) (c : Nat) (Ap : Option Addr) (cp n : Nat), m + k = ops.length ∧ i = .int .i64 k ∧ (0 ≤ lim → (k : Int) ≤ lim) ∧ wr.heap[w1.heap.size]? = some (.cells #[.bool false, .int .i64 k, .slice A (st k).Durable.length c, .slice Ap (st k).Pending.length cp] 49 (0, 0)) ∧ DiskP (fun g => g ≠ w1.heap.size) (w.heap.size + 2) n wr A c (.slice Ap (st k).Pending.length cp) (st k) ∧ w.heap.size + 2 ≤ n ∧ Ext w wr ∧ w1.heap.size + 1 ≤ wr.heap.size ∧ wr.heap[w.heap.size + 1]? = w2.heap[w.heap.size + 1]?)
  case atStart =>
    refine ⟨0, B, dd, Ap, cp, n, by simp, rfl, fun h => h, ?_, ?_, hn1, HE2.out, hz2, rfl⟩
    · rw [HST0.out]; exact HB3'.out
    · rw [HST0.out]; exact HDP2.out
  case round =>
    obtain ⟨k, A, c, Ap', cp', n', hk, rfl, hle, hrow, hDk, hnk, hEk, hzk, hr2⟩ := hrel
    have hrow2 := hr2.trans HB2'.out
    have HLE := Lib.hid hle; have HK := Lib.hid hk
    have hneA : ¬ w1.heap.size = w.heap.size + 1 := by omega
    have hneB : ¬ w.heap.size + 1 = w1.heap.size := by omega
    clear hr2 hle hk
    by_cases hlt : k < ops.length
    · obtain ⟨g, off, Ax, cx, Fx, rfl, hg, hwf, t1, e0, e1, e2⟩ := sl_Op HO.out k hlt
      have hFx : ∀ q ∈ Fx, q < w.heap.size := fun q hq => Rep.sl_lt t1 q hq
      have hstep : vd = true → st (k + 1) = doOp (st k) ops[k] := by
        intro h
        rw [HST.out, ← HVD.out, h]
        exact stepD_next d ops k hlt
      replace e0 := hEk.ecell e0
      replace e1 := hEk.ecell e1
      replace e2 := hEk.ecell e2
      replace t1 := Rep.sl_ext t1 hEk
      generalize ops[k] = x at *
      have hEA := alloc_ext wr (.cells #[.int .i64 x.Kind, .int .i64 x.Sector, .slice Ax x.Data.length cx] 90)
      have hbo := heap_alloc_new wr (.cells #[.int .i64 x.Kind, .int .i64 x.Sector, .slice Ax x.Data.length cx] 90)
      have hzo : (wr.alloc (.cells #[.int .i64 x.Kind, .int .i64 x.Sector, .slice Ax x.Data.length cx] 90)).heap.size = wr.heap.size + 1 := by simp
      have HFX := Lib.hid hFx; have HSTEP := Lib.hid hstep; have HWF := Lib.hid hwf
      have HT := Lib.hid (Rep.sl_ext t1 hEA)
      have HROW := Lib.hid (hEA.heap hrow (by simp)); have HROW2 := Lib.hid (hEA.heap hrow2 (by simp))
      have HDk := Lib.hid (hDk.ext hEA hnk); have HEk := Lib.hid (hEk.ext hEA)
      have m3 := fun o => cell_of_row _ _ o _ _ _ HROW.out
      have f3 := fun o => frozen_of_row _ _ o _ _ HROW.out
      have m2 := fun o => cell_of_row _ _ o _ _ _ HROW2.out
      have f2 := fun o => frozen_of_row _ _ o _ _ HROW2.out
      have mo := fun o => cell_of_row _ _ o _ _ _ hbo
      clear hFx hstep hwf t1 hEA hbo hrow hrow2 hDk hEk
      by_cases hlim : 0 ≤ lim ∧ lim ≤ k
      · have hl1 : decide (0 ≤ lim) = true := by simp; omega
        have hl2 : decide (lim ≤ (k : Int)) = true := by simp; omega
        have hRk : R = ⟨false, k, st k⟩ := by
          have h1 := HLE.out hlim.1
          have hc : 0 ≤ lim ∧ lim < (ops.length : Int) := by omega
          rw [HR.out, runOps, runN, if_pos hc, HST.out]
          have : lim.toNat = k := by omega
          rw [this]
          simp [hc]
        have HRk := Lib.hid hRk
        clear hRk hlim
        go_wp2
        generalize (wr.alloc (.cells #[.int .i64 x.Kind, .int .i64 x.Sector, .slice Ax x.Data.length cx] 90)) = WO at *
        refine bodyPost_ret (v := .agg #[.bool false, .int .i64 k, .slice A (st k).Durable.length c, .slice Ap' (st k).Pending.length cp']) (by simp [results, Try.results30, go_sem, m2]) rfl ?_
        rw [HRk.out]
        refine DiskP.handed (r := ⟨false, (k : Int), st k⟩) (P := fun g => g ≠ w1.heap.size) (b := w.heap.size + 2) (rs := [w1.heap.size, w.heap.size + 1]) HDk.out ?_ (by intro g hg; simp at hg; rcases hg with rfl | rfl <;> first | exact .inr (by omega) | exact .inl (fun h => h rfl)) hnk (by omega) ?_ rfl rfl rfl rfl
        · repeat (first | with_reducible exact Only.refl _ _ | ((with_reducible apply Only.set); · simp))
        · repeat (first | with_reducible exact HEk.out | ((with_reducible apply Only.set); · (first | (simp; done) | (simp; omega))))
      · have hnl : decide (0 ≤ lim) = false ∨ (decide (0 ≤ lim) = true ∧ decide (lim ≤ (k : Int)) = false) := by
          by_cases h0 : 0 ≤ lim
          · exact .inr ⟨by simp [h0], by simp; omega⟩
          · exact .inl (by simp; omega)
        have HLE2 := Lib.hid (show 0 ≤ lim → (k : Int) + 1 ≤ lim by intro h; omega)
        clear hlim
        cases hvc : vd
        · subst hvc
          have HSk := Lib.hid (show st (k + 1) = st k by rw [HST.out, ← HVD.out, stepD_false, stepD_false])
          rcases hnl with h5 | ⟨h5, h6⟩
          all_goals
            go_wp2
            generalize (wr.alloc (.cells #[.int .i64 x.Kind, .int .i64 x.Sector, .slice Ax x.Data.length cx] 90)) = WO at *
            go_roundg (ops.length - (k + 1))
            case measure => have := HK.out; omega
            case rel =>
              refine ⟨k + 1, A, c, Ap', cp', n', by have := HK.out; omega, by go_num, fun h => by have := HLE2.out h; omega, ?_, ?_, hnk, ?_, ?_, ?_⟩
              · rw [HSk.out]
                exact heap_setCell_same _ _ 1 _ _ _ HROW.out
              · rw [HSk.out]
                exact HDk.out.keep (H := [w1.heap.size]) ((Only.refl _ _).setCell (by simp) _) (fun q hq => .inl (fun hne => hne (by simpa using hq))) hnk
              · exact HEk.out.setCell (by simp; omega) _
              · simp; omega
              · exact (Only.heap (F := [w1.heap.size]) ((Only.refl _ _).setCell (by simp) _) HROW2.out (by simp; omega)).trans HB2'.out.symm
        · subst hvc
          have hvk : validDisk (st k) = true := by rw [HST.out, ← HVD.out]; exact stepD_valid _ _ HVD.out.symm
          have HLN := Lib.hid (show (st (k + 1)).Durable.length = (st k).Durable.length by rw [HSTEP.out rfl]; exact doOp_len hvk)
          have HVK := Lib.hid hvk
          have HSN := Lib.hid (HSTEP.out rfl)
          clear hvk HSTEP
          rcases hnl with h5 | ⟨h5, h6⟩
          all_goals
            go_wp2_with fail
            generalize (wr.alloc (.cells #[.int .i64 x.Kind, .int .i64 x.Sector, .slice Ax x.Data.length cx] 90)) = WO at *
            refine (do_calls (fun g => g ≠ w1.heap.size) (w.heap.size + 2) n' w1.heap.size 2 WO A c Ap' cp' (st k) _ _ HROW.out rfl rfl HDk.out hnk (fun h => h rfl) (fun q hq => by omega) HVK.out x HWF.out Ax cx Fx HT.out (fun q hq => by have := HFX.out q hq; omega)).mono ?_
            rw [← HSN.out]
            rintro e w5 ⟨rfl, Ap5, cp5, n5, hb5, hD5, hn5, H5, hO5, hH5⟩
            have hb5' : w5.heap[w1.heap.size]? = some (.cells #[.bool false, .int .i64 k, .slice A (st (k + 1)).Durable.length c, .slice Ap5 (st (k + 1)).Pending.length cp5] 49 (0, 0)) := by rw [HLN.out]; exact hb5
            have hr5' := hO5.heap HROW2.out (fun hq => by
              rcases List.mem_cons.1 hq with hq | hq
              · omega
              · have := (hH5 _ hq).2; omega)
            have hz5 : WO.heap.size ≤ w5.heap.size := hO5.size
            have hE5 : Ext w w5 := HEk.out.then_ hO5 (fun q hq hl => by
              rcases List.mem_cons.1 hq with hq | hq
              · omega
              · have := (hH5 _ hq).2; omega)
            have HD5 := Lib.hid hD5; have HE5 := Lib.hid hE5; have HR5 := Lib.hid hb5'; have HR5' := Lib.hid hr5'
            clear m3 f3 m2 f2 mo
            have n3 := fun o => cell_of_row _ _ o _ _ _ hb5'
            have g3 := fun o => frozen_of_row _ _ o _ _ hb5'
            clear hb5 hb5' hD5 hO5 hH5 hr5' hE5
            go_wp2
            go_roundg (ops.length - (k + 1))
            case measure => have := HK.out; omega
            case rel =>
              refine ⟨k + 1, A, c, Ap5, cp5, n5, by have := HK.out; omega, by go_num, fun h => by have := HLE2.out h; omega, ?_, ?_, hn5, ?_, ?_, ?_⟩
              · exact heap_setCell_same _ _ 1 _ _ _ HR5.out
              · exact HD5.out.keep (H := [w1.heap.size]) ((Only.refl _ _).setCell (by simp) _) (fun q hq => .inl (fun hne => hne (by simpa using hq))) hn5
              · exact HE5.out.setCell (by simp; omega) _
              · simp; omega
              · exact (Only.heap (F := [w1.heap.size]) ((Only.refl _ _).setCell (by simp) _) HR5'.out (by simp; omega)).trans HB2'.out.symm
    · have hkk : k = ops.length := by have := HK.out; omega
      have hRk : R = ⟨true, k, st k⟩ := by
        have hc : ¬ (0 ≤ lim ∧ lim < (ops.length : Int)) := by
          intro h
          have := HLE.out h.1
          omega
        rw [HR.out, runOps, runN, if_neg hc, HST.out, hkk]
        simp [hc]
      have m3 := fun o => cell_of_row _ _ o _ _ _ hrow
      have f3 := fun o => frozen_of_row _ _ o _ _ hrow
      have m2 := fun o => cell_of_row _ _ o _ _ _ hrow2
      have f2 := fun o => frozen_of_row _ _ o _ _ hrow2
      have HRk := Lib.hid hRk; have HDk := Lib.hid hDk; have HEk := Lib.hid hEk
      clear hRk hkk hDk hEk hrow hrow2
      go_wp2
      refine bodyPost_ret (v := .agg #[.bool true, .int .i64 k, .slice A (st k).Durable.length c, .slice Ap' (st k).Pending.length cp']) (by simp [results, Try.results30, go_sem, m2]) rfl ?_
      rw [HRk.out]
      refine DiskP.handed (r := ⟨true, (k : Int), st k⟩) (P := fun g => g ≠ w1.heap.size) (b := w.heap.size + 2) (rs := [w1.heap.size, w.heap.size + 1]) HDk.out ?_ (by intro g hg; simp at hg; rcases hg with rfl | rfl <;> first | exact .inr (by omega) | exact .inl (fun h => h rfl)) hnk (by omega) ?_ rfl rfl rfl rfl
      · repeat (first | with_reducible exact Only.refl _ _ | ((with_reducible apply Only.set); · simp))
      · repeat (first | with_reducible exact HEk.out | ((with_reducible apply Only.set); · (first | (simp; done) | (simp; omega))))
theorem runOps_used (d : DDisk) (ops : List DOp) (lim : Int) (h : ops.length ≤ 9223372036854775807) : (Lit.int .i64 (runOps d ops lim).Used).wf = true := by
  have : runN lim ops.length ≤ ops.length := by unfold runN; split <;> omega
  exact WalkArith.wf_i64 (by simp only [runOps]; omega)
theorem runOps_ct (d : DDisk) (ops : List DOp) (lim : Int) (h : wtDisk d ≤ 1048576) (hk : wtOpS ops ≤ 1048576) : ctTopOpsResult (runOps d ops lim) ≤ 1152921504606846976 := by
  have := stepD_wt d ops (runN lim ops.length)
  have := ctTopOpsResult_wt (runOps d ops lim)
  simp only [runOps, wtOpsResult] at *
  omega
theorem specRunOps_calls (w : World) (v : Value) (d : DDisk) (F : List Nat) (h : Rep.Disk.V w v d F) (Ao : Option Addr) (co : Nat) (ops : List DOp) (Fo : List Nat) (ho : Rep.Op.sl w Ao co ops Fo) (lim : Int) (el : (Lit.int .i64 lim).wf = true) (hs : wtDisk d ≤ 1048576) (hso : wtOpS ops ≤ 1048576) :
    Calls Try.prog 28 #[v, .slice Ao ops.length co, .int .i64 lim] w fun e w' => ∃ v F, e = .returned v ∧ Rep.OpsResult.V w' v (runOps d ops lim) F ∧ Ext w w' :=
  (specRunOps_post w v d F h Ao co ops Fo ho lim el hs).mono fun _ _ h => by
    obtain ⟨v, F, h1, h2, h3⟩ := h.new (runOps_used d ops lim (by have := Nat.le_trans ho.1 ho.2.1; unfold maxLen at this; omega))
    exact ⟨v, F, h1, h2, h3.ext⟩
theorem implRunOps_new (w : World) (v : Value) (d : DDisk) (F : List Nat) (h : Rep.Disk.V w v d F) (Ao : Option Addr) (co : Nat) (ops : List DOp) (Fo : List Nat) (ho : Rep.Op.sl w Ao co ops Fo) (lim : Int) (el : (Lit.int .i64 lim).wf = true) (hs : wtDisk d ≤ 1048576) (hso : wtOpS ops ≤ 1048576) :
    Calls Try.prog 30 #[v, .slice Ao ops.length co, .int .i64 lim] w (NewPost Rep.OpsResult (runOps d ops lim) w) :=
  (implRunOps_post w v d F h Ao co ops Fo ho lim el hs).mono fun _ _ h => h.new (runOps_used d ops lim (by have := Nat.le_trans ho.1 ho.2.1; unfold maxLen at this; omega))
end Go.Proofs.Ytdjcfcgkldokgaa
