/- LogLoad: the data law; the reference's. -/
import Derived.Test.YtdjcfcgkldokgaaE0
namespace Go.Proofs.Ytdjcfcgkldokgaa
open Go.RowKit
set_option linter.unusedSimpArgs false
set_option linter.unusedVariables false
def logOK (d : DDisk) (m l ep : Int) : Bool := inR m 16 800 && inR l 512 1099511627776 && inR ep 1 4294967295 && validDisk d && decide (m + 2 ≤ (d.Durable.length / 512 : Nat))
def logLoad (d : DDisk) (m l ep : Int) : DLog := if logOK d m l ep = true then ⟨m, ep, l, l, (seenL d (logPlace m l)).take (l % 512).toNat⟩ else ⟨0, 0, 0, 0, []⟩
set_option maxRecDepth 100000 in
set_option maxHeartbeats 2000000 in
theorem see_calls (w : World) (A : Option Addr) (c : Nat) (Ap : Option Addr) (cp : Nat) (d : DDisk) (F G : List Nat) (h1 : (Rep.int .u8).sl w A c d.Durable F) (h2 : Rep.SectorWrite.sl w Ap cp d.Pending G) (hv : validDisk d = true) (s : Nat) (hs : s < d.Durable.length / 512) :
    Calls Try.prog 82 #[.agg #[.slice A d.Durable.length c, .slice Ap d.Pending.length cp], .int .i64 s] w fun e w' => ∃ B cb Fb, e = .returned (.slice B (seenL d s).length cb) ∧ (Rep.int .u8).sl w' B cb (seenL d s) Fb ∧ Ext w w' := by
  have hu := Try.underlying29
  have hu2 := Try.underlying64
  obtain ⟨v1, v2, v3, v4, v5⟩ := valid_facts hv
  have hEA := alloc_ext w (.cells #[.slice A d.Durable.length c, .slice Ap d.Pending.length cp] 29)
  have m0 := fun o => cell_of_row _ _ o _ _ _ (heap_alloc_new w (.cells #[.slice A d.Durable.length c, .slice Ap d.Pending.length cp] 29))
  have hl := seenL_len hv (s := s) (by omega) (by omega)
  obtain ⟨R, hR⟩ : ∃ R, R = seenL d s := ⟨_, rfl⟩
  rw [← hR] at hl ⊢
  have HR := Lib.hid hR; have HL := Lib.hid hl; have H1 := Lib.hid (Rep.sl_ext h1 hEA); have H2 := Lib.hid (Rep.sl_ext h2 hEA); have HEA := Lib.hid hEA
  clear hR hl h1 h2 hEA
  go_enter Try.func82, Try.ntmps82
  go_wp2
  generalize w.alloc (.cells #[.slice A d.Durable.length c, .slice Ap d.Pending.length cp] 29) = W0 at *
  go_loopg [5] (d.Pending.length) (fun m i wr => ∃ k : Nat, m = k ∧ k ≤ d.Pending.length ∧ i = .int .i64 ((k : Int) - 1) ∧ wr = W0 ∧ seenAt d.Pending s d.Pending.length = seenAt d.Pending s k)
  case atStart => exact ⟨d.Pending.length, rfl, Nat.le_refl _, by go_num, rfl, rfl⟩
  case round =>
    obtain ⟨k, hmk, hk, rfl, rfl, he⟩ := hrel
    have HE := Lib.hid he
    clear he
    rcases Nat.eq_zero_or_pos k with rfl | hkp
    · have hR0 : R = (d.Durable.drop (s * 512)).take 512 := by
        rw [HR.out, seenL, HE.out]; rfl
      have hne : d.Durable ≠ [] := by intro h; rw [h] at v2; simp at v2
      obtain ⟨g, off, rfl, -⟩ := Rep.sl_int H1.out 0 (by omega)
      have hs9 := sl_sub H1.out hne (s * 512) 512 (by omega)
      rw [← hR0] at hs9
      have HS := Lib.hid hs9
      have hcap := H1.out.1
      have hq0 : IntKind.i64.wrap ((s : Int) * 512) = (s : Int) * 512 := wrap_small _ (by omega) (by omega)
      have hq1 : ((s : Int) * 512).toNat = s * 512 := by omega
      have hq2 : IntKind.i64.wrap (((s : Int) + 1) * 512) = (s : Int) * 512 + 512 := by rw [wrap_small _ (by omega) (by omega)]; omega
      have hq3 : ((s : Int) * 512 + 512).toNat = s * 512 + 512 := by omega
      have hq4 : ¬ c = s * 512 := by omega
      have hq5 : (s : Int) * 512 + 512 ≤ (c : Int) := by omega
      have hq6 : (0 : Int) ≤ (s : Int) * 512 := by omega
      clear hR0 hs9
      go_wp2_with fail
      have hcp := l1Copy_calls _ _ _ _ _ HS.out (by rw [HL.out]; omega)
      rw [HL.out] at hcp
      refine hcp.mono ?_
      rintro e w5 ⟨v5, G5, rfl, hV5, hN5⟩
      obtain ⟨A5, c5, rfl, q5⟩ := Rep.slice_V hV5
      have HQ5 := Lib.hid q5; have HN5 := Lib.hid hN5.ext
      clear hcp hV5 hN5 q5
      go_wp2
      go_ret
      exact ⟨A5, c5, G5, rfl, HQ5.out, HEA.out.ext HN5.out⟩
    · obtain ⟨j, rfl⟩ := Nat.exists_eq_succ_of_ne_zero (Nat.pos_iff_ne_zero.1 hkp)
      obtain ⟨g, off, Aj, cj, Fj, rfl, hg, hwf, t1, k0, k1⟩ := sl_SectorWrite H2.out j (by omega)
      have hjj : (((j + 1 : Nat) : Int) - 1) = (j : Int) := by omega
      rw [hjj]
      by_cases hm : d.Pending[j].Sector = (s : Int)
      · have hb : (d.Pending[j].Sector == (s : Int)) = true := by simp [hm]
        have HRj := Lib.hid (show R = d.Pending[j].Data by rw [HR.out, seenL, HE.out, seenAt_hit (by omega) hm]; rfl)
        have HT := Lib.hid t1
        generalize d.Pending[j] = x at *
        clear hm t1
        go_wp2_with fail
        refine (l1Copy_calls _ _ _ _ _ HT.out (by rw [← HRj.out, HL.out]; omega)).mono ?_
        rw [← HRj.out]
        rintro e w5 ⟨v5, G5, rfl, hV5, hN5⟩
        obtain ⟨A5, c5, rfl, q5⟩ := Rep.slice_V hV5
        have HQ5 := Lib.hid q5; have HN5 := Lib.hid hN5.ext
        clear hV5 hN5 q5
        go_wp2
        go_ret
        exact ⟨A5, c5, G5, rfl, HQ5.out, HEA.out.ext HN5.out⟩
      · have hb : (d.Pending[j].Sector == (s : Int)) = false := by simp [hm]
        have HNe := Lib.hid (show seenAt d.Pending s d.Pending.length = seenAt d.Pending s j by rw [HE.out, seenAt_miss (by omega) hm])
        generalize d.Pending[j] = x at *
        clear hm
        go_wp2
        go_roundg j
        case measure => omega
        case rel => exact ⟨j, rfl, by omega, by go_num, rfl, HNe.out⟩
set_option maxRecDepth 100000 in
theorem room_calls (w : World) (v : Value) (d : DDisk) (F : List Nat) (h : Rep.Disk.V w v d F) (m : Int) (hm : 16 ≤ m ∧ m ≤ 800) :
    Calls Try.prog 81 #[v, .int .i64 m] w fun e w' => e = .returned (.bool (validDisk d && decide (m + 2 ≤ (d.Durable.length / 512 : Nat)))) ∧ Ext w w' := by
  obtain ⟨_, ⟨A1, c1, F1, A2, c2, F2, rfl, rfl, hw, s1, s2⟩, rfl⟩ := id h
  have hu := Try.underlying29
  have hmx := Nat.le_trans s1.1 s1.2.1
  unfold maxLen at hmx
  show Calls _ _ #[.agg #[_, _], _] _ _
  go_enter Try.func81, Try.ntmps81
  go_wp2_with fail
  refine (specValid_calls _ d _ _ ⟨_, ⟨A1, c1, _, A2, c2, _, rfl, rfl, hw, Rep.sl_ext s1 (alloc_ext _ _), Rep.sl_ext s2 (alloc_ext _ _)⟩, rfl⟩).mono ?_
  rintro e w1 ⟨rfl, hO⟩
  have hb1 := Only.heap hO (heap_alloc_new w _) (by simp)
  have m1 := fun o => cell_of_row _ _ o _ _ _ hb1
  have HE1 := Lib.hid (Only.ext (alloc_ext w _) hO)
  clear hO hb1
  cases hvd : validDisk d
  · go_wp2
    go_ret
    exact ⟨by rw [hvd]; rfl, HE1.out⟩
  · go_wp2_with (go_at_call 63; refine (l1Sectors_calls _ _ _ _ _ _ _ (by omega)).mono ?_; rintro e w2 ⟨rfl, rfl⟩)
    all_goals
      go_ret
      refine ⟨?_, HE1.out.alloc _⟩
      exact ret_bool (by simp [*] <;> omega)
theorem logLoad_new {r : DLog} {w w2 w3 : World} {B : Option Addr} {cb : Nat} {F : List Nat} {b : Nat} (hr : wfLog r) (hB : (Rep.int .u8).sl w2 B cb r.Tail F) (hN : NewIn b w2 F) (hO : Only [w.heap.size + 1] w2 w3) (hb : w.heap.size + 2 ≤ b) (hE : Ext w w3) {m ep l l' : Int} {n : Nat} (e1 : m = r.Sectors) (e2 : ep = r.Epoch) (e3 : l = r.End) (e4 : l' = r.Flushed) (e5 : n = r.Tail.length) :
    NewPost Rep.Log r w (.returned (.agg #[.int .i64 m, .int .i64 ep, .int .i64 l, .int .i64 l', .slice B n cb])) w3 := by
  subst e1; subst e2; subst e3; subst e4; subst e5
  have hd : ∀ g ∈ F, g ∉ [w.heap.size + 1] := fun g hg h => by have := hN.ge g hg; simp at h; omega
  have hN3 := hN.keep hO (fun g hg => .inl (by simp at hg; omega))
  exact ⟨_, F, rfl, ⟨_, ⟨B, cb, F, rfl, rfl, hr, Rep.sl_only hB hO hd⟩, rfl⟩, hE, fun g hg => by have := hN.ge g hg; omega, hN3.nodup, hN3.unfr⟩
theorem logLoad_wf (d : DDisk) (m l ep : Int) : wfLog (logLoad d m l ep) := by
  unfold logLoad
  split
  · rename_i h
    simp only [logOK, Bool.and_eq_true, inR_iff] at h
    obtain ⟨⟨⟨⟨h1, h2⟩, h3⟩, _⟩, _⟩ := h
    exact ⟨WalkArith.wf_i64 (by dsimp only; omega), WalkArith.wf_i64 (by dsimp only; omega), WalkArith.wf_i64 (by dsimp only; omega), WalkArith.wf_i64 (by dsimp only; omega)⟩
  · exact ⟨rfl, rfl, rfl, rfl⟩
set_option maxRecDepth 100000 in
set_option maxHeartbeats 2000000 in
theorem specLogLoad_new (w : World) (v : Value) (d : DDisk) (F : List Nat) (h : Rep.Disk.V w v d F) (m : Int) (em : (Lit.int .i64 m).wf = true) (l : Int) (el : (Lit.int .i64 l).wf = true) (ep : Int) (ee : (Lit.int .i64 ep).wf = true) (hs : wtDisk d ≤ 1048576) :
    Calls Try.prog 44 #[v, .int .i64 m, .int .i64 l, .int .i64 ep] w (NewPost Rep.Log (logLoad d m l ep) w) := by
  obtain ⟨_, ⟨A1, c1, F1, A2, c2, F2, rfl, rfl, hw, s1, s2⟩, rfl⟩ := id h
  have hu := Try.underlying29
  have hu2 := Try.underlying67
  show Calls _ _ #[.agg #[_, _], _, _, _] _ _
  obtain ⟨R, hR⟩ : ∃ R, R = logLoad d m l ep := ⟨_, rfl⟩
  have hwf : wfLog R := by rw [hR]; exact logLoad_wf _ _ _ _
  rw [← hR]
  have HR := Lib.hid hR; have HWF := Lib.hid hwf; have HS1 := Lib.hid s1; have HS2 := Lib.hid s2
  clear hR hwf s1 s2
  have hEA := (alloc_ext w (.cells #[.slice A1 d.Durable.length c1, .slice A2 d.Pending.length c2] 29)).alloc (.cells #[.int .i64 0, .int .i64 0, .int .i64 0, .int .i64 0, .slice none 0 0] 67)
  have hb1 := heap_alloc2_old w (.cells #[.slice A1 d.Durable.length c1, .slice A2 d.Pending.length c2] 29) (.cells #[.int .i64 0, .int .i64 0, .int .i64 0, .int .i64 0, .slice none 0 0] 67)
  have hb2 := heap_alloc2_new w (.cells #[.slice A1 d.Durable.length c1, .slice A2 d.Pending.length c2] 29) (.cells #[.int .i64 0, .int .i64 0, .int .i64 0, .int .i64 0, .slice none 0 0] 67)
  have HE0 := Lib.hid hEA; have HB10 := Lib.hid hb1; have HB20 := Lib.hid hb2
  clear hEA hb1 hb2
  go_enter Try.func44, Try.ntmps44
  by_cases hp : inR m 16 800 = true ∧ inR l 512 1099511627776 = true
  rotate_left
  · have hRb : R = ⟨0, 0, 0, 0, []⟩ := by
      rw [HR.out, logLoad, if_neg]
      intro h; simp only [logOK, Bool.and_eq_true] at h; exact hp ⟨h.1.1.1.1, h.1.1.1.2⟩
    have hp1 := logPlace_bad hp
    have HRb := Lib.hid hRb
    have HP := Lib.hid hp1
    clear hRb hp1 hp
    have m1 := fun o => cell_of_row _ _ o _ _ _ HB10.out
    have m2 := fun o => cell_of_row _ _ o _ _ _ HB20.out
    have f2 := fun o => frozen_of_row _ _ o _ _ HB20.out
    go_wp2_with (go_at_call 79; refine (specPlace_calls _ _ _).mono ?_; rw [HP.out]; rintro e w1 ⟨rfl, rfl⟩)
    refine bodyPost_ret (v := .agg #[.int .i64 0, .int .i64 0, .int .i64 0, .int .i64 0, .slice none 0 0]) (by simp [results, Try.results44, go_sem, m2]) rfl ?_
    rw [HRb.out]
    refine logLoad_new (r := ⟨0, 0, 0, 0, []⟩) (w2 := ((w.alloc (.cells #[.slice A1 d.Durable.length c1, .slice A2 d.Pending.length c2] 29)).alloc (.cells #[.int .i64 0, .int .i64 0, .int .i64 0, .int .i64 0, .slice none 0 0] 67))) (b := w.heap.size + 2) ⟨rfl, rfl, rfl, rfl⟩ (Rep.sl_nil (by unfold maxLen; omega)) (NewIn.nil _ _) ?_ (Nat.le_refl _) ?_ rfl rfl rfl rfl rfl
    · repeat (first | with_reducible exact Only.refl _ _ | ((with_reducible apply Only.set); · simp))
    · repeat (first | with_reducible exact HE0.out | ((with_reducible apply Only.set); · (first | (simp; done) | (simp; omega))))
  have hpr := logPlace_room hp
  obtain ⟨g1, g2⟩ := hp
  have gm := inR_iff.1 g1
  obtain ⟨s, hse⟩ := Int.eq_ofNat_of_zero_le (show 0 ≤ logPlace m l by omega)
  have HP := Lib.hid hse
  have hsl : ((s : Nat) : Int) ≤ m + 1 ∧ (2 : Int) ≤ (s : Nat) := by rw [← hse]; omega
  clear hse hpr
  have hsneg : decide ((s : Int) < 0) = false := by simp
  cases hep : inR ep 1 4294967295
  · have HRb := Lib.hid (show R = ⟨0, 0, 0, 0, []⟩ by
      rw [HR.out, logLoad, if_neg]
      intro h; simp only [logOK, Bool.and_eq_true] at h; rw [hep] at h; exact absurd h.1.1.2 (by simp))
    have HEP := Lib.hid hep
    clear hep
    have m1 := fun o => cell_of_row _ _ o _ _ _ HB10.out
    have m2 := fun o => cell_of_row _ _ o _ _ _ HB20.out
    have f2 := fun o => frozen_of_row _ _ o _ _ HB20.out
    go_wp2_with (first | (go_at_call 79; refine (specPlace_calls _ _ _).mono ?_; rw [HP.out]; rintro e w1 ⟨rfl, rfl⟩) | (go_at_call 80; refine (specIn_calls _ _ _ _).mono ?_; rw [HEP.out]; rintro e w1 ⟨rfl, rfl⟩))
    refine bodyPost_ret (v := .agg #[.int .i64 0, .int .i64 0, .int .i64 0, .int .i64 0, .slice none 0 0]) (by simp [results, Try.results44, go_sem, m2]) rfl ?_
    rw [HRb.out]
    refine logLoad_new (r := ⟨0, 0, 0, 0, []⟩) (w2 := ((w.alloc (.cells #[.slice A1 d.Durable.length c1, .slice A2 d.Pending.length c2] 29)).alloc (.cells #[.int .i64 0, .int .i64 0, .int .i64 0, .int .i64 0, .slice none 0 0] 67))) (b := w.heap.size + 2) ⟨rfl, rfl, rfl, rfl⟩ (Rep.sl_nil (by unfold maxLen; omega)) (NewIn.nil _ _) ?_ (Nat.le_refl _) ?_ rfl rfl rfl rfl rfl
    · repeat (first | with_reducible exact Only.refl _ _ | ((with_reducible apply Only.set); · simp))
    · repeat (first | with_reducible exact HE0.out | ((with_reducible apply Only.set); · (first | (simp; done) | (simp; omega))))
  have HEP := Lib.hid hep
  have m0 := fun o => cell_of_row _ _ o _ _ _ HB10.out
  go_wp2_with (first | (go_at_call 79; refine (specPlace_calls _ _ _).mono ?_; rw [HP.out]; rintro e w1 ⟨rfl, rfl⟩) | (go_at_call 80; refine (specIn_calls _ _ _ _).mono ?_; rw [HEP.out]; rintro e w1 ⟨rfl, rfl⟩) | fail)
  refine (room_calls _ _ d _ ⟨_, ⟨A1, c1, _, A2, c2, _, rfl, rfl, hw, Rep.sl_ext HS1.out HE0.out, Rep.sl_ext HS2.out HE0.out⟩, rfl⟩ m gm).mono ?_
  rintro e w1 ⟨rfl, hO⟩
  have HB1 := Lib.hid (hO.heap HB10.out (by simp)); have HB2 := Lib.hid (hO.heap HB20.out (by simp))
  have HE1 := Lib.hid (HE0.out.ext hO)
  have hz1 : w.heap.size + 2 ≤ w1.heap.size := by have := hO.size; simp at this; omega
  clear hO m0
  have m1 := fun o => cell_of_row _ _ o _ _ _ HB1.out
  have m2 := fun o => cell_of_row _ _ o _ _ _ HB2.out
  have f2 := fun o => frozen_of_row _ _ o _ _ HB2.out
  cases hrm : (validDisk d && decide (m + 2 ≤ (d.Durable.length / 512 : Nat)))
  · have HRb := Lib.hid (show R = ⟨0, 0, 0, 0, []⟩ by
      rw [HR.out, logLoad, if_neg]
      intro h; simp only [logOK, Bool.and_eq_true] at h; rw [Bool.and_eq_false_iff] at hrm; rcases hrm with hrm | hrm
      · rw [hrm] at h; exact absurd h.1.2 (by simp)
      · rw [hrm] at h; exact absurd h.2 (by simp))
    clear hrm
    go_wp2
    refine bodyPost_ret (v := .agg #[.int .i64 0, .int .i64 0, .int .i64 0, .int .i64 0, .slice none 0 0]) (by simp [results, Try.results44, go_sem, m2]) rfl ?_
    rw [HRb.out]
    refine logLoad_new (r := ⟨0, 0, 0, 0, []⟩) (w2 := w1) (b := w.heap.size + 2) ⟨rfl, rfl, rfl, rfl⟩ (Rep.sl_nil (by unfold maxLen; omega)) (NewIn.nil _ _) ?_ (Nat.le_refl _) ?_ rfl rfl rfl rfl rfl
    · repeat (first | with_reducible exact Only.refl _ _ | ((with_reducible apply Only.set); · simp))
    · repeat (first | with_reducible exact HE1.out | ((with_reducible apply Only.set); · (first | (simp; done) | (simp; omega))))
  · rw [Bool.and_eq_true] at hrm
    have hsl2 : s < d.Durable.length / 512 := by have := hrm.2; simp at this; omega
    have HRg := Lib.hid (show R = ⟨m, ep, l, l, (seenL d s).take (l % 512).toNat⟩ by
      rw [HR.out, logLoad, if_pos, HP.out]
      simp only [logOK, Bool.and_eq_true]; exact ⟨⟨⟨⟨g1, g2⟩, hep⟩, hrm.1⟩, hrm.2⟩)
    have HVD := Lib.hid hrm.1; have HSL := Lib.hid hsl2
    have HLN := Lib.hid (seenL_len hrm.1 (s := (s : Int)) (by omega) (by omega))
    have gl := inR_iff.1 g2
    clear hep hrm hsl2 g1 g2
    go_wp2_with fail
    refine wp_region_noPanic ?_
    refine wp_region_held_drew (S := (fun w' => w'.cell? ⟨w.heap.size, 0, none⟩ = some (.slice A1 d.Durable.length c1) ∧ w'.cell? ⟨w.heap.size, 1, none⟩ = some (.slice A2 d.Pending.length c2))) (by kernel_rfl) ?_ (fun hHeld => ?_)
    · exact ⟨m1 0, m1 1⟩
    refine wpAnyH_take (i := 0) (v := ?_) rfl (by kernel_rfl) (by kernel_rfl) (by kernel_rfl) (fun _ _ _ h => h) (Or.inl ⟨by rfl, ?_⟩) (by assumption) ?_
    rotate_left
    · intro w hSw; (try dsimp only at hSw); go_simp <;> with_reducible rfl
    try simp only [Act.put, List.setIfInBounds_toArray, List.set_cons_zero, List.set_cons_succ]
    refine wpAnyH_take (i := 1) (v := ?_) rfl (by kernel_rfl) (by kernel_rfl) (by kernel_rfl) (fun _ _ _ h => h) (Or.inl ⟨by rfl, ?_⟩) (by assumption) ?_
    rotate_left
    · intro w hSw; (try dsimp only at hSw); go_simp <;> with_reducible rfl
    try simp only [Act.put, List.setIfInBounds_toArray, List.set_cons_zero, List.set_cons_succ]
    refine wpAnyH_take (i := 2) (v := ?_) rfl (by kernel_rfl) (by kernel_rfl) (by kernel_rfl) (fun _ _ _ h => h) (Or.inl ⟨by rfl, ?_⟩) (by assumption) ?_
    rotate_left
    · intro w hSw; (try dsimp only at hSw); go_simp <;> with_reducible rfl
    try simp only [Act.put, List.setIfInBounds_toArray, List.set_cons_zero, List.set_cons_succ]
    refine wpAnyH_ready (rs := [3]) (by kernel_rfl) (by simp) ?_
    refine AllReadyH.cons rfl (fun K hK => ?_) ?_
    rotate_left
    · exact AllReadyH.nil
    go_simp
    refine (specPlace_calls _ _ _).mono ?_
    rw [HP.out]
    rintro e w2 ⟨rfl, rfl⟩
    refine hK.out _ _ ?_ (fun hHeld => ?_)
    · (try dsimp only); exact ⟨m1 0, m1 1⟩
    clear hK K
    try simp only [Act.put, List.setIfInBounds_toArray, List.set_cons_zero, List.set_cons_succ]
    refine wpAnyH_ready (rs := [4]) (by kernel_rfl) (by simp) ?_
    refine AllReadyH.cons rfl (fun K hK => ?_) ?_
    rotate_left
    · exact AllReadyH.nil
    go_simp
    refine (see_calls w1.drew A1 c1 A2 c2 d _ _ (Rep.sl_ext HS1.out (HE1.out.drew)) (Rep.sl_ext HS2.out (HE1.out.drew)) HVD.out s HSL.out).mono ?_
    rintro e w2 ⟨B, cb, Fb, rfl, hB, hE2⟩
    have hr2 := Only.heap hE2 (show w1.drew.heap[w.heap.size + 1]? = _ from HB2.out) (by simp)
    have p0 := Only.ecell hE2 (show w1.drew.cell? _ = _ from m1 0)
    have p1 := Only.ecell hE2 (show w1.drew.cell? _ = _ from m1 1)
    have HB := Lib.hid hB; have HE2 := Lib.hid (HE1.out.drew.ext hE2); have HR2 := Lib.hid hr2
    clear hB hE2 hr2
    refine hK.out _ _ ?_ (fun hHeld => ?_)
    · (try dsimp only); exact ⟨p0, p1⟩
    clear hK K
    try simp only [Act.put, List.setIfInBounds_toArray, List.set_cons_zero, List.set_cons_succ]
    refine wpAnyH_take (i := 5) (v := ?_) rfl (by kernel_rfl) (by kernel_rfl) (by kernel_rfl) (fun _ _ _ h => h) (Or.inl ⟨by rfl, ?_⟩) (by assumption) ?_
    rotate_left
    · intro w hSw; (try dsimp only at hSw); go_simp <;> with_reducible rfl
    try simp only [Act.put, List.setIfInBounds_toArray, List.set_cons_zero, List.set_cons_succ]
    refine wpAnyH_done (by kernel_rfl) ?_ _
    refine NoPanic.normal ?_
    obtain ⟨l', rfl⟩ := Int.eq_ofNat_of_zero_le (show 0 ≤ l by omega)
    clear m1 m2 f2 p0 p1
    have m2 := fun o => cell_of_row _ _ o _ _ _ HR2.out
    have f2 := fun o => frozen_of_row _ _ o _ _ HR2.out
    have hcb := HB.out.1
    rw [HLN.out] at hcb
    obtain ⟨gB, oB, rfl, -⟩ := Rep.sl_int HB.out 0 (by rw [HLN.out]; omega)
    have hq1 : (0 : Int) ≤ (l' : Int) % 512 := by omega
    have hq2 : (l' : Int) % 512 ≤ (cb : Int) := by omega
    have hq3 : ((l' : Int) % 512).toNat = l' % 512 := by omega
    have hql : ((seenL d s).take (l' % 512)).length = l' % 512 := by rw [List.length_take, HLN.out]; omega
    have HQL := Lib.hid hql
    obtain ⟨Fp, hFp, -⟩ := sl_pre HB.out (l' % 512)
    have HFP := Lib.hid hFp
    rw [hq3] at HRg
    have HRg2 := Lib.hid (show R = ⟨m, ep, l', l', (seenL d s).take (l' % 512)⟩ from HRg.out)
    clear HRg hql hFp
    go_wp2_with fail
    have hcp := l1Copy_calls _ _ _ _ _ HFP.out (by rw [HQL.out]; omega)
    rw [HQL.out] at hcp
    refine hcp.mono ?_
    rintro e w5 ⟨v5, G5, rfl, hV5, hN5⟩
    obtain ⟨A5, c5, hv5, q5⟩ := Rep.slice_V hV5
    rw [HQL.out] at hv5
    subst hv5
    have hz5 := hN5.ext.size
    have hz2 := HE2.out.size
    have hr5 := hN5.ext.heap HR2.out (by simp)
    have HQ5 := Lib.hid q5
    have HN5 := Lib.hid ((NewIn.one (n := w2.heap.size) hN5 (fun b hb => Rep.sl_lt q5 b hb) (Nat.le_refl _)))
    have HE5 := Lib.hid (HE2.out.ext hN5.ext)
    have hzz : w.heap.size + 2 ≤ w2.heap.size := by
      have := (Array.getElem?_eq_some_iff.1 HR2.out).1; omega
    clear m2 f2 hcp hV5 hN5 q5
    have m2 := fun o => cell_of_row _ _ o _ _ _ hr5
    have f2 := fun o => frozen_of_row _ _ o _ _ hr5
    go_wp2
    refine bodyPost_ret (v := .agg #[.int .i64 m, .int .i64 ep, .int .i64 l', .int .i64 l', .slice A5 (l' % 512) c5]) (by simp [results, Try.results44, go_sem, m2]) rfl ?_
    refine logLoad_new (r := R) (w2 := w5) (F := G5) HWF.out (by rw [HRg2.out]; exact HQ5.out) HN5.out ?_ hzz ?_ (by rw [HRg2.out]) (by rw [HRg2.out]) (by rw [HRg2.out]) (by rw [HRg2.out]) (by rw [HRg2.out]; exact HQL.out.symm)
    · repeat (first | with_reducible exact Only.refl _ _ | ((with_reducible apply Only.set); · simp))
    · repeat (first | with_reducible exact HE5.out | ((with_reducible apply Only.set); · (first | (simp; done) | (simp; omega))))
theorem specLogLoad_calls (w : World) (v : Value) (d : DDisk) (F : List Nat) (h : Rep.Disk.V w v d F) (m : Int) (em : (Lit.int .i64 m).wf = true) (l : Int) (el : (Lit.int .i64 l).wf = true) (ep : Int) (ee : (Lit.int .i64 ep).wf = true) (hs : wtDisk d ≤ 1048576) :
    Calls Try.prog 44 #[v, .int .i64 m, .int .i64 l, .int .i64 ep] w fun e w' => ∃ v F, e = .returned v ∧ Rep.Log.V w' v (logLoad d m l ep) F ∧ Ext w w' :=
  (specLogLoad_new w v d F h m em l el ep ee hs).mono fun _ _ h => by
    obtain ⟨v, F, h1, h2, h3⟩ := h
    exact ⟨v, F, h1, h2, h3.ext⟩
theorem logLoad_ct (d : DDisk) (m l ep : Int) : ctTopLog (logLoad d m l ep) ≤ 1152921504606846976 := by
  have h := ctTopLog_wt (logLoad d m l ep)
  have h2 : wtLog (logLoad d m l ep) ≤ 512 := by
    unfold logLoad
    split
    · simp only [wtLog, List.length_take]; omega
    · simp [wtLog]
  omega
end Go.Proofs.Ytdjcfcgkldokgaa
