/- PageSet: the reference's, a good change. -/
import Derived.Test.YtghgjddiheebeaaDoorZ2
import Derived.Deep.RegionHeld3
namespace Go.Proofs.YtghgjddiheebeaaDoor
open Go.RowKit
set_option linter.unusedSimpArgs false
set_option linter.unusedVariables false
set_option maxRecDepth 100000 in
set_option maxHeartbeats 16000000 in
theorem specSet_good (w : World) (g0 off0 cp : Nat) (p : List Int) (F : List Nat) (h : (Rep.int .u8).sl w (some ⟨g0, off0, none⟩) cp p F) (hw : Wf p) (s l : Nat) (u : Bool) (A : Option Addr) (cA : Nat) (d : List Int) (FA : List Nat) (hd : (Rep.int .u8).sl w A cA d FA)
    (hs : s < 32) (hl : l ≤ 1099511627776) (hn : d.length ≤ 1000) (hu : u = true ∨ d.length = 0) :
    Calls Tryd.prog 18 #[.slice (some ⟨g0, off0, none⟩) 4096 cp, .int .i64 s, .agg #[.bool u, .slice A d.length cA], .int .i64 l] w (NewPost Rep.PageResult (if (3948 : Int) < (sumN p 32 : Int) - slN p s + d.length then ⟨2, []⟩ else ⟨0, setPage p s u d l⟩) w) := by
  have hun := Tryd.underlying33
  have hun2 := Tryd.underlying31
  have HE0 := Lib.hid ((alloc_ext w (.cells #[.bool u, .slice A d.length cA] 33)).ext (alloc_ext _ (.cells #[.int .i64 0, .slice none 0 0] 31)))
  have HB1 := Lib.hid ((alloc_ext (w.alloc (.cells #[.bool u, .slice A d.length cA] 33)) (.cells #[.int .i64 0, .slice none 0 0] 31)).heap (heap_alloc_new w (.cells #[.bool u, .slice A d.length cA] 33)) (by simp))
  have HB2 := Lib.hid (heap_at (w.alloc (.cells #[.bool u, .slice A d.length cA] 33)) (.cells #[.int .i64 0, .slice none 0 0] 31) (k := w.heap.size + 1) (by simp))
  have a1 : ¬ (s : Int) < 0 := by omega
  have a2 : ¬ 32 ≤ (s : Int) := by omega
  have a2' : ¬ 32 ≤ s := by omega
  have a3 : ¬ (l : Int) < 0 := by omega
  have a4 : ¬ 1099511627776 < (l : Int) := by omega
  have a4' : ¬ 1099511627776 < l := by omega
  have a5 : ¬ (1000 : Int) < (d.length : Int) := by omega
  have a5' : ¬ 1000 < d.length := by omega
  have HWF := Lib.hid (fun W (hW : Ext w W) => by
    have h := l3Own_calls W _ cp p F (Rep.sl_ext h hW)
    rw [hw.len, hw.well] at h
    exact h)
  obtain ⟨q1, q2, q3, q4, q5, q6, q7⟩ := hw.slot s hs
  obtain ⟨nn, hnn⟩ := Int.eq_ofNat_of_zero_le q2
  have HSL := Lib.hid (fun W (hW : Ext w W) => l3Slots_cells W g0 off0 cp p F (Rep.sl_ext h hW) hw.len)
  have HUO := Lib.hid (fun W (hW : Ext w W) => pageUsed_calls W g0 off0 cp p F (Rep.sl_ext h hW) hw)
  have HCL := Lib.hid (fun W (hW : Ext w W) => by
    have h := l1Copy_calls (some ⟨g0, off0, none⟩) cp p F W (Rep.sl_ext h hW) (by rw [hw.len]; omega)
    rw [hw.len] at h
    exact h)
  have HNN := Lib.hid hnn; have HSS := Lib.hid hs
  have k3 : (s : Int) < 32 := by omega
  have k4 : (0 : Int) ≤ (s : Int) := by omega
  have k5 : (s : Int).toNat = s := by omega
  have hsm := sumN_le p hw 32 (Nat.le_refl _)
  have HPL := Lib.hid hw.len
  have HDA := Lib.hid hd
  have HBW := Lib.hid (hw.base s hs)
  have HBB := Lib.hid (hw.base_bot s hs)
  have hsum := hw.base_sum s hs 32 (Nat.le_refl _)
  rw [if_pos hs, hnn] at hsum
  simp only [Int.toNat_natCast] at hsum
  rw [hnn]
  obtain ⟨n, hnd⟩ : ∃ n, n = d.length := ⟨_, rfl⟩
  have HND := Lib.hid hnd
  obtain ⟨P1, hP1⟩ : ∃ P, P = setBase p s := ⟨_, rfl⟩
  rw [← hP1] at HBW HBB hsum
  have HP1 := Lib.hid (show P1 = splice p (20 + 4 * s) (beL 4 0) from hP1)
  have HP1' := Lib.hid hP1
  generalize sumN p 32 = sm at *
  have e1 : IntKind.i64.wrap ((sm : Int) - (nn : Int)) = (sm : Int) - (nn : Int) := by rw [IntKind.wrap_i64]; omega
  have e2 : IntKind.i64.wrap ((sm : Int) - (nn : Int) + (n : Int)) = (sm : Int) - (nn : Int) + (n : Int) := by rw [IntKind.wrap_i64]; omega
  rw [← hnd] at hn hu a5 a5' HB1 HB2 HE0 ⊢
  by_cases hbig : (3948 : Int) < (sm : Int) - (nn : Int) + (n : Int)
  · rw [if_pos hbig]
    clear h hw hd q1 q2 q3 q4 q5 q6 q7 hnn hnd hP1 hsum hsm
    cases u
    case false =>
      have n0 : ¬ 0 < n := fun h0 => by have := hu.resolve_left (by simp); omega
      have n0' : ¬ (0 : Int) < (n : Int) := by omega
      go_enter Tryd.func18, Tryd.ntmps18
      go_wp2_with (first
        | (go_at_call 50; refine (HWF.out _ HE0.out).mono ?_; rintro e w1 ⟨rfl, hE⟩; have hb1 := hE.heap HB1.out (by simp); have m1 := fun o => cell_of_row _ _ o _ _ _ hb1; have HB1' := Lib.hid hb1; have HB2' := Lib.hid (hE.heap HB2.out (by simp)); have HE1 := Lib.hid (HE0.out.ext hE); clear hE hb1)
        | (go_at_call 58; refine (HSL.out _ HE1.out).mono ?_; rintro e w2 ⟨Bs, zs, cps, rfl, hB1, hB2, hcp, hcell, hE⟩; clear m1; have d2 := (hcell s HSS.out).2; rw [HNN.out] at d2; have hb1 := hE.heap HB1'.out (by simp); have m1 := fun o => cell_of_row _ _ o _ _ _ hb1; have HB1s := Lib.hid hb1; have HB2s := Lib.hid (hE.heap HB2'.out (by simp)); have HE2 := Lib.hid (HE1.out.ext hE); clear hE hb1 hcell hB1 hB2)
        | (go_at_call 59; refine (HUO.out _ HE2.out).mono ?_; rintro e w3 ⟨rfl, hE⟩; clear m1 d2; have HB13 := Lib.hid (hE.heap HB1s.out (by simp)); have HB23 := Lib.hid (hE.heap HB2s.out (by simp)); have HE3 := Lib.hid (HE2.out.ext hE); have m := fun o => cell_of_row _ _ o _ _ _ HB23.out; have f := fun o => frozen_of_row _ _ o _ _ HB23.out; clear hE))
      refine bodyPost_ret (v := .agg #[.int .i64 2, .slice none 0 0]) (by simp [results, Tryd.results18, go_sem, m]) rfl ?_
      exact psRes_code rfl (by repeat (first | with_reducible exact HE3.out | ((with_reducible apply Only.set); · first | (simp; done) | exact fun hq => absurd hq (by dsimp only; omega))))
    case true =>
      go_enter Tryd.func18, Tryd.ntmps18
      go_wp2_with (first
        | (go_at_call 50; refine (HWF.out _ HE0.out).mono ?_; rintro e w1 ⟨rfl, hE⟩; have hb1 := hE.heap HB1.out (by simp); have m1 := fun o => cell_of_row _ _ o _ _ _ hb1; have HB1' := Lib.hid hb1; have HB2' := Lib.hid (hE.heap HB2.out (by simp)); have HE1 := Lib.hid (HE0.out.ext hE); clear hE hb1)
        | (go_at_call 58; refine (HSL.out _ HE1.out).mono ?_; rintro e w2 ⟨Bs, zs, cps, rfl, hB1, hB2, hcp, hcell, hE⟩; clear m1; have d2 := (hcell s HSS.out).2; rw [HNN.out] at d2; have hb1 := hE.heap HB1'.out (by simp); have m1 := fun o => cell_of_row _ _ o _ _ _ hb1; have HB1s := Lib.hid hb1; have HB2s := Lib.hid (hE.heap HB2'.out (by simp)); have HE2 := Lib.hid (HE1.out.ext hE); clear hE hb1 hcell hB1 hB2)
        | (go_at_call 59; refine (HUO.out _ HE2.out).mono ?_; rintro e w3 ⟨rfl, hE⟩; clear m1 d2; have HB13 := Lib.hid (hE.heap HB1s.out (by simp)); have HB23 := Lib.hid (hE.heap HB2s.out (by simp)); have HE3 := Lib.hid (HE2.out.ext hE); have m := fun o => cell_of_row _ _ o _ _ _ HB23.out; have f := fun o => frozen_of_row _ _ o _ _ HB23.out; clear hE))
      refine bodyPost_ret (v := .agg #[.int .i64 2, .slice none 0 0]) (by simp [results, Tryd.results18, go_sem, m]) rfl ?_
      exact psRes_code rfl (by repeat (first | with_reducible exact HE3.out | ((with_reducible apply Only.set); · first | (simp; done) | exact fun hq => absurd hq (by dsimp only; omega))))
  rw [if_neg hbig]
  have HROOM := Lib.hid (HBW.out.room n (by omega))
  clear h hw hd q1 q2 q3 q4 q5 q6 q7 hnn hnd hP1 hsum hsm
  have HSZ := Lib.hid (show (Tryd.prog.info? 5).map (·.size) = some 1 by
    obtain ⟨i0, hi0, hz0, hz1, hz2⟩ := info_parts info5
    rw [hi0]; simp [hz1])
  cases u
  case false =>
    have n0 : ¬ 0 < n := fun h0 => by have := hu.resolve_left (by simp); omega
    have n0' : ¬ (0 : Int) < (n : Int) := by omega
    go_enter Tryd.func18, Tryd.ntmps18
    go_wp2_with (first
      | (go_at_call 50; refine (HWF.out _ HE0.out).mono ?_; rintro e w1 ⟨rfl, hE⟩; have hb1 := hE.heap HB1.out (by simp); have m1 := fun o => cell_of_row _ _ o _ _ _ hb1; have HB1' := Lib.hid hb1; have HB2' := Lib.hid (hE.heap HB2.out (by simp)); have HE1 := Lib.hid (HE0.out.ext hE); clear hE hb1)
      | (go_at_call 58; refine (HSL.out _ HE1.out).mono ?_; rintro e w2 ⟨Bs, zs, cps, rfl, hB1, hB2, hcp, hcell, hE⟩; clear m1; have d2 := (hcell s HSS.out).2; rw [HNN.out] at d2; have hb1 := hE.heap HB1'.out (by simp); have m1 := fun o => cell_of_row _ _ o _ _ _ hb1; have HB1s := Lib.hid hb1; have HB2s := Lib.hid (hE.heap HB2'.out (by simp)); have HE2 := Lib.hid (HE1.out.ext hE); clear hE hb1 hcell hB1 hB2)
      | (go_at_call 59; refine (HUO.out _ HE2.out).mono ?_; rintro e w3 ⟨rfl, hE⟩; clear m1 d2; have HB13 := Lib.hid (hE.heap HB1s.out (by simp)); have HB23 := Lib.hid (hE.heap HB2s.out (by simp)); have HE3 := Lib.hid (HE2.out.ext hE); have m := fun o => cell_of_row _ _ o _ _ _ HB23.out; have f := fun o => frozen_of_row _ _ o _ _ HB23.out; clear hE)
      | (go_at_call 51; refine (HCL.out _ HE3.out).mono ?_; rintro e w4 ⟨v4, G4, rfl, hV4, hN4⟩; obtain ⟨A4, c4, rfl, q4⟩ := Rep.slice_V hV4; rw [HPL.out]; obtain ⟨B, b0, rfl, rfl, hb4⟩ := Buf.of_new q4 hN4.unfr (by rw [HPL.out]; omega); have PS4 := Lib.hid (show PS w w4 _ _ B b0 c4 p from ⟨hb4, HE3.out.ext hN4.ext, by have h1 := (Array.getElem?_eq_some_iff.1 HB23.out).1; have h2 := hN4.new B (by simp); omega, hN4.ext.heap HB13.out (by simp), hN4.ext.heap HB23.out (by simp)⟩); clear hV4 hN4 q4 hb4))
    clear m f
    have hc4 := PS4.out.buf.sl.1
    rw [HPL.out] at hc4
    have g11 : ¬ c4 = 4 := by omega
    have g10 : ¬ c4 = 16 := by omega
    have HC4 := Lib.hid hc4
    have HL := Lib.hid (show l ≤ 1099511627776 ∧ n ≤ 1000 ∧ s < 32 from by omega)
    have HL1 := Lib.hid (show P1.length = 4096 from HBW.out.len)
    have HLQ := Lib.hid (show (splice p 4 (beL 8 l)).length = 4096 by rw [splice_len _ _ _ (by rw [beL_length, HPL.out]; omega), HPL.out])
    have HQ := Lib.hid (show splice (splice (splice p 4 (beL 8 l)) (20 + 4 * s) (beL 2 0)) (20 + 4 * s + 2) (beL 2 0) = setLsn P1 l by
      have hj := splice_join (splice p 4 (beL 8 l)) (20 + 4 * s) (beL 2 0) (beL 2 0) (by simp only [beL_length]; have := HLQ.out; omega)
      rw [beL_length] at hj
      rw [hj, HP1'.out, setLsn, setBase]
      exact splice_comm p 4 (20 + 4 * s) _ _ (by rw [beL_length]; omega) (by rw [beL_length, HPL.out]; omega) (by simp only [List.length_append, beL_length]; have := HPL.out; omega))
    clear hl hn hs hc4
    go_region_held3 (fun w' => True)
      (first | go_keep | exact trivial)
      (first
        | (go_at_call 54; refine (putNumber_calls _ 8 l _ _ rfl rfl (by decide) (by decide) (by have := HL.out; omega) (by have := HL.out; omega)).mono ?_; rintro e wn ⟨Bn, rfl, hBn, hbn, hEn⟩)
        | (refine step_copy_buf rfl (.tmp 70) (.tmp 72) 22 22 rfl 5 Tryd.underlying22 HSZ.out _ _ (4096 - 4) _ 8 8 rfl rfl (PS4.out.buf.ext ((Only.refl [] _).drew.ext hEn)) 4 (ys := beL 8 l) (byte_wf (beL_byte 8 l)) (by rw [beL_length, HPL.out]; omega) (by rw [beL_length]; exact (Nat.min_eq_left (by omega)).symm) (fun hpos => ⟨by simp, _, rfl, sl_all hbn.sl⟩) ?_; intro wo hbo hOo))
    have PS5 := Lib.hid ((PS4.out.more ((Only.refl [] _).drew.ext hEn)).write hbo hOo)
    clear hbo hOo hEn hbn hBn
    go_wp2_with (go_at_call 53; refine (l3Set_calls _ B b0 c4 _ PS5.out.buf HLQ.out s 0 0 _ _ _ rfl rfl rfl HL.out.2.2 (by decide) (by decide)).mono ?_; rintro e w6 ⟨rfl, hb6, hO6⟩; have y0 := cell_of_row _ _ 0 _ _ _ (PS5.out.write hb6 hO6).box; simp only [List.getElem?_toArray, List.getElem?_cons_succ, List.getElem?_cons_zero] at y0; have m := fun o => cell_of_row _ _ o _ _ _ (PS5.out.write hb6 hO6).res; have f := fun o => frozen_of_row _ _ o _ _ (PS5.out.write hb6 hO6).res)
    have PS6 := Lib.hid (show PS w w6 _ _ B b0 c4 (setLsn P1 l) from by have h := PS5.out.write hb6 hO6; rw [HQ.out] at h; exact h)
    clear hb6 hO6 y0
    refine bodyPost_ret (v := .agg #[.int .i64 0, .slice (some ⟨B, b0, none⟩) 4096 c4]) (by simp [results, Tryd.results18, go_sem, m]) rfl ?_
    rw [show setPage p s false d l = setLsn P1 l by rw [setPage, if_neg (by simp), ← HP1'.out]]
    exact psRes_new PS6.out (lsn_len HL1.out l) (by repeat (first | with_reducible exact Only.refl _ _ | ((with_reducible apply Only.set); · first | (simp; done) | exact fun hq => absurd hq (by dsimp only; omega))))
  case true =>
    go_enter Tryd.func18, Tryd.ntmps18
    go_wp2_with (first
      | (go_at_call 50; refine (HWF.out _ HE0.out).mono ?_; rintro e w1 ⟨rfl, hE⟩; have hb1 := hE.heap HB1.out (by simp); have m1 := fun o => cell_of_row _ _ o _ _ _ hb1; have HB1' := Lib.hid hb1; have HB2' := Lib.hid (hE.heap HB2.out (by simp)); have HE1 := Lib.hid (HE0.out.ext hE); clear hE hb1)
      | (go_at_call 58; refine (HSL.out _ HE1.out).mono ?_; rintro e w2 ⟨Bs, zs, cps, rfl, hB1, hB2, hcp, hcell, hE⟩; clear m1; have d2 := (hcell s HSS.out).2; rw [HNN.out] at d2; have hb1 := hE.heap HB1'.out (by simp); have m1 := fun o => cell_of_row _ _ o _ _ _ hb1; have HB1s := Lib.hid hb1; have HB2s := Lib.hid (hE.heap HB2'.out (by simp)); have HE2 := Lib.hid (HE1.out.ext hE); clear hE hb1 hcell hB1 hB2)
      | (go_at_call 59; refine (HUO.out _ HE2.out).mono ?_; rintro e w3 ⟨rfl, hE⟩; clear m1 d2; have HB13 := Lib.hid (hE.heap HB1s.out (by simp)); have HB23 := Lib.hid (hE.heap HB2s.out (by simp)); have HE3 := Lib.hid (HE2.out.ext hE); have m := fun o => cell_of_row _ _ o _ _ _ HB23.out; have f := fun o => frozen_of_row _ _ o _ _ HB23.out; clear hE)
      | (go_at_call 51; refine (HCL.out _ HE3.out).mono ?_; rintro e w4 ⟨v4, G4, rfl, hV4, hN4⟩; obtain ⟨A4, c4, rfl, q4⟩ := Rep.slice_V hV4; rw [HPL.out]; obtain ⟨B, b0, rfl, rfl, hb4⟩ := Buf.of_new q4 hN4.unfr (by rw [HPL.out]; omega); have PS4 := Lib.hid (show PS w w4 _ _ B b0 c4 p from ⟨hb4, HE3.out.ext hN4.ext, by have h1 := (Array.getElem?_eq_some_iff.1 HB23.out).1; have h2 := hN4.new B (by simp); omega, hN4.ext.heap HB13.out (by simp), hN4.ext.heap HB23.out (by simp)⟩); clear hV4 hN4 q4 hb4))
    clear m f
    have hc4 := PS4.out.buf.sl.1
    rw [HPL.out] at hc4
    have g11 : ¬ c4 = 4 := by omega
    have g10 : ¬ c4 = 16 := by omega
    have HC4 := Lib.hid hc4
    have HL := Lib.hid (show l ≤ 1099511627776 ∧ n ≤ 1000 ∧ s < 32 from by omega)
    have HL1 := Lib.hid (show P1.length = 4096 from HBW.out.len)
    have HLQ := Lib.hid (show (splice p 4 (beL 8 l)).length = 4096 by rw [splice_len _ _ _ (by rw [beL_length, HPL.out]; omega), HPL.out])
    have HQ := Lib.hid (show splice (splice (splice p 4 (beL 8 l)) (20 + 4 * s) (beL 2 0)) (20 + 4 * s + 2) (beL 2 0) = setLsn P1 l by
      have hj := splice_join (splice p 4 (beL 8 l)) (20 + 4 * s) (beL 2 0) (beL 2 0) (by simp only [beL_length]; have := HLQ.out; omega)
      rw [beL_length] at hj
      rw [hj, HP1'.out, setLsn, setBase]
      exact splice_comm p 4 (20 + 4 * s) _ _ (by rw [beL_length]; omega) (by rw [beL_length, HPL.out]; omega) (by simp only [List.length_append, beL_length]; have := HPL.out; omega))
    clear hl hn hs hc4
    go_region_held3 (fun w' => True)
      (first | go_keep | exact trivial)
      (first
        | (go_at_call 54; refine (putNumber_calls _ 8 l _ _ rfl rfl (by decide) (by decide) (by have := HL.out; omega) (by have := HL.out; omega)).mono ?_; rintro e wn ⟨Bn, rfl, hBn, hbn, hEn⟩)
        | (refine step_copy_buf rfl (.tmp 70) (.tmp 72) 22 22 rfl 5 Tryd.underlying22 HSZ.out _ _ (4096 - 4) _ 8 8 rfl rfl (PS4.out.buf.ext ((Only.refl [] _).drew.ext hEn)) 4 (ys := beL 8 l) (byte_wf (beL_byte 8 l)) (by rw [beL_length, HPL.out]; omega) (by rw [beL_length]; exact (Nat.min_eq_left (by omega)).symm) (fun hpos => ⟨by simp, _, rfl, sl_all hbn.sl⟩) ?_; intro wo hbo hOo))
    have PS5 := Lib.hid ((PS4.out.more ((Only.refl [] _).drew.ext hEn)).write hbo hOo)
    clear hbo hOo hEn hbn hBn
    go_wp2_with (go_at_call 53; refine (l3Set_calls _ B b0 c4 _ PS5.out.buf HLQ.out s 0 0 _ _ _ rfl rfl rfl HL.out.2.2 (by decide) (by decide)).mono ?_; rintro e w6 ⟨rfl, hb6, hO6⟩; have y0 := cell_of_row _ _ 0 _ _ _ (PS5.out.write hb6 hO6).box; simp only [List.getElem?_toArray, List.getElem?_cons_succ, List.getElem?_cons_zero] at y0)
    have PS6 := Lib.hid (show PS w w6 _ _ B b0 c4 (setLsn P1 l) from by have h := PS5.out.write hb6 hO6; rw [HQ.out] at h; exact h)
    clear hb6 hO6 y0
    obtain ⟨Q1, hQ1⟩ : ∃ Q, Q = setLsn P1 l := ⟨_, rfl⟩
    rw [← hQ1] at PS6
    have HWQ := Lib.hid (show Wf Q1 by rw [hQ1]; exact HBW.out.lsn l HL.out.1)
    have hroom := HROOM.out
    have HRL := Lib.hid hroom.1
    have hrb : beAt (setRoom Q1 n) 16 2 = beAt (setRoom P1 n) 16 2 := by rw [hQ1, HBW.out.lsn_room l n, lsn_off hroom.1 l _ _ (by omega)]
    have hrs : setBot (setRoom Q1 n) n = setBot (setRoom P1 n) n := by rw [setBot, setBot, hrb]
    have HRB := Lib.hid (show 148 ≤ setBot (setRoom P1 n) n ∧ setBot (setRoom P1 n) n + n ≤ 4096 from ⟨hroom.2.1, hroom.2.2.1⟩)
    have hr2 : beAt (setRoom Q1 n) 16 2 = ((setBot (setRoom Q1 n) n + n : Nat) : Int) := by rw [hrb, hrs]; exact hroom.2.2.2
    have HR3 := Lib.hid (show (setRoom Q1 n).length = 4096 ∧ 148 ≤ setBot (setRoom Q1 n) n ∧ setBot (setRoom Q1 n) n + n ≤ 4096 ∧ beAt (setRoom Q1 n) 16 2 = ((setBot (setRoom Q1 n) n + n : Nat) : Int) from ⟨by rw [hQ1, HBW.out.lsn_room l n]; exact lsn_len hroom.1 l, by rw [hrs]; exact hroom.2.1, by rw [hrs]; exact hroom.2.2.1, hr2⟩)
    have HQR := Lib.hid (show setLsn (setRoom P1 n) l = setRoom Q1 n by rw [hQ1, HBW.out.lsn_room l n])
    clear hroom hrb hrs hr2
    obtain ⟨bt, hbt⟩ : ∃ x, x = beAt Q1 16 2 := ⟨_, rfl⟩
    have hbr := fault_zero HWQ.out.zero
    rw [← hbt] at hbr
    have e11 : IntKind.i64.wrap (bt - 148) = bt - 148 := by rw [IntKind.wrap_i64]; omega
    have HBQ := Lib.hid hbt
    have HL6 := Lib.hid HWQ.out.len
    have HBC := Lib.hid (fun W (hW : Ext w6 W) => by
      have h := l3Bottom_calls W B b0 c4 Q1 [B] (Rep.sl_ext PS6.out.buf.sl hW) HL6.out
      rw [← HBQ.out] at h
      exact h)
    clear hbr hbt hQ1
    by_cases hr : bt - 148 < (n : Int)
    · have HP2 := Lib.hid (show setRoom Q1 n = compI Q1 by rw [setRoom, if_pos (by rw [← HBQ.out]; exact hr)])
      obtain ⟨P2, hP2⟩ : ∃ P, P = compI Q1 := ⟨_, rfl⟩
      have hroom := HR3.out
      rw [HP2.out, ← hP2] at hroom
      obtain ⟨b, hb⟩ : ∃ b, b = setBot P2 n := ⟨_, rfl⟩
      rw [← hb] at hroom
      have HR2 := Lib.hid hroom; have HB0 := Lib.hid hb
      replace HP2 := Lib.hid (show setLsn (setRoom P1 n) l = P2 by rw [HQR.out, HP2.out, hP2])
      have HP2c := Lib.hid (show compS Q1 = P2 by rw [HWQ.out.comp, hP2])
      have HCC := Lib.hid (show 4096 ≤ 4096 from Nat.le_refl _)
      have e20 : IntKind.i64.wrap (((b + n : Nat) : Int) - (n : Int)) = (b : Int) := by rw [IntKind.wrap_i64]; omega
      have e21 : IntKind.i64.wrap ((b : Int) + (n : Int) - (n : Int)) = (b : Int) := by rw [IntKind.wrap_i64]; omega
      have e27 : IntKind.i64.wrap (b : Int) = (b : Int) := by rw [IntKind.wrap_i64]; omega
      have e22 : (b : Int) ≤ 4096 := by omega
      have e23 : (0 : Int) ≤ (b : Int) := by omega
      have e24 : (b : Int).toNat = b := by omega
      have e25 : (4096 - (b : Int)).toNat = 4096 - b := by omega
      clear hroom hb hP2
      go_wp2_with (first
        | (go_at_call_of 60 (B); refine (HBC.out _ (Only.refl _ _)).mono ?_; rintro e w7 ⟨rfl, hE7⟩; have PS7 := Lib.hid (PS6.out.more hE7); have x1 := cell_of_row _ _ 1 _ _ _ PS7.out.box; clear hE7)
        | (go_at_call 11; refine (specCompact_good _ B b0 c4 Q1 [B] PS7.out.buf.sl HWQ.out).mono ?_; rintro e w8 ⟨B8, b8, c8, rfl, hB8, hb8, hE8⟩; rw [HP2c.out] at hb8; have PS8 := Lib.hid (PS7.out.swap hb8 hE8 hB8); have HBC8 := Lib.hid (show ∀ W, Ext w8 W → _ from fun W hW => l3Bottom_calls W B8 b8 c8 P2 [B8] (Rep.sl_ext hb8.sl hW) HR2.out.1); clear hb8 hE8 hB8)
        | (go_at_call 60; refine (HBC8.out _ (Only.refl _ _)).mono ?_; rintro e w9 ⟨rfl, hE9⟩; rw [HR2.out.2.2.2]; have PSc := Lib.hid (PS8.out.more hE9); clear hE9))
      try clear x1
      have HC8 := Lib.hid (show 4096 ≤ c8 from by have h := PS8.out.buf.sl.1; rw [HR2.out.1] at h; exact h)
      have g16 : ¬ c8 = 16 := by have := HC8.out; omega
      clear HCC
      have HCC := HC8
      have x1 := cell_of_row _ _ 1 _ _ _ PSc.out.box
      simp only [List.getElem?_toArray, List.getElem?_cons_succ, List.getElem?_cons_zero] at x1
      refine region_tail 5 (by kernel_rfl) (by kernel_rfl) ?_
      simp only [List.take_succ_cons, List.take_zero, List.drop_succ_cons, List.drop_zero]
      repeat (first
        | (refine WQ.skip (by rfl) ?_
           try simp only [Act.put, List.setIfInBounds_toArray, List.set_cons_zero, List.set_cons_succ])
        | (refine WQ.take ?_ (by rfl) (fun w' hw => ?_) ?_
           rotate_left
           · have cq0 := hw.ecell x1
             unfold Oper.quietAt
             go_simp
             first
               | done
               | exact ⟨rfl, rfl⟩
               | exact rfl
           try simp only [Act.put, List.setIfInBounds_toArray, List.set_cons_zero, List.set_cons_succ]))
      refine WQ.nil ?_
      intro wq hwq
      have PSd := Lib.hid (PSc.out.more hwq)
      clear hwq x1
      obtain ⟨D1, hD1⟩ : ∃ D, D = (if c8 = b then some (⟨B8, b8, none⟩ : Addr) else some ⟨B8, b8 + b, none⟩) := ⟨_, rfl⟩
      rw [← hD1]
      have HD1 := Lib.hid hD1
      clear hD1
      have HDd := Lib.hid (Rep.sl_ext HDA.out PSd.out.ext)
      refine (copy_buf rfl (.tmp 92) (.tmp 94) 22 22 rfl 5 Tryd.underlying22 HSZ.out D1 A (4096 - b) _ n cA rfl rfl PSd.out.buf b (ys := d) (sl_wf HDd.out) (by have := HR2.out; have := HND.out; omega) (by have := HR2.out; have := HND.out; rw [← this]; exact (Nat.min_eq_left (by omega)).symm) (fun hpos => ⟨by have := HR2.out; have := HND.out; have := HCC.out; rw [HD1.out, if_neg (by omega)], by
        obtain ⟨ga, oa, rfl, -, hs⟩ := sl_ints HDd.out (by intro h; rw [h] at hpos; simp at hpos)
        exact ⟨_, rfl, hs⟩⟩) ?_)
      intro we hbe hOe
      have PSe := Lib.hid (PSd.out.write hbe hOe)
      have HLe := Lib.hid (show (splice P2 b d).length = 4096 by have := HR2.out; have := HND.out; rw [splice_len _ _ _ (by omega)]; exact HR2.out.1)
      clear hbe hOe
      go_wp2_with fail
      go_region_held3 (fun w' => True)
        (first | go_keep | exact trivial)
        (first
          | (go_at_call 54; refine (putNumber_calls _ 2 b _ _ rfl rfl (by decide) (by decide) (by have := HR2.out; omega) (by have := HR2.out; omega)).mono ?_; rintro e wn ⟨Bn, rfl, hBn, hbn, hEn⟩)
          | (refine step_copy_buf rfl (.tmp 97) (.tmp 99) 22 22 rfl 5 Tryd.underlying22 HSZ.out _ _ (4096 - 16) _ 2 2 rfl rfl (PSe.out.buf.ext ((Only.refl [] _).drew.ext hEn)) 16 (ys := beL 2 b) (byte_wf (beL_byte 2 b)) (by rw [beL_length, HLe.out]; omega) (by rw [beL_length]; exact (Nat.min_eq_left (by omega)).symm) (fun hpos => ⟨by simp, _, rfl, sl_all hbn.sl⟩) ?_; intro wo hbo hOo))
      have PSf := Lib.hid ((PSe.out.more ((Only.refl [] _).drew.ext hEn)).write hbo hOo)
      clear hbo hOo hEn hbn hBn
      have HLf := Lib.hid (show (splice (splice P2 b d) 16 (beL 2 b)).length = 4096 by rw [splice_len _ _ _ (by rw [beL_length, HLe.out]; omega)]; exact HLe.out)
      go_wp2_with (go_at_call 53; refine (l3Set_calls _ B8 b8 c8 _ PSf.out.buf HLf.out s b n _ _ _ rfl rfl rfl HL.out.2.2 (by have := HR2.out; omega) (by have := HL.out; omega)).mono ?_; rintro e wk ⟨rfl, hbk, hOk⟩; have m := fun o => cell_of_row _ _ o _ _ _ (PSf.out.write hbk hOk).res; have f := fun o => frozen_of_row _ _ o _ _ (PSf.out.write hbk hOk).res)
      have PSk := Lib.hid (PSf.out.write hbk hOk)
      clear hbk hOk
      refine bodyPost_ret (v := .agg #[.int .i64 0, .slice (some ⟨B8, b8, none⟩) 4096 c8]) (by simp [results, Tryd.results18, go_sem, m]) rfl ?_
      have hput : setPage p s true d l = splice (splice (splice (splice P2 b d) 16 (beL 2 b)) (20 + 4 * s) (beL 2 b)) (20 + 4 * s + 2) (beL 2 n) := by
        rw [setPage, if_pos rfl, ← HP1'.out, ← HND.out, ← lsn_put HRL.out l s HL.out.2.2 d (by rw [← HND.out]; exact HRB.out.1) (by rw [← HND.out]; exact HRB.out.2), HP2.out, setPut, ← HND.out, ← HB0.out]
      rw [hput]
      exact psRes_new PSk.out (by rw [splice_len _ _ _ (by rw [splice_len _ _ _ (by rw [beL_length, HLf.out]; have := HL.out; omega), beL_length, HLf.out]; have := HL.out; omega), splice_len _ _ _ (by rw [beL_length, HLf.out]; have := HL.out; omega), HLf.out]) (by repeat (first | with_reducible exact Only.refl _ _ | ((with_reducible apply Only.set); · first | (simp; done) | exact fun hq => absurd hq (by dsimp only; omega))))
    · have HP2 := Lib.hid (show setRoom Q1 n = Q1 by rw [setRoom, if_neg (by rw [← HBQ.out]; exact hr)])
      obtain ⟨P2, hP2⟩ : ∃ P, P = Q1 := ⟨_, rfl⟩
      have hroom := HR3.out
      rw [HP2.out, ← hP2] at hroom
      obtain ⟨b, hb⟩ : ∃ b, b = setBot P2 n := ⟨_, rfl⟩
      rw [← hb] at hroom
      have HR2 := Lib.hid hroom; have HB0 := Lib.hid hb
      replace HP2 := Lib.hid (show setLsn (setRoom P1 n) l = P2 by rw [HQR.out, HP2.out, hP2])
      have HCC := Lib.hid HC4.out
      have HBT := Lib.hid (show bt = ((b + n : Nat) : Int) by rw [HBQ.out, ← hP2]; exact hroom.2.2.2)
      rw [← hP2] at PS6
      have e20 : IntKind.i64.wrap (((b + n : Nat) : Int) - (n : Int)) = (b : Int) := by rw [IntKind.wrap_i64]; omega
      have e21 : IntKind.i64.wrap ((b : Int) + (n : Int) - (n : Int)) = (b : Int) := by rw [IntKind.wrap_i64]; omega
      have e27 : IntKind.i64.wrap (b : Int) = (b : Int) := by rw [IntKind.wrap_i64]; omega
      have e22 : (b : Int) ≤ 4096 := by omega
      have e23 : (0 : Int) ≤ (b : Int) := by omega
      have e24 : (b : Int).toNat = b := by omega
      have e25 : (4096 - (b : Int)).toNat = 4096 - b := by omega
      clear hroom hb hP2
      have hbt2 := HBT.out
      subst hbt2
      go_wp2_with (first
        | (go_at_call 60; refine (HBC.out _ (Only.refl _ _)).mono ?_; rintro e w7 ⟨rfl, hE7⟩; have PS7 := Lib.hid (PS6.out.more hE7); have x1 := cell_of_row _ _ 1 _ _ _ PS7.out.box; have HBC7 := Lib.hid (fun W (hW : Ext w7 W) => HBC.out W (hE7.ext hW)); clear hE7 HBC)
        | (go_at_call 60; refine (HBC7.out _ (Only.refl _ _)).mono ?_; rintro e w9 ⟨rfl, hE9⟩; have PSc := Lib.hid (PS7.out.more hE9); clear hE9))
      try clear x1
      have x1 := cell_of_row _ _ 1 _ _ _ PSc.out.box
      simp only [List.getElem?_toArray, List.getElem?_cons_succ, List.getElem?_cons_zero] at x1
      refine region_tail 5 (by kernel_rfl) (by kernel_rfl) ?_
      simp only [List.take_succ_cons, List.take_zero, List.drop_succ_cons, List.drop_zero]
      repeat (first
        | (refine WQ.skip (by rfl) ?_
           try simp only [Act.put, List.setIfInBounds_toArray, List.set_cons_zero, List.set_cons_succ])
        | (refine WQ.take ?_ (by rfl) (fun w' hw => ?_) ?_
           rotate_left
           · have cq0 := hw.ecell x1
             unfold Oper.quietAt
             go_simp
             first
               | done
               | exact ⟨rfl, rfl⟩
               | exact rfl
           try simp only [Act.put, List.setIfInBounds_toArray, List.set_cons_zero, List.set_cons_succ]))
      refine WQ.nil ?_
      intro wq hwq
      have PSd := Lib.hid (PSc.out.more hwq)
      clear hwq x1
      obtain ⟨D1, hD1⟩ : ∃ D, D = (if c4 = b then some (⟨B, b0, none⟩ : Addr) else some ⟨B, b0 + b, none⟩) := ⟨_, rfl⟩
      rw [← hD1]
      have HD1 := Lib.hid hD1
      clear hD1
      have HDd := Lib.hid (Rep.sl_ext HDA.out PSd.out.ext)
      refine (copy_buf rfl (.tmp 92) (.tmp 94) 22 22 rfl 5 Tryd.underlying22 HSZ.out D1 A (4096 - b) _ n cA rfl rfl PSd.out.buf b (ys := d) (sl_wf HDd.out) (by have := HR2.out; have := HND.out; omega) (by have := HR2.out; have := HND.out; rw [← this]; exact (Nat.min_eq_left (by omega)).symm) (fun hpos => ⟨by have := HR2.out; have := HND.out; have := HCC.out; rw [HD1.out, if_neg (by omega)], by
        obtain ⟨ga, oa, rfl, -, hs⟩ := sl_ints HDd.out (by intro h; rw [h] at hpos; simp at hpos)
        exact ⟨_, rfl, hs⟩⟩) ?_)
      intro we hbe hOe
      have PSe := Lib.hid (PSd.out.write hbe hOe)
      have HLe := Lib.hid (show (splice P2 b d).length = 4096 by have := HR2.out; have := HND.out; rw [splice_len _ _ _ (by omega)]; exact HR2.out.1)
      clear hbe hOe
      go_wp2_with fail
      go_region_held3 (fun w' => True)
        (first | go_keep | exact trivial)
        (first
          | (go_at_call 54; refine (putNumber_calls _ 2 b _ _ rfl rfl (by decide) (by decide) (by have := HR2.out; omega) (by have := HR2.out; omega)).mono ?_; rintro e wn ⟨Bn, rfl, hBn, hbn, hEn⟩)
          | (refine step_copy_buf rfl (.tmp 97) (.tmp 99) 22 22 rfl 5 Tryd.underlying22 HSZ.out _ _ (4096 - 16) _ 2 2 rfl rfl (PSe.out.buf.ext ((Only.refl [] _).drew.ext hEn)) 16 (ys := beL 2 b) (byte_wf (beL_byte 2 b)) (by rw [beL_length, HLe.out]; omega) (by rw [beL_length]; exact (Nat.min_eq_left (by omega)).symm) (fun hpos => ⟨by simp, _, rfl, sl_all hbn.sl⟩) ?_; intro wo hbo hOo))
      have PSf := Lib.hid ((PSe.out.more ((Only.refl [] _).drew.ext hEn)).write hbo hOo)
      clear hbo hOo hEn hbn hBn
      have HLf := Lib.hid (show (splice (splice P2 b d) 16 (beL 2 b)).length = 4096 by rw [splice_len _ _ _ (by rw [beL_length, HLe.out]; omega)]; exact HLe.out)
      go_wp2_with (go_at_call 53; refine (l3Set_calls _ B b0 c4 _ PSf.out.buf HLf.out s b n _ _ _ rfl rfl rfl HL.out.2.2 (by have := HR2.out; omega) (by have := HL.out; omega)).mono ?_; rintro e wk ⟨rfl, hbk, hOk⟩; have m := fun o => cell_of_row _ _ o _ _ _ (PSf.out.write hbk hOk).res; have f := fun o => frozen_of_row _ _ o _ _ (PSf.out.write hbk hOk).res)
      have PSk := Lib.hid (PSf.out.write hbk hOk)
      clear hbk hOk
      refine bodyPost_ret (v := .agg #[.int .i64 0, .slice (some ⟨B, b0, none⟩) 4096 c4]) (by simp [results, Tryd.results18, go_sem, m]) rfl ?_
      have hput : setPage p s true d l = splice (splice (splice (splice P2 b d) 16 (beL 2 b)) (20 + 4 * s) (beL 2 b)) (20 + 4 * s + 2) (beL 2 n) := by
        rw [setPage, if_pos rfl, ← HP1'.out, ← HND.out, ← lsn_put HRL.out l s HL.out.2.2 d (by rw [← HND.out]; exact HRB.out.1) (by rw [← HND.out]; exact HRB.out.2), HP2.out, setPut, ← HND.out, ← HB0.out]
      rw [hput]
      exact psRes_new PSk.out (by rw [splice_len _ _ _ (by rw [splice_len _ _ _ (by rw [beL_length, HLf.out]; have := HL.out; omega), beL_length, HLf.out]; have := HL.out; omega), splice_len _ _ _ (by rw [beL_length, HLf.out]; have := HL.out; omega), HLf.out]) (by repeat (first | with_reducible exact Only.refl _ _ | ((with_reducible apply Only.set); · first | (simp; done) | exact fun hq => absurd hq (by dsimp only; omega))))
end Go.Proofs.YtghgjddiheebeaaDoor
