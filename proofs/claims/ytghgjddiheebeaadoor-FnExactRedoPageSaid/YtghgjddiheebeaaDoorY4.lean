/- The program's compaction. -/
import Derived.Test.YtghgjddiheebeaaDoorY3
namespace Go.Proofs.YtghgjddiheebeaaDoor
open Go.RowKit
set_option linter.unusedSimpArgs false
set_option linter.unusedVariables false
theorem wrap_u16 (x : Int) (h0 : 0 ≤ x) (h1 : x ≤ 65535) : IntKind.u16.wrap x = x := by
  simp [IntKind.wrap, IntKind.min, IntKind.max, IntKind.signed, IntKind.bits]
  omega
theorem byte_wf {p : List Int} (h : ∀ z ∈ p, 0 ≤ z ∧ z ≤ 255) : ∀ z ∈ p, (Lit.int .u8 z).wf = true := fun z hz => by
  obtain ⟨h1, h2⟩ := h z hz
  simp only [Lit.wf, IntKind.min, IntKind.max, IntKind.signed, IntKind.bits]
  simp; omega
/-- A part of a page as a source. -/
theorem sl_src {w : World} {g off c : Nat} {xs : List Int} {F : List Nat} (h : (Rep.int .u8).sl w (some ⟨g, off, none⟩) c xs F) (a n : Nat) :
    ∀ j v, (((xs.drop a).take n).map (Value.int .u8))[j]? = some v → w.cell? ((⟨g, off + a, none⟩ : Addr).add j) = some v := by
  intro j v hv
  rw [addp]
  rw [List.getElem?_map, List.getElem?_take] at hv
  split at hv
  · rename_i hj
    rw [List.getElem?_drop] at hv
    by_cases hi : a + j < xs.length
    · have := sl_byte h (a + j) hi
      rw [List.getElem?_eq_getElem hi] at hv
      rw [List.getD, List.getElem?_eq_getElem hi] at this
      simp at hv this
      rw [Nat.add_assoc, this, hv]
    · rw [List.getElem?_eq_none (by omega)] at hv
      cases hv
  · simp at hv
set_option maxRecDepth 100000 in
set_option maxHeartbeats 8000000 in
theorem compacted_calls (w : World) (g off c : Nat) (p : List Int) (F : List Nat) (h : (Rep.int .u8).sl w (some ⟨g, off, none⟩) c p F) (hw : Wf p) :
    Calls Tryd.prog 56 #[.slice (some ⟨g, off, none⟩) 4096 c] w fun e w' => ∃ B, e = .returned (.slice (some ⟨B, 0, none⟩) 4096 4096) ∧ w.heap.size ≤ B ∧ Buf w' B 0 4096 (compI p) ∧ Ext w w' := by
  obtain ⟨i0, hi, hz0, hz1, hz2⟩ := info_parts info5
  have hsz1 : (Tryd.prog.info? 5).map (·.size) = some 1 := by rw [hi]; simp [hz1]
  have hgB : g < w.heap.size := by
    obtain ⟨g', off', e, hg, -⟩ := Rep.sl_int h 0 (by have := hw.len; omega)
    injection e with e
    injection e with e1 e2
    subst e1; exact hg
  have hpc := h.1
  rw [hw.len] at hpc
  have HS := Lib.hid h; have HW := Lib.hid hw; have HSZ := Lib.hid hsz1; have HGB := Lib.hid hgB
  obtain ⟨LU, hLU⟩ : ∃ L, L = cUp p (headI p) := ⟨_, rfl⟩
  have HU0 := Lib.hid (show LU 0 = headI p by rw [hLU]; rfl)
  have HUS := Lib.hid (show ∀ k, LU (k + 1) = cStep p (LU k) k by rw [hLU]; exact fun k => rfl)
  have HUL := Lib.hid (show ∀ k, k ≤ 32 → (LU k).length = 4096 by rw [hLU]; exact hw.up_len hw.headI_len)
  have HR := Lib.hid (show compI p = splice (LU 32) 16 (beL 2 (cBot p 32)) by rw [hLU]; rfl)
  have HDI := Lib.hid (show headI p = splice (zeros 4096) 0 (p.take 20) from rfl)
  have HN := Lib.hid (page_new w)
  have HEN := Lib.hid (alloc_ext w (.cells (Array.replicate 4096 (.int .u8 0)) 5))
  clear h hw hsz1 hgB hLU hi hz0 hz1 hz2 i0
  have HL20 := Lib.hid (show (p.take 20).length = 20 by rw [List.length_take, HW.out.len]; omega)
  have hsrc0 : ∀ j v, ((p.take 20).map (Value.int .u8))[j]? = some v → (w.alloc (.cells (Array.replicate 4096 (.int .u8 0)) 5)).cell? ((⟨g, off, none⟩ : Addr).add j) = some v := by
    have := sl_src (Rep.sl_ext HS.out HEN.out) 0 20
    simpa using this
  go_enter Tryd.func56, Tryd.ntmps56
  have hmk' := mk_page w
  go_wp2_with ((refine copy_buf rfl (.tmp 9) (.tmp 11) 22 22 rfl 5 Tryd.underlying22 HSZ.out _ _ _ _ _ _ rfl rfl HN.out 0 (ys := p.take 20) (fun y hy => byte_wf HW.out.byte y (List.mem_of_mem_take hy)) (by rw [zeros_len, HL20.out]; omega) (HL20.out.trans rfl) (fun _ => ⟨rfl, _, rfl, hsrc0⟩) ?_); intro w1 hb1 hO1)
  have HB1 := Lib.hid (show Buf w1 w.heap.size 0 4096 (LU 0) by rw [HU0.out, HDI.out]; exact hb1)
  have HE1 := Lib.hid (show Ext w w1 from HEN.out.then_ hO1 (fun b hb hlt => by simp at hb; omega))
  clear hb1 hO1 hmk' HN HEN HU0 HDI
  go_loopg [4, 5] 32 (fun m a i wr => ∃ k : Nat, m + k = 32 ∧ a = .int .i64 (cBot p k) ∧ i = .int .i64 k ∧ Hid (Buf wr w.heap.size 0 4096 (LU k)) ∧ Ext w wr)
  case atStart => exact ⟨0, by simp, rfl, rfl, HB1, HE1.out⟩
  case round =>
    obtain ⟨k, hmk, rfl, rfl, HBF, hE⟩ := hrel
    have HE := Lib.hid hE; have HMK := Lib.hid hmk
    clear hE hmk HB1 HE1
    by_cases hlt : (k : Int) < 32
    · have hk : k < 32 := by omega
      have HC := Lib.hid (slotOf_calls _ g off c p F (Rep.sl_ext HS.out HE.out) HW.out.len k hk)
      obtain ⟨q1, q2, q3, q4, q5, q6, q7⟩ := HW.out.slot k hk
      obtain ⟨r1, r2⟩ := HW.out.bot_succ k hk
      obtain ⟨-, r3, r4⟩ := HW.out.bot (k + 1) (by omega)
      have hdl := HW.out.dat k hk
      have hst := HUS.out k
      rw [cStep] at hst
      have hdat : cDat p k = (p.drop (slO p k).toNat).take (slN p k).toNat := rfl
      have r5 := (HW.out.bot k (by omega)).2.2
      obtain ⟨oo, hoo⟩ := Int.eq_ofNat_of_zero_le q1
      obtain ⟨nn, hnn⟩ := Int.eq_ofNat_of_zero_le q2
      rw [hoo] at q1 q3 q5 q6 q7 hst hdat
      rw [hnn] at q2 q4 q5 q6 r1 hdl hst hdat
      have HO := Lib.hid hoo; have HNN := Lib.hid hnn
      generalize cBot p k = b at r1 r5 ⊢
      obtain ⟨b', hbq⟩ : ∃ b', b' = cBot p (k + 1) := ⟨_, rfl⟩
      rw [← hbq] at r1 r2 r3 r4 hst
      have HBQ := Lib.hid hbq
      clear hbq
      simp only [Int.toNat_natCast] at hst hdat r1 hdl
      by_cases ho : oo = 0
      · rw [if_pos (by omega)] at hst
        have hn0 : nn = 0 := by have := q6 (by omega); omega
        have hbb : b' = b := by omega
        have HST := Lib.hid hst
        subst ho
        have HBB := Lib.hid hbb
        clear hst q1 q2 q3 q4 q5 q6 q7 r1 r2 r3 r4 r5 hdl hdat hoo hnn hbb
        go_wp2_with (go_at_call 61; refine HC.out.mono ?_; rintro e w5 ⟨rfl, hE⟩; simp only [HO.out, HNN.out]; have HE6 := Lib.hid (HE.out.ext hE); have HB6 := Lib.hid (HBF.out.ext hE); clear hE)
        go_roundg (32 - (k + 1))
        case measure => have := HMK.out; omega
        case rel => exact ⟨k + 1, by have := HMK.out; omega, by rw [← HBQ.out, HBB.out], rfl, by rw [HST.out]; exact HB6, HE6.out⟩
      · rw [if_neg (by omega)] at hst
        have HST := Lib.hid hst; have HDL := Lib.hid hdl; have HDT := Lib.hid hdat
        have o1 : ((oo : Int) == 0) = false := by simp; omega
        have e1 : IntKind.i64.wrap ((b : Int) - (nn : Int)) = (b' : Int) := by rw [IntKind.wrap_i64]; omega
        have e2 : IntKind.i64.wrap ((oo : Int) + (nn : Int)) = (oo : Int) + (nn : Int) := by rw [IntKind.wrap_i64]; omega
        have e3 : ((oo : Int) + (nn : Int)).toNat = oo + nn := by omega
        have e4 : ((oo : Int) + (nn : Int) - (oo : Int)).toNat = nn := by omega
        have e5 : (oo : Int) ≤ (oo : Int) + (nn : Int) := by omega
        have e6 : (oo : Int) + (nn : Int) ≤ (c : Int) := by omega
        have e7 : (b' : Int) ≤ 4096 := by omega
        have e8 : (4096 - (b' : Int)).toNat = 4096 - b' := by omega
        have e9 : oo + nn - oo = nn := by omega
        obtain ⟨a1, ha1⟩ : ∃ a : Nat, a = 20 + 4 * k := ⟨_, rfl⟩
        obtain ⟨a2, ha2⟩ : ∃ a : Nat, a = a1 + 2 := ⟨_, rfl⟩
        have g1 : IntKind.i64.wrap (4 * (k : Int)) = 4 * (k : Int) := by rw [IntKind.wrap_i64]; omega
        have g2 : IntKind.i64.wrap (20 + 4 * (k : Int)) = (a1 : Int) := by rw [IntKind.wrap_i64]; omega
        have g2' : IntKind.i64.wrap (4 * (k : Int) + 20) = (a1 : Int) := by rw [IntKind.wrap_i64]; omega
        have g3 : IntKind.i64.wrap ((a1 : Int) + 2) = (a2 : Int) := by rw [IntKind.wrap_i64]; omega
        have g4 : (a1 : Int) ≤ 4096 := by omega
        have g5 : (a2 : Int) ≤ 4096 := by omega
        have g6 : (4096 - (a1 : Int)).toNat = 4096 - a1 := by omega
        have g7 : (4096 - (a2 : Int)).toNat = 4096 - a2 := by omega
        have g8 : ¬ 4096 = a1 := by omega
        have g9 : ¬ 4096 = a2 := by omega
        have h1 : IntKind.u16.wrap (b' : Int) = (b' : Int) := wrap_u16 _ (by omega) (by omega)
        have h2 : IntKind.u16.wrap (nn : Int) = (nn : Int) := wrap_u16 _ (by omega) (by omega)
        have HA1 := Lib.hid ha1; have HA2 := Lib.hid ha2; have HK := Lib.hid hk
        have HRR := Lib.hid (show b' + nn ≤ 4096 ∧ b' < 65536 ∧ nn < 65536 ∧ oo + nn ≤ 4096 from by omega)
        have HP := Lib.hid hpc
        clear hst hdl hdat hoo hnn ho q1 q2 q3 q4 q5 q6 q7 r1 r2 r3 r4 r5 ha1 ha2
        go_wp2_with (go_at_call 61; refine HC.out.mono ?_; rintro e w5 ⟨rfl, hE⟩; simp only [HO.out, HNN.out]; have HE6 := Lib.hid (HE.out.ext hE); have HB6 := Lib.hid (HBF.out.ext hE); clear hE)
        refine region_tail 9 (by kernel_rfl) (by kernel_rfl) ?_
        simp only [List.take_succ_cons, List.take_zero, List.drop_succ_cons, List.drop_zero]
        repeat (first
          | (refine WQ.skip (by rfl) ?_
             try simp only [Act.put, List.setIfInBounds_toArray, List.set_cons_zero, List.set_cons_succ])
          | (refine WQ.take ?_ (by rfl) (fun w' hw => ?_) ?_
             rotate_left
             · unfold Oper.quietAt
               go_simp
               first
                 | done
                 | exact ⟨rfl, rfl⟩
                 | exact rfl
             try simp only [Act.put, List.setIfInBounds_toArray, List.set_cons_zero, List.set_cons_succ]))
        refine WQ.nil ?_
        intro w7 hw7
        obtain ⟨D1, hD1⟩ : ∃ D, D = (if 4096 = b' then some (⟨w.heap.size, 0, none⟩ : Addr) else some ⟨w.heap.size, b', none⟩) := ⟨_, rfl⟩
        obtain ⟨D2, hD2⟩ : ∃ D, D = (if c = oo then some (⟨g, off, none⟩ : Addr) else some ⟨g, off + oo, none⟩) := ⟨_, rfl⟩
        rw [← hD1, ← hD2]
        have HD1 := Lib.hid hD1; have HD2 := Lib.hid hD2
        clear hD1 hD2
        have HE7 := Lib.hid (HE6.out.ext hw7); have HB7 := Lib.hid (HB6.out.ext hw7)
        clear hw7
        refine (copy_buf rfl (.tmp 30) (.tmp 36) 22 22 rfl 5 Tryd.underlying22 HSZ.out _ _ _ _ _ _ rfl rfl HB7.out b' (ys := cDat p k) (fun y hy => byte_wf HW.out.byte y (List.mem_of_mem_drop (List.mem_of_mem_take hy))) (by rw [HDL.out, HUL.out k (by have := HK.out; omega)]; have := HRR.out; omega) (by rw [HDL.out]; exact (Nat.min_eq_left (by have := HRR.out; omega)).symm) (fun hpos => ⟨by rw [HDL.out] at hpos; have := HRR.out; rw [HD1.out, if_neg (by omega), Nat.zero_add], _, by rw [HDL.out] at hpos; have := HRR.out; have := HP.out; rw [HD2.out, if_neg (by omega)], by rw [HDT.out]; exact sl_src (Rep.sl_ext HS.out HE7.out) oo nn⟩) ?_)
        intro w8 hb8 hO8
        have HB8 := Lib.hid hb8
        have HE8 := Lib.hid (show Ext w w8 from HE7.out.then_ hO8 (fun b hb hlt => by simp at hb; omega))
        have HL8 := Lib.hid (show (splice (LU k) b' (cDat p k)).length = 4096 by rw [splice_len _ _ _ (by rw [HDL.out, HUL.out k (by have := HK.out; omega)]; have := HRR.out; omega), HUL.out k (by have := HK.out; omega)])
        clear hb8 hO8
        go_wp2_with fail
        refine region_tail 8 (by kernel_rfl) (by kernel_rfl) ?_
        simp only [List.take_succ_cons, List.take_zero, List.drop_succ_cons, List.drop_zero]
        repeat (first
          | (refine WQ.skip (by rfl) ?_
             try simp only [Act.put, List.setIfInBounds_toArray, List.set_cons_zero, List.set_cons_succ])
          | (refine WQ.take ?_ (by rfl) (fun w' hw => ?_) ?_
             rotate_left
             · unfold Oper.quietAt
               go_simp
               first
                 | done
                 | exact ⟨rfl, rfl⟩
                 | exact rfl
             try simp only [Act.put, List.setIfInBounds_toArray, List.set_cons_zero, List.set_cons_succ]))
        refine WQ.nil ?_
        intro w9 hw9
        have HE9 := Lib.hid (HE8.out.ext hw9); have HB9 := Lib.hid (HB8.out.ext hw9)
        clear hw9
        go_wp2_with (go_at_call 66; refine (Buf.putU16 HB9.out _ _ a1 _ (by simp) (by have := HK.out; have := HA1.out; rw [HL8.out]; omega) (by have := HK.out; have := HA1.out; omega) b' (by have := HRR.out; omega)).mono ?_; rintro e w10 ⟨rfl, hb10, hO10⟩)
        have HB10 := Lib.hid hb10
        have HE10 := Lib.hid (show Ext w w10 from HE9.out.then_ hO10 (fun b hb hlt => by simp at hb; omega))
        have HL10 := Lib.hid (show (splice (splice (LU k) b' (cDat p k)) a1 (beL 2 b')).length = 4096 by rw [splice_len _ _ _ (by rw [beL_length, HL8.out]; have := HK.out; have := HA1.out; omega), HL8.out])
        clear hb10 hO10
        go_wp2_with fail
        refine region_tail 9 (by kernel_rfl) (by kernel_rfl) ?_
        simp only [List.take_succ_cons, List.take_zero, List.drop_succ_cons, List.drop_zero]
        repeat (first
          | (refine WQ.skip (by rfl) ?_
             try simp only [Act.put, List.setIfInBounds_toArray, List.set_cons_zero, List.set_cons_succ])
          | (refine WQ.take ?_ (by rfl) (fun w' hw => ?_) ?_
             rotate_left
             · unfold Oper.quietAt
               go_simp
               first
                 | done
                 | exact ⟨rfl, rfl⟩
                 | exact rfl
             try simp only [Act.put, List.setIfInBounds_toArray, List.set_cons_zero, List.set_cons_succ]))
        refine WQ.nil ?_
        intro w11 hw11
        have HE11 := Lib.hid (HE10.out.ext hw11); have HB11 := Lib.hid (HB10.out.ext hw11)
        clear hw11
        go_wp2_with (go_at_call 66; refine (Buf.putU16 HB11.out _ _ a2 _ (by simp) (by have := HK.out; have := HA1.out; have := HA2.out; rw [HL10.out]; omega) (by have := HK.out; have := HA1.out; have := HA2.out; omega) nn (by have := HRR.out; omega)).mono ?_; rintro e w12 ⟨rfl, hb12, hO12⟩)
        go_roundg (32 - (k + 1))
        case measure => have := HMK.out; omega
        case rel =>
          refine ⟨k + 1, by have := HMK.out; omega, by rw [← HBQ.out], rfl, Lib.hid ?_, HE11.out.then_ hO12 (fun b hb hlt => by simp at hb; omega)⟩
          rw [HST.out, ← HA1.out, ← HA2.out]
          exact hb12
    · have hk : k = 32 := by have := HMK.out; omega
      subst hk
      obtain ⟨-, r3, r4⟩ := HW.out.bot 32 (by omega)
      obtain ⟨b, hbq⟩ : ∃ b, b = cBot p 32 := ⟨_, rfl⟩
      have HBQ := Lib.hid hbq
      try rw [← hbq]
      rw [← hbq] at r3 r4
      clear hbq
      have h1 : IntKind.u16.wrap (b : Int) = (b : Int) := wrap_u16 _ (by omega) (by omega)
      have HRR := Lib.hid (show b < 65536 by omega)
      go_wp2_with fail
      refine region_tail 5 (by kernel_rfl) (by kernel_rfl) ?_
      simp only [List.take_succ_cons, List.take_zero, List.drop_succ_cons, List.drop_zero]
      repeat (first
        | (refine WQ.skip (by rfl) ?_
           try simp only [Act.put, List.setIfInBounds_toArray, List.set_cons_zero, List.set_cons_succ])
        | (refine WQ.take ?_ (by rfl) (fun w' hw => ?_) ?_
           rotate_left
           · unfold Oper.quietAt
             go_simp
             first
               | done
               | exact ⟨rfl, rfl⟩
               | exact rfl
           try simp only [Act.put, List.setIfInBounds_toArray, List.set_cons_zero, List.set_cons_succ]))
      refine WQ.nil ?_
      intro w7 hw7
      have HE7 := Lib.hid (HE.out.ext hw7); have HB7 := Lib.hid (HBF.out.ext hw7)
      clear hw7
      go_wp2_with (go_at_call 66; refine (Buf.putU16 HB7.out _ _ 16 _ (by simp) (by rw [HUL.out 32 (by omega)]; omega) (by omega) b HRR.out).mono ?_; rintro e w8 ⟨rfl, hb8, hO8⟩)
      go_ret
      exact ⟨w.heap.size, rfl, Nat.le_refl _, by rw [HR.out, ← HBQ.out]; exact hb8, HE7.out.then_ hO8 (fun b hb hlt => by simp at hb; omega)⟩
end Go.Proofs.YtghgjddiheebeaaDoor
