/- The reference's PageCompact; the program's. -/
import Derived.Test.YtghgjddiheebeaaDoorY6
import Derived.Deep.RegionHeld3
namespace Go.Proofs.YtghgjddiheebeaaDoor
open Go.RowKit
set_option linter.unusedSimpArgs false
set_option linter.unusedVariables false
def zUp (p : List Int) (k : Nat) : List Int := p.take 148 ++ (zeros k ++ p.drop (148 + k))
theorem zUp_succ {p : List Int} (hp : p.length = 4096) (k : Nat) (hk : 148 + k < 4096) : zUp p (k + 1) = splice (zUp p k) (148 + k) [0] := by
  have h1 : p.drop (148 + k) = p[148 + k] :: p.drop (148 + k + 1) := List.drop_eq_getElem_cons (by omega)
  have ht : (p.take 148 ++ zeros k).length = 148 + k := by rw [List.length_append, List.length_take, zeros_len]; omega
  have e : zUp p k = (p.take 148 ++ zeros k) ++ p.drop (148 + k) := by rw [zUp, List.append_assoc]
  rw [splice, e, List.take_append_of_le_length (by omega), List.take_of_length_le (by omega), List.drop_append, List.drop_of_length_le (by rw [ht]; simp), ht, h1]
  rw [zUp, zeros_snoc, show 148 + (k + 1) = 148 + k + 1 by omega]
  simp
theorem zUp_len {p : List Int} (hp : p.length = 4096) (k : Nat) (hk : 148 + k ≤ 4096) : (zUp p k).length = 4096 := by
  rw [zUp, List.length_append, List.length_append, List.length_take, zeros_len, List.length_drop]; omega
set_option maxRecDepth 100000 in
set_option maxHeartbeats 8000000 in
theorem specCompact_bad (w : World) (A : Option Addr) (c : Nat) (p : List Int) (F : List Nat) (h : (Rep.int .u8).sl w A c p F) (hw : wellF p = false) :
    Calls Tryd.prog 11 #[.slice A p.length c] w (NewPost (Rep.int .u8).slice [] w) := by
  have HOW := Lib.hid (by
    have h := l3Own_calls w _ c p F h
    rw [hw] at h
    exact h)
  clear h
  go_enter Tryd.func11, Tryd.ntmps11
  go_wp2_with (go_at_call 50; refine HOW.out.mono ?_; rintro e w1 ⟨rfl, hE⟩; have HE1 := Lib.hid hE; clear hE)
  go_ret
  exact NewPost.ofOwn (e := 5) (n := w1.heap.size) (Own.made (Nat.le_refl _) #[] 0 (by simp) (by simp)) HE1.out.size (HE1.out.alloc _)
set_option maxRecDepth 100000 in
set_option maxHeartbeats 8000000 in
theorem specCompact_good (w : World) (g off c : Nat) (p : List Int) (F : List Nat) (h : (Rep.int .u8).sl w (some ⟨g, off, none⟩) c p F) (hw : Wf p) :
    Calls Tryd.prog 11 #[.slice (some ⟨g, off, none⟩) 4096 c] w fun e w' => ∃ B b c', e = .returned (.slice (some ⟨B, b, none⟩) 4096 c') ∧ w.heap.size ≤ B ∧ Buf w' B b c' (compS p) ∧ Ext w w' := by
  obtain ⟨i0, hi, hz0, hz1, hz2⟩ := info_parts info5
  have HSZ := Lib.hid (show (Tryd.prog.info? 5).map (·.size) = some 1 by rw [hi]; simp [hz1])
  have hu := Tryd.underlying33
  have HS := Lib.hid h; have HW := Lib.hid hw
  have HOW := Lib.hid (fun W (hW : Ext w W) => by
    have h := l3Own_calls W _ c p F (Rep.sl_ext h hW)
    rw [hw.len, hw.well] at h
    exact h)
  have HCP := Lib.hid (fun W (hW : Ext w W) => by
    have h := l1Copy_calls _ c p F W (Rep.sl_ext h hW) (by rw [hw.len]; omega)
    rw [hw.len] at h
    exact h)
  obtain ⟨Z, hZ⟩ : ∃ Z, Z = zUp p := ⟨_, rfl⟩
  have HZ0 := Lib.hid (show Z 0 = p by
    rw [hZ, zUp]
    have e : zeros 0 = [] := rfl
    rw [e, List.nil_append, Nat.add_zero, List.take_append_drop])
  have HZS := Lib.hid (show ∀ k, 148 + k < 4096 → Z (k + 1) = splice (Z k) (148 + k) [0] by rw [hZ]; exact fun k hk => zUp_succ hw.len k hk)
  have HZL := Lib.hid (show ∀ k, 148 + k ≤ 4096 → (Z k).length = 4096 by rw [hZ]; exact fun k hk => zUp_len hw.len k hk)
  obtain ⟨LU, hLU⟩ : ∃ L, L = cUp p (headS p) := ⟨_, rfl⟩
  have HU0 := Lib.hid (show LU 0 = Z 3948 by
    rw [hLU, hZ, zUp, List.drop_of_length_le (by rw [hw.len]; omega), List.append_nil]; rfl)
  have HUS := Lib.hid (show ∀ k, LU (k + 1) = cStep p (LU k) k by rw [hLU]; exact fun k => rfl)
  have HUL := Lib.hid (show ∀ k, k ≤ 32 → (LU k).length = 4096 by rw [hLU]; exact hw.up_len hw.headS_len)
  have HR := Lib.hid (show compS p = splice (LU 32) 16 (beL 2 (cBot p 32)) by rw [hLU]; rfl)
  clear h hw hLU hZ hi hz0 hz1 hz2 i0
  go_enter Tryd.func11, Tryd.ntmps11
  go_wp2_with (first
    | (go_at_call 50; refine (HOW.out _ (Only.refl _ _)).mono ?_; rintro e w1 ⟨rfl, hE⟩; have HE1 := Lib.hid hE; clear hE)
    | (go_at_call 51; refine (HCP.out _ HE1.out).mono ?_; rintro e w2 ⟨v2, G2, rfl, hV2, hN2⟩; obtain ⟨A2, c2, rfl, q2⟩ := Rep.slice_V hV2; rw [HW.out.len]; obtain ⟨B, b0, rfl, rfl, hb2⟩ := Buf.of_new q2 hN2.unfr (by rw [HW.out.len]; omega); have HB2 := Lib.hid hb2; have HE2 := Lib.hid (HE1.out.ext hN2.ext); have HBN := Lib.hid (show w.heap.size ≤ B from Nat.le_trans HE1.out.size (hN2.new B (by simp))); clear hV2 hN2 q2 hb2))
  have hc2 := HB2.out.sl.1
  rw [HW.out.len] at hc2
  go_loopg [4] 3948 (fun m i wr => ∃ k : Nat, m + k = 3948 ∧ i = .int .i64 ((148 + k : Nat) : Int) ∧ Hid (Buf wr B b0 c2 (Z k)) ∧ Ext w wr)
  case atStart => exact ⟨0, by simp, rfl, by rw [HZ0.out]; exact HB2, HE2.out⟩
  case round =>
    obtain ⟨k, hmk, rfl, HBF, hE⟩ := hrel
    have HE := Lib.hid hE; have HMK := Lib.hid hmk
    clear hE hmk
    obtain ⟨i, hi⟩ : ∃ i, i = 148 + k := ⟨_, rfl⟩
    rw [← hi]
    by_cases hlt : i < 4096
    · have hzs := HZS.out k (by omega)
      rw [← hi] at hzs
      have t6 : (0 : Int) ≤ (i : Int) := by omega
      have t7 : (i : Int) < 4096 := by omega
      have t8 : (i : Int).toNat = i := by omega
      have hset := Buf.set HBF.out i (by rw [HZL.out k (by omega)]; exact hlt) 0 rfl
      have hc := sl_byte HBF.out.sl i (by rw [HZL.out k (by omega)]; exact hlt)
      have hf := HBF.out.un B (by simp) (b0 + i)
      have HST := Lib.hid hset; have HZ2 := Lib.hid hzs; have HI := Lib.hid hi
      clear hset hzs hi
      go_wp2
      go_roundg (3948 - (k + 1))
      case measure => have := HMK.out; have := HI.out; omega
      case rel =>
        exact ⟨k + 1, by have := HMK.out; have := HI.out; omega, by have := HI.out; congr 1; omega, Lib.hid (by rw [HZ2.out]; exact HST.out), HE.out.setCell (fun h => absurd h (by have := HBN.out; simp only; omega)) _⟩
    · have hk : k = 3948 := by have := HMK.out; omega
      subst hk
      have hi2 : i = 4096 := by omega
      subst hi2
      clear hi
      have HB3 := Lib.hid (show Buf wr B b0 c2 (LU 0) by rw [HU0.out]; exact HBF.out)
      go_wp2
      clear hlt
      go_loopg [5, 6] 32 (fun m a i wx => ∃ k : Nat, m + k = 32 ∧ a = .int .i64 (cBot p k) ∧ i = .int .i64 k ∧ Hid (Buf wx B b0 c2 (LU k)) ∧ Ext w wx)
      case atStart => exact ⟨0, by simp, rfl, rfl, HB3, HE.out⟩
      case round =>
        obtain ⟨k, hmk, rfl, rfl, HBX, hEx⟩ := hrel
        have HEX := Lib.hid hEx; have HMKX := Lib.hid hmk
        clear hEx hmk
        by_cases hlt : (k : Int) < 32
        · have hk : k < 32 := by omega
          have hst := HUS.out k
          rw [cStep] at hst
          by_cases ho : slO p k = 0
          · have HG := Lib.hid (pageGet_none _ g off c p F (Rep.sl_ext HS.out HEX.out) HW.out k hk ho)
            rw [if_pos ho] at hst
            have HST := Lib.hid hst
            have HBQ := Lib.hid (show cBot p (k + 1) = cBot p k by
              have h1 := (HW.out.slot k hk).2.2.2.2.2.1 ho
              show cBot p k - (slN p k).toNat = _
              rw [h1]; rfl)
            clear hst ho
            go_wp2_with (go_at_call 52; refine HG.out.mono ?_; rintro e w5 ⟨rfl, hE⟩; have HE6 := Lib.hid (HEX.out.ext hE); have HB6 := Lib.hid (HBX.out.ext hE); clear hE)
            go_roundg (32 - (k + 1))
            case measure => have := HMKX.out; omega
            case rel => exact ⟨k + 1, by have := HMKX.out; omega, by rw [HBQ.out], rfl, by rw [HST.out]; exact Lib.hid (HB6.out.ext (alloc_ext _ _)), HE6.out.alloc _⟩
          · rw [if_neg ho] at hst
            obtain ⟨q1, q2, q3, q4, q5, q6, q7⟩ := HW.out.slot k hk
            obtain ⟨nn, hnn⟩ := Int.eq_ofNat_of_zero_le q2
            have HG := Lib.hid (pageGet_some _ g off c p F (Rep.sl_ext HS.out HEX.out) HW.out k hk ho nn hnn)
            obtain ⟨r1, r2⟩ := HW.out.bot_succ k hk
            obtain ⟨-, r3, r4⟩ := HW.out.bot (k + 1) (by omega)
            have hdl := HW.out.dat k hk
            have r5 := (HW.out.bot k (by omega)).2.2
            rw [hnn] at q4 q5 r1 hdl hst
            generalize cBot p k = b at r1 r5 ⊢
            obtain ⟨b', hbq⟩ : ∃ b', b' = cBot p (k + 1) := ⟨_, rfl⟩
            rw [← hbq] at r1 r2 r3 r4 hst
            have HBQ := Lib.hid hbq
            simp only [Int.toNat_natCast] at hst r1 hdl
            have HST := Lib.hid hst; have HDL := Lib.hid hdl
            have e1 : IntKind.i64.wrap ((b : Int) - (nn : Int)) = (b' : Int) := by rw [IntKind.wrap_i64]; omega
            have e2 : (0 : Int) ≤ (b' : Int) := by omega
            have e7 : (b' : Int) ≤ 4096 := by omega
            have e8 : (4096 - (b' : Int)).toNat = 4096 - b' := by omega
            have e9 : (b' : Int).toNat = b' := by omega
            have HRR := Lib.hid (show b' + nn ≤ 4096 ∧ b' < 65536 ∧ nn < 65536 from by omega)
            have HC2 := Lib.hid hc2; have HK := Lib.hid hk
            clear hst hdl hnn ho q1 q2 q3 q4 q5 q6 q7 r1 r2 r3 r4 r5 hbq
            go_wp2_with (go_at_call 52; refine HG.out.mono ?_; rintro e w5 ⟨A5, c5, F5, rfl, hq5, hE⟩; have HE6 := Lib.hid (HEX.out.ext hE); have HB6 := Lib.hid (HBX.out.ext hE); have HQ5 := Lib.hid hq5; clear hE hq5)
            generalize hWA : w5.alloc (.cells #[.bool true, .slice A5 nn c5] 33) = WA
            have hEA : Ext w5 WA := hWA ▸ alloc_ext _ _
            have hbA : WA.heap[w5.heap.size]? = some (.cells #[.bool true, .slice A5 nn c5] 33 (0, 0)) := hWA ▸ heap_alloc_new _ _
            have HB7 := Lib.hid (HB6.out.ext hEA); have HE7 := Lib.hid (HE6.out.ext hEA); have HQ7 := Lib.hid (Rep.sl_ext HQ5.out hEA)
            have x1 : WA.cell? ⟨w5.heap.size, 1, none⟩ = some (.slice A5 nn c5) := cell_of_row _ _ 1 _ _ _ hbA
            have HBA := Lib.hid hbA
            have HBL := Lib.hid (show B < w5.heap.size from HB6.out.lt)
            clear hWA hEA hbA
            refine region_tail 5 (by kernel_rfl) (by kernel_rfl) ?_
            simp only [List.take_succ_cons, List.take_zero, List.drop_succ_cons, List.drop_zero]
            repeat (first
              | (refine WQ.skip (by rfl) ?_
                 try simp only [Act.put, List.setIfInBounds_toArray, List.set_cons_zero, List.set_cons_succ])
              | (refine WQ.take ?_ (by rfl) (fun w' hw => ?_) ?_
                 rotate_left
                 · have cq0 := hw.ecell x1
                   unfold Oper.quietAt
                   go_simp
                   first
                     | done
                     | exact ⟨rfl, rfl⟩
                     | exact rfl
                 try simp only [Act.put, List.setIfInBounds_toArray, List.set_cons_zero, List.set_cons_succ]))
            refine WQ.nil ?_
            intro w8 hw8
            obtain ⟨D1, hD1⟩ : ∃ D, D = (if c2 = b' then some (⟨B, b0, none⟩ : Addr) else some ⟨B, b0 + b', none⟩) := ⟨_, rfl⟩
            rw [← hD1]
            have HD1 := Lib.hid hD1
            have HE8 := Lib.hid (HE7.out.ext hw8); have HB8 := Lib.hid (HB7.out.ext hw8); have HQ8 := Lib.hid (Rep.sl_ext HQ7.out hw8); have HBA8 := Lib.hid (hw8.heap HBA.out (by simp))
            clear hw8 hD1 x1
            refine (copy_buf rfl (.tmp 38) (.tmp 40) 22 22 rfl 5 Tryd.underlying22 HSZ.out D1 A5 (4096 - b') _ nn c5 rfl rfl HB8.out b' (ys := cDat p k) (sl_wf HQ8.out) (by rw [HDL.out, HUL.out k (by have := HK.out; omega)]; have := HRR.out; omega) (by rw [HDL.out]; exact (Nat.min_eq_left (by have := HRR.out; omega)).symm) (fun hpos => ⟨by rw [HDL.out] at hpos; have := HRR.out; have := HC2.out; rw [HD1.out, if_neg (by omega)], by
              obtain ⟨ga, oa, rfl, -, hs⟩ := sl_ints HQ8.out (by intro h; rw [h] at hpos; simp at hpos)
              exact ⟨_, rfl, hs⟩⟩) ?_)
            intro w9 hb9 hO9
            have HB9 := Lib.hid hb9
            have HE9 := Lib.hid (show Ext w w9 from HE8.out.then_ hO9 (fun b hb hlt => by simp at hb; have := HBN.out; omega))
            have hbA9 := hO9.heap HBA8.out (by have := HBL.out; simp; omega)
            have m9 := fun o => cell_of_row _ _ o _ _ _ hbA9
            have HL9 := Lib.hid (show (splice (LU k) b' (cDat p k)).length = 4096 by rw [splice_len _ _ _ (by rw [HDL.out, HUL.out k (by have := HK.out; omega)]; have := HRR.out; omega), HUL.out k (by have := HK.out; omega)])
            clear hb9 hO9 hbA9
            go_wp2_with (go_at_call 53; refine (l3Set_calls _ B b0 c2 _ HB9.out HL9.out k b' nn _ _ _ rfl rfl rfl HK.out HRR.out.2.1 HRR.out.2.2).mono ?_; rintro e w10 ⟨rfl, hb10, hO10⟩)
            go_roundg (32 - (k + 1))
            case measure => have := HMKX.out; omega
            case rel =>
              refine ⟨k + 1, by have := HMKX.out; omega, by rw [← HBQ.out], rfl, Lib.hid ?_, HE9.out.then_ hO10 (fun b hb hlt => by simp at hb; have := HBN.out; omega)⟩
              rw [HST.out]
              exact hb10
        · have hk : k = 32 := by have := HMKX.out; omega
          subst hk
          obtain ⟨-, r3, r4⟩ := HW.out.bot 32 (by omega)
          obtain ⟨b, hbq⟩ : ∃ b, b = cBot p 32 := ⟨_, rfl⟩
          have HBQ := Lib.hid hbq
          try rw [← hbq]
          rw [← hbq] at r3 r4
          have HRR := Lib.hid (show b < 65536 by omega)
          have f1 : ¬ c2 = 16 := by omega
          have HC2 := Lib.hid hc2
          clear hbq r3 r4
          go_wp2_with fail
          go_region_held3 (fun w' => True)
            (first | go_keep | exact trivial)
            (first
              | (go_at_call 54; refine (putNumber_calls _ 2 b _ _ rfl rfl (by decide) (by decide) (by have := HRR.out; omega) (by have := HRR.out; omega)).mono ?_; rintro e w7 ⟨B7, rfl, hB7, hb7, hE7⟩)
              | (refine step_copy_buf rfl (.tmp 50) (.tmp 52) 22 22 rfl 5 Tryd.underlying22 HSZ.out _ _ 4080 _ 2 2 rfl rfl (HBX.out.ext ((Only.refl [] _).drew.ext hE7)) 16 (ys := beL 2 b) (byte_wf (beL_byte 2 b)) (by rw [beL_length, HUL.out 32 (by omega)]; omega) (by rw [beL_length]; rfl) (fun hpos => ⟨rfl, _, rfl, sl_all hb7.sl⟩) ?_; intro w8 hb8 hO8))
          have HB8 := Lib.hid hb8
          have HE8 := Lib.hid (show Ext w w8 from (HEX.out.ext ((Only.refl [] _).drew.ext hE7)).then_ hO8 (fun b hb hlt => by simp at hb; have := HBN.out; omega))
          clear hb8 hO8 hE7 hb7 hB7
          go_wp2
          go_ret
          exact ⟨B, b0, c2, rfl, HBN.out, by rw [HR.out, ← HBQ.out]; exact HB8.out, HE8.out⟩
end Go.Proofs.YtghgjddiheebeaaDoor
