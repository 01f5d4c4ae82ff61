/- The reference's PageFault behind its head: the slots, the marks. -/
import Derived.Test.YtghgjddiheebeaaDoorX10
namespace Go.Proofs.YtghgjddiheebeaaDoor
open Go.RowKit
set_option linter.unusedSimpArgs false
set_option linter.unusedVariables false
theorem Marks.made (w : World) (t : TypeId) (S : Int → Prop) (hS : ∀ t, ¬ S t) : Marks (w.alloc (.cells (Array.replicate 4096 (.bool false)) t)) w.heap.size S := by
  intro k hk
  refine ⟨?_, World.frozen?_alloc_at _ _ _ _ rfl⟩
  rw [World.cell?_alloc_at _ _ _ _ rfl, tk_false (hS k)]
  simp [hk]
theorem info4 : (Tryd.prog.info? 4).map (fun i => (i.zero, i.size, i.bytes)) = some (some (.bool false), 1, 1) := by kernel_rfl
theorem made_one (z : Value) (n : Nat) (hz : z.cells = #[z]) : madeCells z.cells n = Array.replicate n z := by
  rw [hz]
  apply Array.ext
  · simp [madeCells]
  · intro i h1 h2
    simp [madeCells, Nat.mod_one]
theorem mk_marks (w : World) : (Instr.makeSlice 141 (.int .i64 4096) (.int .i64 4096)).run Tryd.prog w = .ok (.slice (some ⟨w.heap.size, 0, none⟩) 4096 4096) (w.alloc (.cells (Array.replicate 4096 (.bool false)) 4)) := by
  obtain ⟨i0, hi, hz0, hz1, hz2⟩ := info_parts info4
  have h := run_make (P := Tryd.prog) w 141 4 i0 _ Tryd.underlying141 hi hz0 .i64 .i64 4096 4096 (by omega) (by omega) (by rw [hz2]; omega) (by omega)
  rw [hz1, made_one _ _ rfl] at h
  exact h
open Classical in
set_option maxRecDepth 100000 in
set_option maxHeartbeats 8000000 in
theorem specFault_body (w : World) (g off c : Nat) (p : List Int) (F : List Nat) (h : (Rep.int .u8).sl w (some ⟨g, off, none⟩) c p F) (hp : p.length = 4096) (num : Int) (R : Int)
    (hR : R = if ∃ i, i < 32 ∧ slBad p (beAt p 16 2) i = true then 5 else if ∃ i j k, i < 32 ∧ j < i ∧ cov p i k ∧ cov p j k then 6 else 0)
    (hx1 : beAt p 12 4 = num) (hx2 : beAt p 4 8 ≤ 1099511627776) (hx3 : beAt p 18 2 = 0) (hx4 : 148 ≤ beAt p 16 2) (hx5 : beAt p 16 2 ≤ 4096) :
    Calls Tryd.prog 74 #[.slice (some ⟨g, off, none⟩) 4096 c, .int .i64 num] w fun e w' => e = .returned (.int .i64 R) ∧ Ext w w' := by
  have hw : ∀ z ∈ p, 0 ≤ z ∧ z ≤ 255 := fun z hz => Lib.byte_of_wf (sl_wf h z hz)
  have HC12 := Lib.hid (fun W (hW : Ext w W) => by
    have h := l3Number_calls W g off c p F (Rep.sl_ext h hW) 12 4 (by decide) (by decide) (by omega) 12 4 rfl rfl (by omega)
    rw [hp, numAt_short _ 4 (by decide), hx1] at h
    exact h)
  have HC8 := Lib.hid (fun W (hW : Ext w W) => by
    have h := l3Number_calls W g off c p F (Rep.sl_ext h hW) 4 8 (by decide) (by decide) (by omega) 4 8 rfl rfl (by omega)
    rw [hp] at h
    exact h)
  have HCB := Lib.hid (fun W (hW : Ext w W) => l3Bottom_calls W g off c p F (Rep.sl_ext h hW) hp)
  have HCS := Lib.hid (fun W (hW : Ext w W) => l3Slots_cells W g off c p F (Rep.sl_ext h hW) hp)
  have C18 := Lib.hid (sl_byte h 18 (by omega)); have C19 := Lib.hid (sl_byte h 19 (by omega))
  have h2 : beAt p 18 2 = p.getD 18 0 * 256 + p.getD 19 0 := beAt_two (p := p) 18 (by omega)
  have hz8 := hw (p.getD 18 0) (by rw [List.getD, List.getElem?_eq_getElem (by omega)]; exact List.getElem_mem _)
  have hz9 := hw (p.getD 19 0) (by rw [List.getD, List.getElem?_eq_getElem (by omega)]; exact List.getElem_mem _)
  have hl := numAt_lsn hw 4
  have HRO := Lib.hid (fun i => (show 0 ≤ slO p i ∧ slO p i ≤ 65535 from beAt_u16 hw _))
  have HRN := Lib.hid (fun i => (show 0 ≤ slN p i ∧ slN p i ≤ 65535 from beAt_u16 hw _))
  have hpc := h.1
  rw [hp] at hpc
  have g1 : ¬ numAt p 4 8 < 0 := by omega
  have g2 : ¬ 1099511627776 < numAt p 4 8 := by omega
  rw [h2] at hx3
  have g3 : p.getD 18 0 = 0 := by omega
  have g4 : p.getD 19 0 = 0 := by omega
  rw [g3] at C18
  rw [g4] at C19
  generalize numAt p 4 8 = l at *
  have HX4 := Lib.hid (rfl : beAt p 16 2 = beAt p 16 2)
  obtain ⟨b, hb⟩ : ∃ b, b = beAt p 16 2 := ⟨_, rfl⟩
  rw [← hb] at hR hx4 hx5 HCB
  have g5 : ¬ b < 148 := by omega
  have g6 : ¬ 4096 < b := by omega
  have HR := Lib.hid hR
  clear h hp hw h2 hz8 hz9 hl hx1 hx2 hx3 hb hR HX4 g3 g4
  have hmk := mk_marks
  go_enter Tryd.func74, Tryd.ntmps74
  go_wp2_with (first
    | (go_at_call_of 108 (Value.int .i64 12); refine (HC12.out _ (Only.refl [] _)).mono ?_; rintro e w1 ⟨rfl, hE⟩; have HE1 := Lib.hid hE; clear hE)
    | (go_at_call_of 108 (Value.int .i64 8); refine (HC8.out _ HE1.out).mono ?_; rintro e w2 ⟨rfl, hE⟩; have HE2 := Lib.hid (HE1.out.ext hE); have c18 := HE2.out.ecell C18.out; have c19 := HE2.out.ecell C19.out; clear hE)
    | (go_at_call 60; refine (HCB.out _ HE2.out).mono ?_; rintro e w3 ⟨rfl, hE⟩; have HE3 := Lib.hid (HE2.out.ext hE); clear hE c18 c19)
    | (go_at_call 58; refine (HCS.out _ HE3.out).mono ?_; rintro e w4 ⟨Bs, zs, cps, rfl, hB1, hB2, hcp, hcell, hE⟩; have HE4 := Lib.hid (HE3.out.ext hE); have HSC := Lib.hid hcell; have HBS := Lib.hid hB2; clear hE hcell hB1 hB2))
  go_loopg [8] 32 (fun m i wr => ∃ k : Nat, m + k = 32 ∧ i = .int .i64 k ∧ Hid (∀ j, j < k → slBad p b j = false) ∧ Ext w4 wr)
  case atStart => exact ⟨0, by simp, rfl, Lib.hid (fun j hj => absurd hj (by omega)), Only.refl _ _⟩
  case round =>
    obtain ⟨k, hmk, rfl, HG, hE⟩ := hrel
    have HE5 := Lib.hid hE; have HMK := Lib.hid hmk
    clear hE hmk
    by_cases hlt : (k : Int) < 32
    · have hk : k < 32 := by omega
      obtain ⟨d1, d2⟩ := HSC.out k hk
      replace d1 := HE5.out.ecell d1
      replace d2 := HE5.out.ecell d2
      obtain ⟨q1, q2⟩ := HRO.out k
      obtain ⟨q3, q4⟩ := HRN.out k
      obtain ⟨o, ho⟩ : ∃ o, o = slO p k := ⟨_, rfl⟩
      obtain ⟨n, hn⟩ : ∃ o, o = slN p k := ⟨_, rfl⟩
      rw [← ho] at q1 q2 d1
      rw [← hn] at q3 q4 d2
      have hbt := @slBad_true p b k
      have hbf := @slBad_false p b k
      rw [← ho, ← hn] at hbt hbf
      have HBT := Lib.hid hbt; have HBF := Lib.hid hbf
      have e3 : IntKind.i64.wrap (o + n) = o + n := by rw [IntKind.wrap_i64]; omega
      clear ho hn hbt hbf
      have hcs : ((o = 0 ∧ ¬ n = 0) ∨ (¬ o = 0 ∧ 1000 < n) ∨ (¬ o = 0 ∧ ¬ 1000 < n ∧ o < b) ∨ (¬ o = 0 ∧ ¬ 1000 < n ∧ ¬ o < b ∧ 4096 < o + n)) ∨ ((o = 0 ∧ n = 0) ∨ (¬ o = 0 ∧ ¬ 1000 < n ∧ ¬ o < b ∧ ¬ 4096 < o + n)) := by omega
      rcases hcs with hbad | hgood
      · have HB := Lib.hid (show slBad p b k = true from HBT.out.2 (by omega))
        rcases hbad with ⟨rfl, c1⟩ | ⟨c0, c1⟩ | ⟨c0, c1, c2⟩ | ⟨c0, c1, c2, c3⟩
        all_goals
          go_wp2
          go_ret
          exact ⟨by rw [HR.out, if_pos ⟨k, hk, HB.out⟩]; rfl, (HE4.out.ext HE5.out).alloc _⟩
      · have HB := Lib.hid (show slBad p b k = false from HBF.out.2 (by omega))
        rcases hgood with ⟨rfl, rfl⟩ | ⟨c0, c1, c2, c3⟩
        all_goals
          go_wp2
          go_roundg (32 - (k + 1))
          case measure => have := HMK.out; omega
          case rel =>
            refine ⟨k + 1, by have := HMK.out; omega, rfl, Lib.hid (fun j hj => ?_), HE5.out.alloc _⟩
            rcases Nat.lt_or_ge j k with h | h
            · exact HG.out j h
            · obtain rfl : j = k := by omega
              exact HB.out
    · have hk32 : k = 32 := by have := HMK.out; omega
      subst hk32
      have HB := Lib.hid (show ∀ i, i < 32 → slO p i + slN p i ≤ 4096 from fun i hi => by
        have h1 := slBad_false.1 (HG.out i hi)
        omega)
      have HR6 := Lib.hid (show R = if ∃ i j k, i < 32 ∧ j < i ∧ cov p i k ∧ cov p j k then 6 else 0 by
        rw [HR.out]
        refine if_neg ?_
        rintro ⟨i, hi, h⟩
        rw [HG.out i hi] at h
        cases h)
      go_wp2
      clear hmk
      have HM := Lib.hid (Marks.made wr 4 (fun t => ∃ j, j < 0 ∧ cov p j t) (fun t => by rintro ⟨j, h, _⟩; omega))
      obtain ⟨Bk, hBk⟩ : ∃ b, b = wr.heap.size := ⟨_, rfl⟩
      have HBW := Lib.hid (show w4.heap.size ≤ Bk from hBk ▸ HE5.out.size)
      rw [← hBk] at HM
      try rw [← hBk]
      have HBK := Lib.hid hBk
      clear hBk
      go_loopg [11, 12] 32 (fun m i q wx => ∃ k : Nat, m + k = 32 ∧ i = .int .i64 k ∧ Hid (∀ i j t, i < k → j < i → ¬ (cov p i t ∧ cov p j t)) ∧ Hid (Marks wx Bk (fun t => ∃ j, j < k ∧ cov p j t)) ∧ Ext w4 wx)
      case atStart => exact ⟨0, by simp, rfl, Lib.hid (fun i j t h => absurd h (by omega)), HM, HE5.out.alloc _⟩
      case round =>
        obtain ⟨k, hmk, rfl, HNO, HMM, hE⟩ := hrel
        have HE6 := Lib.hid hE; have HMK2 := Lib.hid hmk
        clear hE hmk
        by_cases hlt2 : (k : Int) < 32
        · have hk : k < 32 := by omega
          obtain ⟨d1, d2⟩ := HSC.out k hk
          obtain ⟨q1, q2⟩ := HRO.out k
          obtain ⟨q3, q4⟩ := HRN.out k
          have hb1 := HB.out k hk
          obtain ⟨o, ho⟩ : ∃ o, o = slO p k := ⟨_, rfl⟩
          obtain ⟨n, hn⟩ : ∃ o, o = slN p k := ⟨_, rfl⟩
          have hcv : ∀ t, cov p k t ↔ o ≤ t ∧ t < o + n := fun t => by rw [ho, hn]; exact Iff.rfl
          rw [← ho] at q1 q2 hb1 d1
          rw [← hn] at q3 q4 hb1 d2
          have HCV := Lib.hid hcv; have D1 := Lib.hid d1; have D2 := Lib.hid d2
          have d3 := HE6.out.ecell d1
          have e3 : IntKind.i64.wrap (o + n) = o + n := by rw [IntKind.wrap_i64]; omega
          have k0 : (0 : Int) ≤ k := by omega
          have k1 : (k : Int).toNat = k := by omega
          clear ho hn hcv d1 d2
          go_wp2
          go_loopg [12] (n.toNat) (fun m q wy => ∃ s : Nat, m + s = (o + n).toNat ∧ q = .int .i64 s ∧ Hid (o ≤ (s : Int) ∧ (s : Int) ≤ o + n) ∧ Hid (∀ t : Int, o ≤ t → t < s → ∀ j, j < k → ¬ cov p j t) ∧ Hid (Marks wy Bk (fun t => (∃ j, j < k ∧ cov p j t) ∨ (o ≤ t ∧ t < s))) ∧ Ext w4 wy)
          case atStart => exact ⟨o.toNat, by omega, by congr 1; omega, Lib.hid (by omega), Lib.hid (fun t h1 h2 => absurd h2 (by omega)), Lib.hid (HMM.out.same (Only.refl _ _) HMM.out.lt (fun t => ⟨fun h => h.resolve_right (by omega), .inl⟩)), HE6.out⟩
          case round =>
            obtain ⟨s, hms, rfl, HSB, HNV, HMS, hE⟩ := hrel
            have HE8 := Lib.hid hE; have HMS2 := Lib.hid hms
            clear hE hms
            have d4 := HE8.out.ecell D1.out
            have d5 := HE8.out.ecell D2.out
            by_cases hls : (s : Int) < o + n
            · have hs4 : s < 4096 := by omega
              have hs5 : (s : Int) < 4096 := by omega
              have hs6 : decide ((s : Int) < o + n) = true := by simpa using hls
              obtain ⟨m1, m2⟩ := HMS.out s hs4
              go_wp2_with fail
              refine region_ext (by kernel_rfl) (by kernel_rfl) ?_
              repeat (first
                | (refine WQ.skip (by rfl) ?_
                   try simp only [Act.put, List.setIfInBounds_toArray, List.set_cons_zero, List.set_cons_succ])
                | (refine WQ.take ?_ (by rfl) (fun w' hw => ?_) ?_
                   rotate_left
                   · have cq0 := hw.ecell d4
                     have cq1 := hw.ecell d5
                     unfold Oper.quietAt
                     go_simp
                     first
                       | done
                       | exact ⟨rfl, rfl⟩
                       | exact rfl
                   try simp only [Act.put, List.setIfInBounds_toArray, List.set_cons_zero, List.set_cons_succ]))
              refine WQ.nil ?_
              intro wz hwz
              have HR9 := Lib.hid hwz
              clear hwz
              replace m1 := HR9.out.ecell m1
              replace m2 := HR9.out.efroz HMS.out.lt m2
              have HMT := Lib.hid (HMS.out.same HR9.out HMS.out.lt (fun t => Iff.rfl))
              by_cases htk : ∃ j, j < k ∧ cov p j s
              · have HTK := Lib.hid htk
                rw [tk_true (.inl htk)] at m1
                clear htk
                go_wp2
                go_ret
                refine ⟨?_, HE4.out.ext (HE8.out.ext HR9.out)⟩
                obtain ⟨j, hj, hc⟩ := HTK.out
                rw [HR6.out, if_pos ⟨k, j, s, hk, hj, (HCV.out s).2 ⟨HSB.out.1, hls⟩, hc⟩]
                rfl
              · have HTK := Lib.hid htk
                rw [tk_false (by rintro (h | ⟨_, h⟩); exact htk h; omega)] at m1
                clear htk
                go_wp2
                go_roundg ((o + n).toNat - (s + 1))
                case measure => have := HMS2.out; omega
                case rel =>
                  refine ⟨s + 1, by have := HMS2.out; omega, rfl, Lib.hid (by have := HSB.out; omega), Lib.hid (fun t h1 h2 j hj hc => ?_), Lib.hid (HMT.out.set s hs4 _ (fun t => ?_)), ?_⟩
                  · by_cases e : t = s
                    · subst e; exact HTK.out ⟨j, hj, hc⟩
                    · exact HNV.out t h1 (by omega) j hj hc
                  · have := HSB.out
                    constructor
                    · rintro (h | h)
                      · exact .inl (.inl h)
                      · by_cases e : t = s
                        · exact .inr e
                        · exact .inl (.inr (by omega))
                    · rintro ((h | h) | h)
                      · exact .inl h
                      · exact .inr (by omega)
                      · exact .inr (by omega)
                  · exact (HE8.out.ext HR9.out).setCell (fun h => absurd h (by have := HBW.out; simp only; omega)) _
            · have hs6 : decide ((s : Int) < o + n) = false := by simpa using hls
              go_wp2_with fail
              refine region_ext (by kernel_rfl) (by kernel_rfl) ?_
              repeat (first
                | (refine WQ.skip (by rfl) ?_
                   try simp only [Act.put, List.setIfInBounds_toArray, List.set_cons_zero, List.set_cons_succ])
                | (refine WQ.take ?_ (by rfl) (fun w' hw => ?_) ?_
                   rotate_left
                   · have cq0 := hw.ecell d4
                     have cq1 := hw.ecell d5
                     unfold Oper.quietAt
                     go_simp
                     first
                       | done
                       | exact ⟨rfl, rfl⟩
                       | exact rfl
                   try simp only [Act.put, List.setIfInBounds_toArray, List.set_cons_zero, List.set_cons_succ]))
              refine WQ.nil ?_
              intro wz hwz
              have HR9 := Lib.hid hwz
              clear hwz
              go_wp2
              go_roundg (32 - (k + 1))
              case measure => have := HMK2.out; omega
              case rel =>
                have hso : (s : Int) = o + n := by have := HSB.out; omega
                refine ⟨k + 1, by have := HMK2.out; omega, rfl, Lib.hid (fun i j t hi hj => ?_), Lib.hid (HMS.out.same HR9.out HMS.out.lt (fun t => ?_)), HE8.out.ext HR9.out⟩
                · rcases Nat.lt_or_ge i k with h | h
                  · exact HNO.out i j t h hj
                  · obtain rfl : i = k := by omega
                    rintro ⟨h1, h2⟩
                    have h3 := (HCV.out t).1 h1
                    exact HNV.out t h3.1 (by omega) j hj h2
                · rw [hso, ← HCV.out t]
                  constructor
                  · rintro ⟨j, hj, hc⟩
                    rcases Nat.lt_or_ge j k with h | h
                    · exact .inl ⟨j, h, hc⟩
                    · obtain rfl : j = k := by omega
                      exact .inr hc
                  · rintro (⟨j, hj, hc⟩ | hc)
                    · exact ⟨j, by omega, hc⟩
                    · exact ⟨k, by omega, hc⟩
        · have hk32 : k = 32 := by have := HMK2.out; omega
          subst hk32
          go_wp2
          go_ret
          refine ⟨?_, HE4.out.ext HE6.out⟩
          rw [HR6.out, if_neg]
          · rfl
          · rintro ⟨i, j, t, hi, hj, h1, h2⟩
            exact HNO.out i j t hi hj ⟨h1, h2⟩
end Go.Proofs.YtghgjddiheebeaaDoor
