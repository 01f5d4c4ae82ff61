/- DecodeRecord, the program's: the tables, A. -/
import Derived.Test.YtghgjddiheebeaaDoorMSG
import Derived.Deep.RegionHeld3
import Derived.Deep.DeepCutAuto
import Derived.Deep.CutBlock
namespace Go.Proofs.YtghgjddiheebeaaDoor
open Go.RowKit
set_option linter.unusedSimpArgs false
set_option linter.unusedVariables false

set_option maxRecDepth 100000 in
set_option maxHeartbeats 8000000 in
theorem implDec_7_A (w : World) (A : Option Addr) (c : Nat) (b : List Int) (F : List Nat) (h : (Rep.int .u8).sl w A c b F) (hm : b.length ≤ 1048576) (t pv : Int) (r1 r2 r3 : List Int) (b1 b2 b3 : Bool)
    (hk : rdNum 1 (b, false) = (7, (r1, b1))) (ht : rdNum 4 (r1, b1) = (t, (r2, b2))) (hp : rdNum 8 (r2, b2) = (pv, (r3, b3))) (nt : Int) (nn mm : Nat) (ts : List DTxnEntry) (ds : List DDirtyEntry) (r4 r5 r6 r7 r8 : List Int) (b4 b5 b6 b7 b8 : Bool)
    (h4 : rdNum 4 (r3, b3) = (nt, (r4, b4))) (h5 : rdNum 1 (r4, b4) = ((nn : Int), (r5, b5))) (h6 : rdTs nn (r5, b5) = (ts, (r6, b6))) (h7 : rdNum 1 (r6, b6) = ((mm : Int), (r7, b7))) (h8 : rdDs mm (r7, b7) = (ds, (r8, b8))) (hA : b8 = true ∨ b8 = false ∧ recFault ⟨7, t, pv, 0, 0, ⟨false, []⟩, ⟨false, []⟩, 0, nt, ts, ds, []⟩ ≠ 0) :
    Calls Tryd.prog 46 #[.slice A b.length c] w (NewPost Rep.RecordResult ⟨false, zeroRecD⟩ w) := by
  have HA := Lib.hid hA
  clear hA
  have hby : isByte b := fun z hz => Lib.byte_of_wf (sl_wf h z hz)
  obtain ⟨wk, y1, l1⟩ := rdNum_room hk hby (by decide)
  try dsimp only at l1
  obtain ⟨wt, y2, l2⟩ := rdNum_room ht y1 (by decide)
  try dsimp only at l2
  obtain ⟨wp, y3, l3⟩ := rdNum_room hp y2 (by decide)
  try dsimp only at l3
  have hu := Tryd.underlying49
  have hu2 := Tryd.underlying65
  have hu3 := Tryd.underlying135
  have HFL := Lib.hid (Rep.sl_lt h)
  have HB0 := Lib.hid h
  have HK := Lib.hid hk; have HT := Lib.hid ht; have HP := Lib.hid hp
  have HSC := Lib.hid (show SC (w.heap.size + 1) F b false ((w.alloc (.cells res0 65)).alloc (.cells #[.slice A b.length c, .bool false] 135)) from
    ⟨⟨A, c, F, heap_at _ _ (by simp), Rep.sl_ext h ((alloc_ext _ _).ext (alloc_ext _ _)), fun g hg => hg⟩, fun hq => absurd (Rep.sl_lt h _ hq) (by omega)⟩)
  have HRB := Lib.hid ((alloc_ext (w.alloc (.cells res0 65)) (.cells #[.slice A b.length c, .bool false] 135)).heap (heap_alloc_new w (.cells res0 65)) (by simp))
  have HX0 := Lib.hid ((alloc_ext w (.cells res0 65)).ext (alloc_ext _ (.cells #[.slice A b.length c, .bool false] 135)))
  have hz0 : ((w.alloc (.cells res0 65)).alloc (.cells #[.slice A b.length c, .bool false] 135)).heap.size = w.heap.size + 2 := by simp
  have HZ0 := Lib.hid hz0
  clear h hk ht hp hz0
  obtain ⟨wnt, y4, l4⟩ := rdNum_room h4 y3 (by decide)
  try dsimp only at l4
  obtain ⟨wnn, y5, l5⟩ := rdNum_room h5 y4 (by decide)
  try dsimp only at l5
  have hnn := (rdNum1_room h5 y4).2
  have H4 := Lib.hid h4; have H5 := Lib.hid h5; have H6 := Lib.hid h6; have H7 := Lib.hid h7; have H8 := Lib.hid h8
  clear h4 h5 h6 h7 h8
  go_enter Tryd.func46, Tryd.ntmps46
  go_wp2_with (first
    | (go_at_call 105; refine (HS2.out.numP 8 _ rfl (by decide) (by omega) _ _ _ HP.out).mono ?_; rintro e w3 ⟨rfl, h1, hO⟩; have HS3 := Lib.hid h1; have HO3 := Lib.hid (HO2.out.trans hO); clear h1 hO; refine Hid.out ?_)
    | (go_at_call 105; refine (HS1.out.numP 4 _ rfl (by decide) (by omega) _ _ _ HT.out).mono ?_; rintro e w2 ⟨rfl, h1, hO⟩; have HS2 := Lib.hid h1; have HO2 := Lib.hid (HO1.out.trans hO); clear h1 hO)
    | (go_at_call 105; refine (HSC.out.numP 1 _ rfl (by decide) hm _ _ _ HK.out).mono ?_; rintro e w1 ⟨rfl, h1, hO⟩; have HS1 := Lib.hid h1; have HO1 := Lib.hid hO; clear h1 hO))
  refine Lib.hid ?_
  have hw3 : w.heap.size + 2 ≤ w3.heap.size := by have h1 := HO3.out.size; have h2 := HZ0.out; omega
  have HG := Lib.hid (show Geo w (w.heap.size + 1) w.heap.size w3.heap.size (w3.heap.size + 1) F from ⟨by omega, by omega, by omega, by omega, HFL.out⟩)
  have HDS0 := Lib.hid (show DS (SC (w.heap.size + 1) F r3 b3) w w.heap.size w3.heap.size (w3.heap.size + 1) #[.int .i64 7, .int .i64 t, .int .i64 pv, .int .i64 0, .int .i64 0, .bool false, .slice none 0 0, .bool false, .slice none 0 0, .int .i64 0, .int .i64 0, .slice none 0 0, .slice none 0 0, .slice none 0 0] (w3.alloc (.cells #[.int .i64 7, .int .i64 t, .int .i64 pv, .int .i64 0, .int .i64 0, .bool false, .slice none 0 0, .bool false, .slice none 0 0, .int .i64 0, .int .i64 0, .slice none 0 0, .slice none 0 0, .slice none 0 0] 49)) from
    ⟨HS3.out.ext (alloc_ext _ _), (alloc_ext _ _).heap (HO3.out.heap HRB.out (by simp)) (by simp), heap_alloc_new _ _, (HX0.out.then_ HO3.out (fun g hg hl => by simp at hg; omega)).ext (alloc_ext _ _), by simp⟩)
  go_wp2_with (first
    | (go_at_call 105; refine (HDS1s.out.numS HG.out 1 _ rfl (by decide) (by omega) _ _ _ H5.out).mono ?_; rintro e ww2 ⟨rfl, HDS2, HUP2⟩; have m := fun o => cell_of_row _ _ o _ _ _ HDS2.out.row; have f := fun o => frozen_of_row _ _ o _ _ HDS2.out.row; refine Hid.out ?_)
    | (go_at_call 105; refine (HDS0.out.numS HG.out 4 _ rfl (by decide) (by omega) _ _ _ H4.out).mono ?_; rintro e ww1 ⟨rfl, HDS1, HUP1⟩; have m := fun o => cell_of_row _ _ o _ _ _ HDS1.out.row; have f := fun o => frozen_of_row _ _ o _ _ HDS1.out.row; have HDS1s := Lib.hid (show DS (SC (w.heap.size + 1) F r4 b4) w w.heap.size w3.heap.size (w3.heap.size + 1) #[.int .i64 7, .int .i64 t, .int .i64 pv, .int .i64 0, .int .i64 0, .bool false, .slice none 0 0, .bool false, .slice none 0 0, .int .i64 0, .int .i64 nt, .slice none 0 0, .slice none 0 0, .slice none 0 0] (ww1.setCell ⟨w3.heap.size, 10, none⟩ (.int .i64 nt)) from DS.conv ((HDS1.out).setS HG.out 10 (.int .i64 nt)) (by rfl)); have HUP1s := Lib.hid (show Up (w3.heap.size + 1) ww1 (ww1.setCell ⟨w3.heap.size, 10, none⟩ (.int .i64 nt)) from (by repeat (first | with_reducible exact Up.refl _ _ | (with_reducible refine Up.trans ?_ (Up.set HG.out _ _ _)))))))
  refine Lib.hid ?_
  go_wp2_with fail
  obtain ⟨W0, hW0⟩ : ∃ W0, W0 = ww2 := ⟨_, rfl⟩
  have HST := Lib.hid (show DS (SC (w.heap.size + 1) F r5 b5) w w.heap.size w3.heap.size (w3.heap.size + 1) #[.int .i64 7, .int .i64 t, .int .i64 pv, .int .i64 0, .int .i64 0, .bool false, .slice none 0 0, .bool false, .slice none 0 0, .int .i64 0, .int .i64 nt, .slice none 0 0, .slice none 0 0, .slice none 0 0] W0 from hW0 ▸ HDS2.out)
  rw [← hW0]
  have HW0 := Lib.hid hW0
  clear hW0
  obtain ⟨i0, hi, hz0, hz1, hz2⟩ := info_parts infoT
  go_loopg [5] nn (fun m i wr => ∃ (rest : List Int) (bd : Bool) (acc : List DTxnEntry) (Ao : Option Addr) (co : Nat), i = .int .i64 m ∧ Hid (DS (SC (w.heap.size + 1) F rest bd) w w.heap.size w3.heap.size (w3.heap.size + 1) #[.int .i64 7, .int .i64 t, .int .i64 pv, .int .i64 0, .int .i64 0, .bool false, .slice none 0 0, .bool false, .slice none 0 0, .int .i64 0, .int .i64 nt, .slice Ao acc.length co, .slice none 0 0, .slice none 0 0] wr) ∧ Hid (Own Rep.TxnEntry 104 W0.heap.size wr (.slice Ao acc.length co) acc) ∧ Hid (rdTs nn (r5, b5) = (acc ++ (rdTs m (rest, bd)).1, (rdTs m (rest, bd)).2)) ∧ Hid (isByte rest ∧ rest.length ≤ b.length ∧ acc.length + m = nn) ∧ Hid (Only [w.heap.size + 1, w3.heap.size] W0 wr))
  case atStart => exact ⟨_, _, [], none, 0, rfl, HST, Lib.hid (Own.nil (Nat.le_refl _)), Lib.hid (by simp), Lib.hid ⟨y5, by omega, by simp⟩, Lib.hid (Only.refl _ _)⟩
  case round =>
    obtain ⟨rest, bd, acc, Ao, co, rfl, HDJ, HOJ, HEJ, HRJ, HNJ⟩ := hrel
    obtain ⟨As, cs, Gs, ms, fs, -, -⟩ := HDJ.out.p.cells
    by_cases hgo : 0 < gk ∧ bd = false
    · obtain ⟨hg0, rfl⟩ := hgo
      obtain ⟨mq, rfl⟩ : ∃ m, gk = m + 1 := ⟨gk - 1, by omega⟩
      have hmq : mq ≤ 255 := by have := HRJ.out.2.2; omega
      obtain ⟨va, q0, x0, e0⟩ : ∃ v r x, rdNum 4 (rest, false) = (v, (r, x)) := ⟨_, _, _, rfl⟩
      obtain ⟨wq0, yq0, lq0⟩ := rdNum_room e0 HRJ.out.1 (by decide)
      try dsimp only at lq0
      have E0 := Lib.hid e0
      obtain ⟨vb, q1, x1, e1⟩ : ∃ v r x, rdNum 1 (q0, x0) = (v, (r, x)) := ⟨_, _, _, rfl⟩
      obtain ⟨wq1, yq1, lq1⟩ := rdNum_room e1 yq0 (by decide)
      try dsimp only at lq1
      have E1 := Lib.hid e1
      obtain ⟨vc, q2, x2, e2⟩ : ∃ v r x, rdNum 8 (q1, x1) = (v, (r, x)) := ⟨_, _, _, rfl⟩
      obtain ⟨wq2, yq2, lq2⟩ := rdNum_room e2 yq1 (by decide)
      try dsimp only at lq2
      have E2 := Lib.hid e2
      obtain ⟨vd, q3, x3, e3⟩ : ∃ v r x, rdNum 8 (q2, x2) = (v, (r, x)) := ⟨_, _, _, rfl⟩
      obtain ⟨wq3, yq3, lq3⟩ := rdNum_room e3 yq2 (by decide)
      try dsimp only at lq3
      have E3 := Lib.hid e3
      have HNX := Lib.hid (rdTs_step (m := mq) e0 e1 e2 e3)
      clear e0 e1 e2 e3
      have hrl := HRJ.out.2.1
      have HL0 := Lib.hid (show DS (SC (w.heap.size + 1) F rest false) w w.heap.size w3.heap.size (w3.heap.size + 1) #[.int .i64 7, .int .i64 t, .int .i64 pv, .int .i64 0, .int .i64 0, .bool false, .slice none 0 0, .bool false, .slice none 0 0, .int .i64 0, .int .i64 nt, .slice Ao acc.length co, .slice none 0 0, .slice none 0 0] wr.drew from HDJ.out.more (Only.refl [] _).drew)
      have m := fun o => cell_of_row _ _ o _ _ _ HL0.out.row; have f := fun o => frozen_of_row _ _ o _ _ HL0.out.row
      have HO0 := Lib.hid ((Only.refl [w.heap.size + 1] wr).drew)
      go_wp2_with fail
      refine wp_region_noPanic ?_
      refine wp_region_held_drew (S := (fun w' => True)) (by kernel_rfl) ?_ (fun hHeld => ?_)
      · exact True.intro
      refine wpAnyH_take (i := 0) (v := ?_) rfl (by kernel_rfl) (by kernel_rfl) (by kernel_rfl) (fun _ _ _ h => h) (Or.inl ⟨by rfl, ?_⟩) (by assumption) ?_
      rotate_left
      · intro w hSw; (try dsimp only at hSw); go_simp <;> with_reducible rfl
      try simp only [Act.put, List.setIfInBounds_toArray, List.set_cons_zero, List.set_cons_succ]
      refine wpAnyH_take (i := 2) (v := ?_) rfl (by kernel_rfl) (by kernel_rfl) (by kernel_rfl) (fun _ _ _ h => h) (Or.inl ⟨by rfl, ?_⟩) (by assumption) ?_
      rotate_left
      · intro w hSw; (try dsimp only at hSw); go_simp <;> with_reducible rfl
      try simp only [Act.put, List.setIfInBounds_toArray, List.set_cons_zero, List.set_cons_succ]
      refine wpAnyH_take (i := 4) (v := ?_) rfl (by kernel_rfl) (by kernel_rfl) (by kernel_rfl) (fun _ _ _ h => h) (Or.inl ⟨by rfl, ?_⟩) (by assumption) ?_
      rotate_left
      · intro w hSw; (try dsimp only at hSw); go_simp <;> with_reducible rfl
      try simp only [Act.put, List.setIfInBounds_toArray, List.set_cons_zero, List.set_cons_succ]
      refine wpAnyH_take (i := 6) (v := ?_) rfl (by kernel_rfl) (by kernel_rfl) (by kernel_rfl) (fun _ _ _ h => h) (Or.inl ⟨by rfl, ?_⟩) (by assumption) ?_
      rotate_left
      · intro w hSw; (try dsimp only at hSw); go_simp <;> with_reducible rfl
      try simp only [Act.put, List.setIfInBounds_toArray, List.set_cons_zero, List.set_cons_succ]
      refine wpAnyH_take (i := 8) (v := ?_) rfl (by kernel_rfl) (by kernel_rfl) (by kernel_rfl) (fun _ _ _ h => h) (Or.inl ⟨by rfl, ?_⟩) (by assumption) ?_
      rotate_left
      · intro w hSw; (try dsimp only at hSw); go_simp <;> with_reducible rfl
      try simp only [Act.put, List.setIfInBounds_toArray, List.set_cons_zero, List.set_cons_succ]
      refine wpAnyH_ready (rs := [1, 3]) (by kernel_rfl) (by simp) ?_
      refine AllReadyH.cons rfl (fun K hK => ?_) ?_
      · go_simp
        refine hK.out _ _ ?_ (fun hHeld => ?_)
        · exact True.intro
        clear hK K
        try simp only [Act.put, List.setIfInBounds_toArray, List.set_cons_zero, List.set_cons_succ]
        refine wpAnyH_ready (rs := [3]) (by kernel_rfl) (by simp) ?_
        refine AllReadyH.cons rfl (fun K hK => ?_) ?_
        · go_simp
          refine (HL0.out.numO HG.out 4 _ rfl (by decide) (by omega) _ _ _ E0.out).mono ?_
          rintro e wl1 ⟨rfl, HL1, HOl1⟩
          have HO1 := Lib.hid (HO0.out.trans HOl1.out)
          have m := fun o => cell_of_row _ _ o _ _ _ HL1.out.row
          have f := fun o => frozen_of_row _ _ o _ _ HL1.out.row
          go_wp2_with fail
          refine hK.out _ _ ?_ (fun hHeld => ?_)
          · exact True.intro
          clear hK K
          try simp only [Act.put, List.setIfInBounds_toArray, List.set_cons_zero, List.set_cons_succ]
          refine wpAnyH_ready (rs := [5]) (by kernel_rfl) (by simp) ?_
          refine AllReadyH.cons rfl (fun K hK => ?_) ?_
          · go_simp
            refine (HL1.out.numO HG.out 1 _ rfl (by decide) (by omega) _ _ _ E1.out).mono ?_
            rintro e wl2 ⟨rfl, HL2, HOl2⟩
            have HO2 := Lib.hid (HO1.out.trans HOl2.out)
            have m := fun o => cell_of_row _ _ o _ _ _ HL2.out.row
            have f := fun o => frozen_of_row _ _ o _ _ HL2.out.row
            go_wp2_with fail
            refine hK.out _ _ ?_ (fun hHeld => ?_)
            · exact True.intro
            clear hK K
            try simp only [Act.put, List.setIfInBounds_toArray, List.set_cons_zero, List.set_cons_succ]
            refine wpAnyH_ready (rs := [7]) (by kernel_rfl) (by simp) ?_
            refine AllReadyH.cons rfl (fun K hK => ?_) ?_
            · go_simp
              refine (HL2.out.numO HG.out 8 _ rfl (by decide) (by omega) _ _ _ E2.out).mono ?_
              rintro e wl3 ⟨rfl, HL3, HOl3⟩
              have HO3 := Lib.hid (HO2.out.trans HOl3.out)
              have m := fun o => cell_of_row _ _ o _ _ _ HL3.out.row
              have f := fun o => frozen_of_row _ _ o _ _ HL3.out.row
              go_wp2_with fail
              refine hK.out _ _ ?_ (fun hHeld => ?_)
              · exact True.intro
              clear hK K
              try simp only [Act.put, List.setIfInBounds_toArray, List.set_cons_zero, List.set_cons_succ]
              refine wpAnyH_ready (rs := [9]) (by kernel_rfl) (by simp) ?_
              refine AllReadyH.cons rfl (fun K hK => ?_) ?_
              · go_simp
                refine (HL3.out.numO HG.out 8 _ rfl (by decide) (by omega) _ _ _ E3.out).mono ?_
                rintro e wl4 ⟨rfl, HL4, HOl4⟩
                have HO4 := Lib.hid (HO3.out.trans HOl4.out)
                have m := fun o => cell_of_row _ _ o _ _ _ HL4.out.row
                have f := fun o => frozen_of_row _ _ o _ _ HL4.out.row
                have hEW : Only [w.heap.size + 1] wr (wl4.alloc (.cells #[.int .i64 va, .int .i64 vb, .int .i64 vc, .int .i64 vd] 104)) := HO4.out.alloc _
                have HLK := Lib.hid (HL4.out.more (alloc_ext wl4 (.cells #[.int .i64 va, .int .i64 vb, .int .i64 vc, .int .i64 vd] 104)))
                obtain ⟨cw, ho, hle, happ⟩ := Own.app HOJ.out hEW (fun g hg => .inl (by simp at hg; have := HST.out.le; omega)) (NewIn.nil _ _) (x := (⟨va, vb, vc, vd⟩ : DTxnEntry)) (c := [.int .i64 va, .int .i64 vb, .int .i64 vc, .int .i64 vd]) ⟨rfl, rfl, ⟨wq0, wq1, wq2, wq3⟩⟩
                have HAPP := Lib.hid happ
                have HOWN := Lib.hid ho
                have HEW := Lib.hid hEW
                clear happ ho hEW
                have mk := fun o => cell_of_row _ _ o _ _ _ HLK.out.row
                have fk := fun o => frozen_of_row _ _ o _ _ HLK.out.row
                go_wp2_with fail
                refine hK.out _ _ ?_ (fun hHeld => ?_)
                · exact True.intro
                clear hK K
                try simp only [Act.put, List.setIfInBounds_toArray, List.set_cons_zero, List.set_cons_succ]
                refine wpAnyH_take (i := 10) (v := ?_) rfl (by kernel_rfl) (by kernel_rfl) (by kernel_rfl) (fun _ _ _ h => h) (Or.inl ⟨by rfl, ?_⟩) (by assumption) ?_
                rotate_left
                · intro w hSw; (try dsimp only at hSw); go_simp <;> with_reducible rfl
                try simp only [Act.put, List.setIfInBounds_toArray, List.set_cons_zero, List.set_cons_succ]
                refine wpAnyH_ready (rs := [11]) (by kernel_rfl) (by simp) ?_
                refine AllReadyH.cons rfl (fun K hK => ?_) ?_
                · go_simp
                  refine hK.out _ _ ?_ (fun hHeld => ?_)
                  · exact True.intro
                  clear hK K
                  try simp only [Act.put, List.setIfInBounds_toArray, List.set_cons_zero, List.set_cons_succ]
                  refine wpAnyH_ready (rs := [12]) (by kernel_rfl) (by simp) ?_
                  refine AllReadyH.cons rfl (fun K hK => ?_) ?_
                  · refine step_append_own rfl _ _ 46 rfl W0.heap.size 104 i0 (.agg #[.int .i64 0, .int .i64 0, .int .i64 0, .int .i64 0]) 4 32 Tryd.underlying46 hi hz0 hz1 hz2 rfl (by decide) (.slice Ao acc.length co) acc.length cw rfl HOWN.out ⟨wl4.heap.size, 0, none⟩ 1 1 [.int .i64 va, .int .i64 vb, .int .i64 vc, .int .i64 vd] rfl rfl (cells_new' _ _ _ rfl) (by intro u hu; simp at hu; rcases hu with rfl | rfl | rfl | rfl <;> rfl) (by have := HRJ.out.2.2; unfold maxLen; omega) (by have := HRJ.out.2.2; omega) hle ?_
                    intro v' w' hown hgrow hnil hat
                    obtain ⟨Av, cv, rfl⟩ := ownsRow_form hown
                    have HDG := Lib.hid (HLK.out.below HG.out ((Below.refl (w3.heap.size + 1) _).grown hgrow HLK.out.le (fun g hg => by have h1 := HOWN.out.lt _ hg; have h2 := HST.out.le; omega)))
                    obtain ⟨hr1, hr2⟩ := HAPP.out _ w' hown hgrow hat
                    have HR1 := Lib.hid hr1
                    have HR2 := Lib.hid (hr2 [w.heap.size + 1, w3.heap.size] W0 (HNJ.out.trans (HEW.out.more (by simp))) (Nat.le_refl _))
                    have m := fun o => cell_of_row _ _ o _ _ _ HDG.out.row
                    have f := fun o => frozen_of_row _ _ o _ _ HDG.out.row
                    clear hown hgrow hnil hat hr1 hr2
                    refine hK.out _ _ ?_ (fun hHeld => ?_)
                    · exact True.intro
                    clear hK K
                    try simp only [Act.put, List.setIfInBounds_toArray, List.set_cons_zero, List.set_cons_succ]
                    refine wpAnyH_take (i := 13) (v := ?_) rfl (by kernel_rfl) (by kernel_rfl) (by kernel_rfl) (fun _ _ _ h => h) (Or.inl ⟨by rfl, ?_⟩) (by assumption) ?_
                    rotate_left
                    · intro w hSw; (try dsimp only at hSw); go_simp <;> with_reducible rfl
                    try simp only [Act.put, List.setIfInBounds_toArray, List.set_cons_zero, List.set_cons_succ]
                    refine wpAnyH_ready (rs := [14]) (by kernel_rfl) (by simp) ?_
                    refine AllReadyH.cons rfl (fun K hK => ?_) ?_
                    · go_simp
                      refine hK.out _ _ ?_ (fun hHeld => ?_)
                      · exact True.intro
                      clear hK K
                      try simp only [Act.put, List.setIfInBounds_toArray, List.set_cons_zero, List.set_cons_succ]
                      refine wpAnyH_done (by kernel_rfl) ?_ _
                      refine NoPanic.normal ?_
                      go_wp2
                      go_roundg mq
                      case measure => omega
                      case rel =>
                        have hl : (acc ++ [(⟨va, vb, vc, vd⟩ : DTxnEntry)]).length = acc.length + 1 := by simp
                        refine ⟨q3, x3, acc ++ [(⟨va, vb, vc, vd⟩ : DTxnEntry)], Av, cv, by go_num, Lib.hid ?_, Lib.hid ?_, Lib.hid ?_, Lib.hid ⟨yq3, by omega, by have := HRJ.out.2.2; rw [hl]; omega⟩, Lib.hid (HR2.out.setCell (fun _ => by simp) _)⟩
                        · rw [hl]; exact DS.conv (HDG.out.setS HG.out 11 _) (by rfl)
                        · rw [hl]; exact HR1.out.keep ((Only.refl [w3.heap.size] _).setCell (by simp) _) (fun g hg => .inl (by simp at hg; have := HST.out.le; omega))
                        · rw [HEJ.out, HNX.out]; simp
                    exact AllReadyH.nil
                  exact AllReadyH.nil
                exact AllReadyH.nil
              exact AllReadyH.nil
            exact AllReadyH.nil
          exact AllReadyH.nil
        exact AllReadyH.nil
      refine AllReadyH.cons rfl (fun K hK => ?_) ?_
      · go_simp
        refine (HL0.out.numO HG.out 4 _ rfl (by decide) (by omega) _ _ _ E0.out).mono ?_
        rintro e wl1 ⟨rfl, HL1, HOl1⟩
        have HO1 := Lib.hid (HO0.out.trans HOl1.out)
        have m := fun o => cell_of_row _ _ o _ _ _ HL1.out.row
        have f := fun o => frozen_of_row _ _ o _ _ HL1.out.row
        go_wp2_with fail
        refine hK.out _ _ ?_ (fun hHeld => ?_)
        · exact True.intro
        clear hK K
        try simp only [Act.put, List.setIfInBounds_toArray, List.set_cons_zero, List.set_cons_succ]
        refine wpAnyH_ready (rs := [1, 5]) (by kernel_rfl) (by simp) ?_
        refine AllReadyH.cons rfl (fun K hK => ?_) ?_
        · go_simp
          refine hK.out _ _ ?_ (fun hHeld => ?_)
          · exact True.intro
          clear hK K
          try simp only [Act.put, List.setIfInBounds_toArray, List.set_cons_zero, List.set_cons_succ]
          refine wpAnyH_ready (rs := [5]) (by kernel_rfl) (by simp) ?_
          refine AllReadyH.cons rfl (fun K hK => ?_) ?_
          · go_simp
            refine (HL1.out.numO HG.out 1 _ rfl (by decide) (by omega) _ _ _ E1.out).mono ?_
            rintro e wl2 ⟨rfl, HL2, HOl2⟩
            have HO2 := Lib.hid (HO1.out.trans HOl2.out)
            have m := fun o => cell_of_row _ _ o _ _ _ HL2.out.row
            have f := fun o => frozen_of_row _ _ o _ _ HL2.out.row
            go_wp2_with fail
            refine hK.out _ _ ?_ (fun hHeld => ?_)
            · exact True.intro
            clear hK K
            try simp only [Act.put, List.setIfInBounds_toArray, List.set_cons_zero, List.set_cons_succ]
            refine wpAnyH_ready (rs := [7]) (by kernel_rfl) (by simp) ?_
            refine AllReadyH.cons rfl (fun K hK => ?_) ?_
            · go_simp
              refine (HL2.out.numO HG.out 8 _ rfl (by decide) (by omega) _ _ _ E2.out).mono ?_
              rintro e wl3 ⟨rfl, HL3, HOl3⟩
              have HO3 := Lib.hid (HO2.out.trans HOl3.out)
              have m := fun o => cell_of_row _ _ o _ _ _ HL3.out.row
              have f := fun o => frozen_of_row _ _ o _ _ HL3.out.row
              go_wp2_with fail
              refine hK.out _ _ ?_ (fun hHeld => ?_)
              · exact True.intro
              clear hK K
              try simp only [Act.put, List.setIfInBounds_toArray, List.set_cons_zero, List.set_cons_succ]
              refine wpAnyH_ready (rs := [9]) (by kernel_rfl) (by simp) ?_
              refine AllReadyH.cons rfl (fun K hK => ?_) ?_
              · go_simp
                refine (HL3.out.numO HG.out 8 _ rfl (by decide) (by omega) _ _ _ E3.out).mono ?_
                rintro e wl4 ⟨rfl, HL4, HOl4⟩
                have HO4 := Lib.hid (HO3.out.trans HOl4.out)
                have m := fun o => cell_of_row _ _ o _ _ _ HL4.out.row
                have f := fun o => frozen_of_row _ _ o _ _ HL4.out.row
                have hEW : Only [w.heap.size + 1] wr (wl4.alloc (.cells #[.int .i64 va, .int .i64 vb, .int .i64 vc, .int .i64 vd] 104)) := HO4.out.alloc _
                have HLK := Lib.hid (HL4.out.more (alloc_ext wl4 (.cells #[.int .i64 va, .int .i64 vb, .int .i64 vc, .int .i64 vd] 104)))
                obtain ⟨cw, ho, hle, happ⟩ := Own.app HOJ.out hEW (fun g hg => .inl (by simp at hg; have := HST.out.le; omega)) (NewIn.nil _ _) (x := (⟨va, vb, vc, vd⟩ : DTxnEntry)) (c := [.int .i64 va, .int .i64 vb, .int .i64 vc, .int .i64 vd]) ⟨rfl, rfl, ⟨wq0, wq1, wq2, wq3⟩⟩
                have HAPP := Lib.hid happ
                have HOWN := Lib.hid ho
                have HEW := Lib.hid hEW
                clear happ ho hEW
                have mk := fun o => cell_of_row _ _ o _ _ _ HLK.out.row
                have fk := fun o => frozen_of_row _ _ o _ _ HLK.out.row
                go_wp2_with fail
                refine hK.out _ _ ?_ (fun hHeld => ?_)
                · exact True.intro
                clear hK K
                try simp only [Act.put, List.setIfInBounds_toArray, List.set_cons_zero, List.set_cons_succ]
                refine wpAnyH_take (i := 10) (v := ?_) rfl (by kernel_rfl) (by kernel_rfl) (by kernel_rfl) (fun _ _ _ h => h) (Or.inl ⟨by rfl, ?_⟩) (by assumption) ?_
                rotate_left
                · intro w hSw; (try dsimp only at hSw); go_simp <;> with_reducible rfl
                try simp only [Act.put, List.setIfInBounds_toArray, List.set_cons_zero, List.set_cons_succ]
                refine wpAnyH_ready (rs := [11]) (by kernel_rfl) (by simp) ?_
                refine AllReadyH.cons rfl (fun K hK => ?_) ?_
                · go_simp
                  refine hK.out _ _ ?_ (fun hHeld => ?_)
                  · exact True.intro
                  clear hK K
                  try simp only [Act.put, List.setIfInBounds_toArray, List.set_cons_zero, List.set_cons_succ]
                  refine wpAnyH_ready (rs := [12]) (by kernel_rfl) (by simp) ?_
                  refine AllReadyH.cons rfl (fun K hK => ?_) ?_
                  · refine step_append_own rfl _ _ 46 rfl W0.heap.size 104 i0 (.agg #[.int .i64 0, .int .i64 0, .int .i64 0, .int .i64 0]) 4 32 Tryd.underlying46 hi hz0 hz1 hz2 rfl (by decide) (.slice Ao acc.length co) acc.length cw rfl HOWN.out ⟨wl4.heap.size, 0, none⟩ 1 1 [.int .i64 va, .int .i64 vb, .int .i64 vc, .int .i64 vd] rfl rfl (cells_new' _ _ _ rfl) (by intro u hu; simp at hu; rcases hu with rfl | rfl | rfl | rfl <;> rfl) (by have := HRJ.out.2.2; unfold maxLen; omega) (by have := HRJ.out.2.2; omega) hle ?_
                    intro v' w' hown hgrow hnil hat
                    obtain ⟨Av, cv, rfl⟩ := ownsRow_form hown
                    have HDG := Lib.hid (HLK.out.below HG.out ((Below.refl (w3.heap.size + 1) _).grown hgrow HLK.out.le (fun g hg => by have h1 := HOWN.out.lt _ hg; have h2 := HST.out.le; omega)))
                    obtain ⟨hr1, hr2⟩ := HAPP.out _ w' hown hgrow hat
                    have HR1 := Lib.hid hr1
                    have HR2 := Lib.hid (hr2 [w.heap.size + 1, w3.heap.size] W0 (HNJ.out.trans (HEW.out.more (by simp))) (Nat.le_refl _))
                    have m := fun o => cell_of_row _ _ o _ _ _ HDG.out.row
                    have f := fun o => frozen_of_row _ _ o _ _ HDG.out.row
                    clear hown hgrow hnil hat hr1 hr2
                    refine hK.out _ _ ?_ (fun hHeld => ?_)
                    · exact True.intro
                    clear hK K
                    try simp only [Act.put, List.setIfInBounds_toArray, List.set_cons_zero, List.set_cons_succ]
                    refine wpAnyH_take (i := 13) (v := ?_) rfl (by kernel_rfl) (by kernel_rfl) (by kernel_rfl) (fun _ _ _ h => h) (Or.inl ⟨by rfl, ?_⟩) (by assumption) ?_
                    rotate_left
                    · intro w hSw; (try dsimp only at hSw); go_simp <;> with_reducible rfl
                    try simp only [Act.put, List.setIfInBounds_toArray, List.set_cons_zero, List.set_cons_succ]
                    refine wpAnyH_ready (rs := [14]) (by kernel_rfl) (by simp) ?_
                    refine AllReadyH.cons rfl (fun K hK => ?_) ?_
                    · go_simp
                      refine hK.out _ _ ?_ (fun hHeld => ?_)
                      · exact True.intro
                      clear hK K
                      try simp only [Act.put, List.setIfInBounds_toArray, List.set_cons_zero, List.set_cons_succ]
                      refine wpAnyH_done (by kernel_rfl) ?_ _
                      refine NoPanic.normal ?_
                      go_wp2
                      go_roundg mq
                      case measure => omega
                      case rel =>
                        have hl : (acc ++ [(⟨va, vb, vc, vd⟩ : DTxnEntry)]).length = acc.length + 1 := by simp
                        refine ⟨q3, x3, acc ++ [(⟨va, vb, vc, vd⟩ : DTxnEntry)], Av, cv, by go_num, Lib.hid ?_, Lib.hid ?_, Lib.hid ?_, Lib.hid ⟨yq3, by omega, by have := HRJ.out.2.2; rw [hl]; omega⟩, Lib.hid (HR2.out.setCell (fun _ => by simp) _)⟩
                        · rw [hl]; exact DS.conv (HDG.out.setS HG.out 11 _) (by rfl)
                        · rw [hl]; exact HR1.out.keep ((Only.refl [w3.heap.size] _).setCell (by simp) _) (fun g hg => .inl (by simp at hg; have := HST.out.le; omega))
                        · rw [HEJ.out, HNX.out]; simp
                    exact AllReadyH.nil
                  exact AllReadyH.nil
                exact AllReadyH.nil
              exact AllReadyH.nil
            exact AllReadyH.nil
          exact AllReadyH.nil
        refine AllReadyH.cons rfl (fun K hK => ?_) ?_
        · go_simp
          refine (HL1.out.numO HG.out 1 _ rfl (by decide) (by omega) _ _ _ E1.out).mono ?_
          rintro e wl2 ⟨rfl, HL2, HOl2⟩
          have HO2 := Lib.hid (HO1.out.trans HOl2.out)
          have m := fun o => cell_of_row _ _ o _ _ _ HL2.out.row
          have f := fun o => frozen_of_row _ _ o _ _ HL2.out.row
          go_wp2_with fail
          refine hK.out _ _ ?_ (fun hHeld => ?_)
          · exact True.intro
          clear hK K
          try simp only [Act.put, List.setIfInBounds_toArray, List.set_cons_zero, List.set_cons_succ]
          refine wpAnyH_ready (rs := [1, 7]) (by kernel_rfl) (by simp) ?_
          refine AllReadyH.cons rfl (fun K hK => ?_) ?_
          · go_simp
            refine hK.out _ _ ?_ (fun hHeld => ?_)
            · exact True.intro
            clear hK K
            try simp only [Act.put, List.setIfInBounds_toArray, List.set_cons_zero, List.set_cons_succ]
            refine wpAnyH_ready (rs := [7]) (by kernel_rfl) (by simp) ?_
            refine AllReadyH.cons rfl (fun K hK => ?_) ?_
            · go_simp
              refine (HL2.out.numO HG.out 8 _ rfl (by decide) (by omega) _ _ _ E2.out).mono ?_
              rintro e wl3 ⟨rfl, HL3, HOl3⟩
              have HO3 := Lib.hid (HO2.out.trans HOl3.out)
              have m := fun o => cell_of_row _ _ o _ _ _ HL3.out.row
              have f := fun o => frozen_of_row _ _ o _ _ HL3.out.row
              go_wp2_with fail
              refine hK.out _ _ ?_ (fun hHeld => ?_)
              · exact True.intro
              clear hK K
              try simp only [Act.put, List.setIfInBounds_toArray, List.set_cons_zero, List.set_cons_succ]
              refine wpAnyH_ready (rs := [9]) (by kernel_rfl) (by simp) ?_
              refine AllReadyH.cons rfl (fun K hK => ?_) ?_
              · go_simp
                refine (HL3.out.numO HG.out 8 _ rfl (by decide) (by omega) _ _ _ E3.out).mono ?_
                rintro e wl4 ⟨rfl, HL4, HOl4⟩
                have HO4 := Lib.hid (HO3.out.trans HOl4.out)
                have m := fun o => cell_of_row _ _ o _ _ _ HL4.out.row
                have f := fun o => frozen_of_row _ _ o _ _ HL4.out.row
                have hEW : Only [w.heap.size + 1] wr (wl4.alloc (.cells #[.int .i64 va, .int .i64 vb, .int .i64 vc, .int .i64 vd] 104)) := HO4.out.alloc _
                have HLK := Lib.hid (HL4.out.more (alloc_ext wl4 (.cells #[.int .i64 va, .int .i64 vb, .int .i64 vc, .int .i64 vd] 104)))
                obtain ⟨cw, ho, hle, happ⟩ := Own.app HOJ.out hEW (fun g hg => .inl (by simp at hg; have := HST.out.le; omega)) (NewIn.nil _ _) (x := (⟨va, vb, vc, vd⟩ : DTxnEntry)) (c := [.int .i64 va, .int .i64 vb, .int .i64 vc, .int .i64 vd]) ⟨rfl, rfl, ⟨wq0, wq1, wq2, wq3⟩⟩
                have HAPP := Lib.hid happ
                have HOWN := Lib.hid ho
                have HEW := Lib.hid hEW
                clear happ ho hEW
                have mk := fun o => cell_of_row _ _ o _ _ _ HLK.out.row
                have fk := fun o => frozen_of_row _ _ o _ _ HLK.out.row
                go_wp2_with fail
                refine hK.out _ _ ?_ (fun hHeld => ?_)
                · exact True.intro
                clear hK K
                try simp only [Act.put, List.setIfInBounds_toArray, List.set_cons_zero, List.set_cons_succ]
                refine wpAnyH_take (i := 10) (v := ?_) rfl (by kernel_rfl) (by kernel_rfl) (by kernel_rfl) (fun _ _ _ h => h) (Or.inl ⟨by rfl, ?_⟩) (by assumption) ?_
                rotate_left
                · intro w hSw; (try dsimp only at hSw); go_simp <;> with_reducible rfl
                try simp only [Act.put, List.setIfInBounds_toArray, List.set_cons_zero, List.set_cons_succ]
                refine wpAnyH_ready (rs := [11]) (by kernel_rfl) (by simp) ?_
                refine AllReadyH.cons rfl (fun K hK => ?_) ?_
                · go_simp
                  refine hK.out _ _ ?_ (fun hHeld => ?_)
                  · exact True.intro
                  clear hK K
                  try simp only [Act.put, List.setIfInBounds_toArray, List.set_cons_zero, List.set_cons_succ]
                  refine wpAnyH_ready (rs := [12]) (by kernel_rfl) (by simp) ?_
                  refine AllReadyH.cons rfl (fun K hK => ?_) ?_
                  · refine step_append_own rfl _ _ 46 rfl W0.heap.size 104 i0 (.agg #[.int .i64 0, .int .i64 0, .int .i64 0, .int .i64 0]) 4 32 Tryd.underlying46 hi hz0 hz1 hz2 rfl (by decide) (.slice Ao acc.length co) acc.length cw rfl HOWN.out ⟨wl4.heap.size, 0, none⟩ 1 1 [.int .i64 va, .int .i64 vb, .int .i64 vc, .int .i64 vd] rfl rfl (cells_new' _ _ _ rfl) (by intro u hu; simp at hu; rcases hu with rfl | rfl | rfl | rfl <;> rfl) (by have := HRJ.out.2.2; unfold maxLen; omega) (by have := HRJ.out.2.2; omega) hle ?_
                    intro v' w' hown hgrow hnil hat
                    obtain ⟨Av, cv, rfl⟩ := ownsRow_form hown
                    have HDG := Lib.hid (HLK.out.below HG.out ((Below.refl (w3.heap.size + 1) _).grown hgrow HLK.out.le (fun g hg => by have h1 := HOWN.out.lt _ hg; have h2 := HST.out.le; omega)))
                    obtain ⟨hr1, hr2⟩ := HAPP.out _ w' hown hgrow hat
                    have HR1 := Lib.hid hr1
                    have HR2 := Lib.hid (hr2 [w.heap.size + 1, w3.heap.size] W0 (HNJ.out.trans (HEW.out.more (by simp))) (Nat.le_refl _))
                    have m := fun o => cell_of_row _ _ o _ _ _ HDG.out.row
                    have f := fun o => frozen_of_row _ _ o _ _ HDG.out.row
                    clear hown hgrow hnil hat hr1 hr2
                    refine hK.out _ _ ?_ (fun hHeld => ?_)
                    · exact True.intro
                    clear hK K
                    try simp only [Act.put, List.setIfInBounds_toArray, List.set_cons_zero, List.set_cons_succ]
                    refine wpAnyH_take (i := 13) (v := ?_) rfl (by kernel_rfl) (by kernel_rfl) (by kernel_rfl) (fun _ _ _ h => h) (Or.inl ⟨by rfl, ?_⟩) (by assumption) ?_
                    rotate_left
                    · intro w hSw; (try dsimp only at hSw); go_simp <;> with_reducible rfl
                    try simp only [Act.put, List.setIfInBounds_toArray, List.set_cons_zero, List.set_cons_succ]
                    refine wpAnyH_ready (rs := [14]) (by kernel_rfl) (by simp) ?_
                    refine AllReadyH.cons rfl (fun K hK => ?_) ?_
                    · go_simp
                      refine hK.out _ _ ?_ (fun hHeld => ?_)
                      · exact True.intro
                      clear hK K
                      try simp only [Act.put, List.setIfInBounds_toArray, List.set_cons_zero, List.set_cons_succ]
                      refine wpAnyH_done (by kernel_rfl) ?_ _
                      refine NoPanic.normal ?_
                      go_wp2
                      go_roundg mq
                      case measure => omega
                      case rel =>
                        have hl : (acc ++ [(⟨va, vb, vc, vd⟩ : DTxnEntry)]).length = acc.length + 1 := by simp
                        refine ⟨q3, x3, acc ++ [(⟨va, vb, vc, vd⟩ : DTxnEntry)], Av, cv, by go_num, Lib.hid ?_, Lib.hid ?_, Lib.hid ?_, Lib.hid ⟨yq3, by omega, by have := HRJ.out.2.2; rw [hl]; omega⟩, Lib.hid (HR2.out.setCell (fun _ => by simp) _)⟩
                        · rw [hl]; exact DS.conv (HDG.out.setS HG.out 11 _) (by rfl)
                        · rw [hl]; exact HR1.out.keep ((Only.refl [w3.heap.size] _).setCell (by simp) _) (fun g hg => .inl (by simp at hg; have := HST.out.le; omega))
                        · rw [HEJ.out, HNX.out]; simp
                    exact AllReadyH.nil
                  exact AllReadyH.nil
                exact AllReadyH.nil
              exact AllReadyH.nil
            exact AllReadyH.nil
          refine AllReadyH.cons rfl (fun K hK => ?_) ?_
          · go_simp
            refine (HL2.out.numO HG.out 8 _ rfl (by decide) (by omega) _ _ _ E2.out).mono ?_
            rintro e wl3 ⟨rfl, HL3, HOl3⟩
            have HO3 := Lib.hid (HO2.out.trans HOl3.out)
            have m := fun o => cell_of_row _ _ o _ _ _ HL3.out.row
            have f := fun o => frozen_of_row _ _ o _ _ HL3.out.row
            go_wp2_with fail
            refine hK.out _ _ ?_ (fun hHeld => ?_)
            · exact True.intro
            clear hK K
            try simp only [Act.put, List.setIfInBounds_toArray, List.set_cons_zero, List.set_cons_succ]
            refine wpAnyH_ready (rs := [1, 9]) (by kernel_rfl) (by simp) ?_
            refine AllReadyH.cons rfl (fun K hK => ?_) ?_
            · go_simp
              refine hK.out _ _ ?_ (fun hHeld => ?_)
              · exact True.intro
              clear hK K
              try simp only [Act.put, List.setIfInBounds_toArray, List.set_cons_zero, List.set_cons_succ]
              refine wpAnyH_ready (rs := [9]) (by kernel_rfl) (by simp) ?_
              refine AllReadyH.cons rfl (fun K hK => ?_) ?_
              · go_simp
                refine (HL3.out.numO HG.out 8 _ rfl (by decide) (by omega) _ _ _ E3.out).mono ?_
                rintro e wl4 ⟨rfl, HL4, HOl4⟩
                have HO4 := Lib.hid (HO3.out.trans HOl4.out)
                have m := fun o => cell_of_row _ _ o _ _ _ HL4.out.row
                have f := fun o => frozen_of_row _ _ o _ _ HL4.out.row
                have hEW : Only [w.heap.size + 1] wr (wl4.alloc (.cells #[.int .i64 va, .int .i64 vb, .int .i64 vc, .int .i64 vd] 104)) := HO4.out.alloc _
                have HLK := Lib.hid (HL4.out.more (alloc_ext wl4 (.cells #[.int .i64 va, .int .i64 vb, .int .i64 vc, .int .i64 vd] 104)))
                obtain ⟨cw, ho, hle, happ⟩ := Own.app HOJ.out hEW (fun g hg => .inl (by simp at hg; have := HST.out.le; omega)) (NewIn.nil _ _) (x := (⟨va, vb, vc, vd⟩ : DTxnEntry)) (c := [.int .i64 va, .int .i64 vb, .int .i64 vc, .int .i64 vd]) ⟨rfl, rfl, ⟨wq0, wq1, wq2, wq3⟩⟩
                have HAPP := Lib.hid happ
                have HOWN := Lib.hid ho
                have HEW := Lib.hid hEW
                clear happ ho hEW
                have mk := fun o => cell_of_row _ _ o _ _ _ HLK.out.row
                have fk := fun o => frozen_of_row _ _ o _ _ HLK.out.row
                go_wp2_with fail
                refine hK.out _ _ ?_ (fun hHeld => ?_)
                · exact True.intro
                clear hK K
                try simp only [Act.put, List.setIfInBounds_toArray, List.set_cons_zero, List.set_cons_succ]
                refine wpAnyH_take (i := 10) (v := ?_) rfl (by kernel_rfl) (by kernel_rfl) (by kernel_rfl) (fun _ _ _ h => h) (Or.inl ⟨by rfl, ?_⟩) (by assumption) ?_
                rotate_left
                · intro w hSw; (try dsimp only at hSw); go_simp <;> with_reducible rfl
                try simp only [Act.put, List.setIfInBounds_toArray, List.set_cons_zero, List.set_cons_succ]
                refine wpAnyH_ready (rs := [11]) (by kernel_rfl) (by simp) ?_
                refine AllReadyH.cons rfl (fun K hK => ?_) ?_
                · go_simp
                  refine hK.out _ _ ?_ (fun hHeld => ?_)
                  · exact True.intro
                  clear hK K
                  try simp only [Act.put, List.setIfInBounds_toArray, List.set_cons_zero, List.set_cons_succ]
                  refine wpAnyH_ready (rs := [12]) (by kernel_rfl) (by simp) ?_
                  refine AllReadyH.cons rfl (fun K hK => ?_) ?_
                  · refine step_append_own rfl _ _ 46 rfl W0.heap.size 104 i0 (.agg #[.int .i64 0, .int .i64 0, .int .i64 0, .int .i64 0]) 4 32 Tryd.underlying46 hi hz0 hz1 hz2 rfl (by decide) (.slice Ao acc.length co) acc.length cw rfl HOWN.out ⟨wl4.heap.size, 0, none⟩ 1 1 [.int .i64 va, .int .i64 vb, .int .i64 vc, .int .i64 vd] rfl rfl (cells_new' _ _ _ rfl) (by intro u hu; simp at hu; rcases hu with rfl | rfl | rfl | rfl <;> rfl) (by have := HRJ.out.2.2; unfold maxLen; omega) (by have := HRJ.out.2.2; omega) hle ?_
                    intro v' w' hown hgrow hnil hat
                    obtain ⟨Av, cv, rfl⟩ := ownsRow_form hown
                    have HDG := Lib.hid (HLK.out.below HG.out ((Below.refl (w3.heap.size + 1) _).grown hgrow HLK.out.le (fun g hg => by have h1 := HOWN.out.lt _ hg; have h2 := HST.out.le; omega)))
                    obtain ⟨hr1, hr2⟩ := HAPP.out _ w' hown hgrow hat
                    have HR1 := Lib.hid hr1
                    have HR2 := Lib.hid (hr2 [w.heap.size + 1, w3.heap.size] W0 (HNJ.out.trans (HEW.out.more (by simp))) (Nat.le_refl _))
                    have m := fun o => cell_of_row _ _ o _ _ _ HDG.out.row
                    have f := fun o => frozen_of_row _ _ o _ _ HDG.out.row
                    clear hown hgrow hnil hat hr1 hr2
                    refine hK.out _ _ ?_ (fun hHeld => ?_)
                    · exact True.intro
                    clear hK K
                    try simp only [Act.put, List.setIfInBounds_toArray, List.set_cons_zero, List.set_cons_succ]
                    refine wpAnyH_take (i := 13) (v := ?_) rfl (by kernel_rfl) (by kernel_rfl) (by kernel_rfl) (fun _ _ _ h => h) (Or.inl ⟨by rfl, ?_⟩) (by assumption) ?_
                    rotate_left
                    · intro w hSw; (try dsimp only at hSw); go_simp <;> with_reducible rfl
                    try simp only [Act.put, List.setIfInBounds_toArray, List.set_cons_zero, List.set_cons_succ]
                    refine wpAnyH_ready (rs := [14]) (by kernel_rfl) (by simp) ?_
                    refine AllReadyH.cons rfl (fun K hK => ?_) ?_
                    · go_simp
                      refine hK.out _ _ ?_ (fun hHeld => ?_)
                      · exact True.intro
                      clear hK K
                      try simp only [Act.put, List.setIfInBounds_toArray, List.set_cons_zero, List.set_cons_succ]
                      refine wpAnyH_done (by kernel_rfl) ?_ _
                      refine NoPanic.normal ?_
                      go_wp2
                      go_roundg mq
                      case measure => omega
                      case rel =>
                        have hl : (acc ++ [(⟨va, vb, vc, vd⟩ : DTxnEntry)]).length = acc.length + 1 := by simp
                        refine ⟨q3, x3, acc ++ [(⟨va, vb, vc, vd⟩ : DTxnEntry)], Av, cv, by go_num, Lib.hid ?_, Lib.hid ?_, Lib.hid ?_, Lib.hid ⟨yq3, by omega, by have := HRJ.out.2.2; rw [hl]; omega⟩, Lib.hid (HR2.out.setCell (fun _ => by simp) _)⟩
                        · rw [hl]; exact DS.conv (HDG.out.setS HG.out 11 _) (by rfl)
                        · rw [hl]; exact HR1.out.keep ((Only.refl [w3.heap.size] _).setCell (by simp) _) (fun g hg => .inl (by simp at hg; have := HST.out.le; omega))
                        · rw [HEJ.out, HNX.out]; simp
                    exact AllReadyH.nil
                  exact AllReadyH.nil
                exact AllReadyH.nil
              exact AllReadyH.nil
            refine AllReadyH.cons rfl (fun K hK => ?_) ?_
            · go_simp
              refine (HL3.out.numO HG.out 8 _ rfl (by decide) (by omega) _ _ _ E3.out).mono ?_
              rintro e wl4 ⟨rfl, HL4, HOl4⟩
              have HO4 := Lib.hid (HO3.out.trans HOl4.out)
              have m := fun o => cell_of_row _ _ o _ _ _ HL4.out.row
              have f := fun o => frozen_of_row _ _ o _ _ HL4.out.row
              have hEW : Only [w.heap.size + 1] wr (wl4.alloc (.cells #[.int .i64 va, .int .i64 vb, .int .i64 vc, .int .i64 vd] 104)) := HO4.out.alloc _
              have HLK := Lib.hid (HL4.out.more (alloc_ext wl4 (.cells #[.int .i64 va, .int .i64 vb, .int .i64 vc, .int .i64 vd] 104)))
              obtain ⟨cw, ho, hle, happ⟩ := Own.app HOJ.out hEW (fun g hg => .inl (by simp at hg; have := HST.out.le; omega)) (NewIn.nil _ _) (x := (⟨va, vb, vc, vd⟩ : DTxnEntry)) (c := [.int .i64 va, .int .i64 vb, .int .i64 vc, .int .i64 vd]) ⟨rfl, rfl, ⟨wq0, wq1, wq2, wq3⟩⟩
              have HAPP := Lib.hid happ
              have HOWN := Lib.hid ho
              have HEW := Lib.hid hEW
              clear happ ho hEW
              have mk := fun o => cell_of_row _ _ o _ _ _ HLK.out.row
              have fk := fun o => frozen_of_row _ _ o _ _ HLK.out.row
              go_wp2_with fail
              refine hK.out _ _ ?_ (fun hHeld => ?_)
              · exact True.intro
              clear hK K
              try simp only [Act.put, List.setIfInBounds_toArray, List.set_cons_zero, List.set_cons_succ]
              refine wpAnyH_take (i := 10) (v := ?_) rfl (by kernel_rfl) (by kernel_rfl) (by kernel_rfl) (fun _ _ _ h => h) (Or.inl ⟨by rfl, ?_⟩) (by assumption) ?_
              rotate_left
              · intro w hSw; (try dsimp only at hSw); go_simp <;> with_reducible rfl
              try simp only [Act.put, List.setIfInBounds_toArray, List.set_cons_zero, List.set_cons_succ]
              refine wpAnyH_ready (rs := [1, 11]) (by kernel_rfl) (by simp) ?_
              refine AllReadyH.cons rfl (fun K hK => ?_) ?_
              · go_simp
                refine hK.out _ _ ?_ (fun hHeld => ?_)
                · exact True.intro
                clear hK K
                try simp only [Act.put, List.setIfInBounds_toArray, List.set_cons_zero, List.set_cons_succ]
                refine wpAnyH_ready (rs := [11]) (by kernel_rfl) (by simp) ?_
                refine AllReadyH.cons rfl (fun K hK => ?_) ?_
                · go_simp
                  refine hK.out _ _ ?_ (fun hHeld => ?_)
                  · exact True.intro
                  clear hK K
                  try simp only [Act.put, List.setIfInBounds_toArray, List.set_cons_zero, List.set_cons_succ]
                  refine wpAnyH_ready (rs := [12]) (by kernel_rfl) (by simp) ?_
                  refine AllReadyH.cons rfl (fun K hK => ?_) ?_
                  · refine step_append_own rfl _ _ 46 rfl W0.heap.size 104 i0 (.agg #[.int .i64 0, .int .i64 0, .int .i64 0, .int .i64 0]) 4 32 Tryd.underlying46 hi hz0 hz1 hz2 rfl (by decide) (.slice Ao acc.length co) acc.length cw rfl HOWN.out ⟨wl4.heap.size, 0, none⟩ 1 1 [.int .i64 va, .int .i64 vb, .int .i64 vc, .int .i64 vd] rfl rfl (cells_new' _ _ _ rfl) (by intro u hu; simp at hu; rcases hu with rfl | rfl | rfl | rfl <;> rfl) (by have := HRJ.out.2.2; unfold maxLen; omega) (by have := HRJ.out.2.2; omega) hle ?_
                    intro v' w' hown hgrow hnil hat
                    obtain ⟨Av, cv, rfl⟩ := ownsRow_form hown
                    have HDG := Lib.hid (HLK.out.below HG.out ((Below.refl (w3.heap.size + 1) _).grown hgrow HLK.out.le (fun g hg => by have h1 := HOWN.out.lt _ hg; have h2 := HST.out.le; omega)))
                    obtain ⟨hr1, hr2⟩ := HAPP.out _ w' hown hgrow hat
                    have HR1 := Lib.hid hr1
                    have HR2 := Lib.hid (hr2 [w.heap.size + 1, w3.heap.size] W0 (HNJ.out.trans (HEW.out.more (by simp))) (Nat.le_refl _))
                    have m := fun o => cell_of_row _ _ o _ _ _ HDG.out.row
                    have f := fun o => frozen_of_row _ _ o _ _ HDG.out.row
                    clear hown hgrow hnil hat hr1 hr2
                    refine hK.out _ _ ?_ (fun hHeld => ?_)
                    · exact True.intro
                    clear hK K
                    try simp only [Act.put, List.setIfInBounds_toArray, List.set_cons_zero, List.set_cons_succ]
                    refine wpAnyH_take (i := 13) (v := ?_) rfl (by kernel_rfl) (by kernel_rfl) (by kernel_rfl) (fun _ _ _ h => h) (Or.inl ⟨by rfl, ?_⟩) (by assumption) ?_
                    rotate_left
                    · intro w hSw; (try dsimp only at hSw); go_simp <;> with_reducible rfl
                    try simp only [Act.put, List.setIfInBounds_toArray, List.set_cons_zero, List.set_cons_succ]
                    refine wpAnyH_ready (rs := [14]) (by kernel_rfl) (by simp) ?_
                    refine AllReadyH.cons rfl (fun K hK => ?_) ?_
                    · go_simp
                      refine hK.out _ _ ?_ (fun hHeld => ?_)
                      · exact True.intro
                      clear hK K
                      try simp only [Act.put, List.setIfInBounds_toArray, List.set_cons_zero, List.set_cons_succ]
                      refine wpAnyH_done (by kernel_rfl) ?_ _
                      refine NoPanic.normal ?_
                      go_wp2
                      go_roundg mq
                      case measure => omega
                      case rel =>
                        have hl : (acc ++ [(⟨va, vb, vc, vd⟩ : DTxnEntry)]).length = acc.length + 1 := by simp
                        refine ⟨q3, x3, acc ++ [(⟨va, vb, vc, vd⟩ : DTxnEntry)], Av, cv, by go_num, Lib.hid ?_, Lib.hid ?_, Lib.hid ?_, Lib.hid ⟨yq3, by omega, by have := HRJ.out.2.2; rw [hl]; omega⟩, Lib.hid (HR2.out.setCell (fun _ => by simp) _)⟩
                        · rw [hl]; exact DS.conv (HDG.out.setS HG.out 11 _) (by rfl)
                        · rw [hl]; exact HR1.out.keep ((Only.refl [w3.heap.size] _).setCell (by simp) _) (fun g hg => .inl (by simp at hg; have := HST.out.le; omega))
                        · rw [HEJ.out, HNX.out]; simp
                    exact AllReadyH.nil
                  exact AllReadyH.nil
                exact AllReadyH.nil
              refine AllReadyH.cons rfl (fun K hK => ?_) ?_
              · go_simp
                refine hK.out _ _ ?_ (fun hHeld => ?_)
                · exact True.intro
                clear hK K
                try simp only [Act.put, List.setIfInBounds_toArray, List.set_cons_zero, List.set_cons_succ]
                refine wpAnyH_ready (rs := [1]) (by kernel_rfl) (by simp) ?_
                refine AllReadyH.cons rfl (fun K hK => ?_) ?_
                · go_simp
                  refine hK.out _ _ ?_ (fun hHeld => ?_)
                  · exact True.intro
                  clear hK K
                  try simp only [Act.put, List.setIfInBounds_toArray, List.set_cons_zero, List.set_cons_succ]
                  refine wpAnyH_ready (rs := [12]) (by kernel_rfl) (by simp) ?_
                  refine AllReadyH.cons rfl (fun K hK => ?_) ?_
                  · refine step_append_own rfl _ _ 46 rfl W0.heap.size 104 i0 (.agg #[.int .i64 0, .int .i64 0, .int .i64 0, .int .i64 0]) 4 32 Tryd.underlying46 hi hz0 hz1 hz2 rfl (by decide) (.slice Ao acc.length co) acc.length cw rfl HOWN.out ⟨wl4.heap.size, 0, none⟩ 1 1 [.int .i64 va, .int .i64 vb, .int .i64 vc, .int .i64 vd] rfl rfl (cells_new' _ _ _ rfl) (by intro u hu; simp at hu; rcases hu with rfl | rfl | rfl | rfl <;> rfl) (by have := HRJ.out.2.2; unfold maxLen; omega) (by have := HRJ.out.2.2; omega) hle ?_
                    intro v' w' hown hgrow hnil hat
                    obtain ⟨Av, cv, rfl⟩ := ownsRow_form hown
                    have HDG := Lib.hid (HLK.out.below HG.out ((Below.refl (w3.heap.size + 1) _).grown hgrow HLK.out.le (fun g hg => by have h1 := HOWN.out.lt _ hg; have h2 := HST.out.le; omega)))
                    obtain ⟨hr1, hr2⟩ := HAPP.out _ w' hown hgrow hat
                    have HR1 := Lib.hid hr1
                    have HR2 := Lib.hid (hr2 [w.heap.size + 1, w3.heap.size] W0 (HNJ.out.trans (HEW.out.more (by simp))) (Nat.le_refl _))
                    have m := fun o => cell_of_row _ _ o _ _ _ HDG.out.row
                    have f := fun o => frozen_of_row _ _ o _ _ HDG.out.row
                    clear hown hgrow hnil hat hr1 hr2
                    refine hK.out _ _ ?_ (fun hHeld => ?_)
                    · exact True.intro
                    clear hK K
                    try simp only [Act.put, List.setIfInBounds_toArray, List.set_cons_zero, List.set_cons_succ]
                    refine wpAnyH_take (i := 13) (v := ?_) rfl (by kernel_rfl) (by kernel_rfl) (by kernel_rfl) (fun _ _ _ h => h) (Or.inl ⟨by rfl, ?_⟩) (by assumption) ?_
                    rotate_left
                    · intro w hSw; (try dsimp only at hSw); go_simp <;> with_reducible rfl
                    try simp only [Act.put, List.setIfInBounds_toArray, List.set_cons_zero, List.set_cons_succ]
                    refine wpAnyH_ready (rs := [14]) (by kernel_rfl) (by simp) ?_
                    refine AllReadyH.cons rfl (fun K hK => ?_) ?_
                    · go_simp
                      refine hK.out _ _ ?_ (fun hHeld => ?_)
                      · exact True.intro
                      clear hK K
                      try simp only [Act.put, List.setIfInBounds_toArray, List.set_cons_zero, List.set_cons_succ]
                      refine wpAnyH_done (by kernel_rfl) ?_ _
                      refine NoPanic.normal ?_
                      go_wp2
                      go_roundg mq
                      case measure => omega
                      case rel =>
                        have hl : (acc ++ [(⟨va, vb, vc, vd⟩ : DTxnEntry)]).length = acc.length + 1 := by simp
                        refine ⟨q3, x3, acc ++ [(⟨va, vb, vc, vd⟩ : DTxnEntry)], Av, cv, by go_num, Lib.hid ?_, Lib.hid ?_, Lib.hid ?_, Lib.hid ⟨yq3, by omega, by have := HRJ.out.2.2; rw [hl]; omega⟩, Lib.hid (HR2.out.setCell (fun _ => by simp) _)⟩
                        · rw [hl]; exact DS.conv (HDG.out.setS HG.out 11 _) (by rfl)
                        · rw [hl]; exact HR1.out.keep ((Only.refl [w3.heap.size] _).setCell (by simp) _) (fun g hg => .inl (by simp at hg; have := HST.out.le; omega))
                        · rw [HEJ.out, HNX.out]; simp
                    exact AllReadyH.nil
                  exact AllReadyH.nil
                exact AllReadyH.nil
              exact AllReadyH.nil
            exact AllReadyH.nil
          exact AllReadyH.nil
        exact AllReadyH.nil
      exact AllReadyH.nil
    · have hdone : gk = 0 ∨ bd = true := by
        rcases Nat.eq_zero_or_pos gk with h | h
        · exact .inl h
        · exact .inr (by cases bd; exact absurd ⟨h, rfl⟩ hgo; rfl)
      have heq := HEJ.out
      rw [rdTs_done (m := gk) (s := (rest, bd)) hdone, H6.out, List.append_nil] at heq
      go_upto_region 15 with fail
      go_cut [58] from 50 to 58 (fun s wx => s = .bool false ∧ wr = wx)
      case first =>
        by_cases hz : gk = 0
        · subst hz
          clear hgo hdone
          go_wp2
          all_goals (go_meet; exact ⟨rfl, rfl⟩)
        · obtain rfl : bd = true := hdone.elim (fun h => absurd h hz) id
          obtain ⟨mq, rfl⟩ : ∃ m, gk = m + 1 := ⟨gk - 1, by omega⟩
          have hmq : mq ≤ 255 := by have := HRJ.out.2.2; omega
          clear hgo hdone hz
          go_wp2
          all_goals (go_meet; exact ⟨rfl, rfl⟩)
      case rest =>
        obtain ⟨rfl, rfl⟩ := hcut
        obtain ⟨rfl, rfl, rfl⟩ : ts = acc ∧ r6 = rest ∧ b6 = bd := by
          injection heq with h1 h2
          injection h2 with h2 h3
          exact ⟨h1, h2, h3⟩
        clear heq hgo hdone
        have hyl := rdTs_room nn (r5, b5)
        rw [H6.out] at hyl
        have y6 : isByte r6 := fun z hz => y5 z (hyl.2 z hz)
        have l6 : r6.length ≤ r5.length := hyl.1
        clear hyl
        obtain ⟨wmm, y7, l7⟩ := rdNum_room H7.out y6 (by decide)
        try dsimp only at l7
        have hmm := (rdNum1_room H7.out y6).2
        have m := fun o => cell_of_row _ _ o _ _ _ HDJ.out.row
        have f := fun o => frozen_of_row _ _ o _ _ HDJ.out.row
        obtain ⟨A3q, hA3q⟩ : ∃ A, A = Ao := ⟨_, rfl⟩
        obtain ⟨c3q, hc3q⟩ : ∃ c, c = co := ⟨_, rfl⟩
        subst hA3q; subst hc3q
        go_wp2_with (go_at_call 105; refine (HDJ.out.numO HG.out 1 _ rfl (by decide) (by omega) _ _ _ H7.out).mono ?_; rintro e wt1 ⟨rfl, HDW, HOW⟩; refine Hid.out ?_)
        refine Lib.hid ?_
        obtain ⟨G3, hs3, hn3⟩ := (HOJ.out.keep HOW.out (fun g hg => .inl (by simp at hg; have := HST.out.le; omega))).sl
        have HS3 := Lib.hid hs3; have HN3' := Lib.hid hn3
        have HN3 := Lib.hid (hn3.mono HST.out.le)
        clear hs3 hn3 ms fs
        clear HST HW0 hi hz0 hz1 hz2 HEJ HRJ HNJ HOJ
        go_wp2_with fail
        obtain ⟨W0, hW0⟩ : ∃ W0, W0 = wt1 := ⟨_, rfl⟩
        have HST := Lib.hid (show DS (SC (w.heap.size + 1) F r7 b7) w w.heap.size w3.heap.size (w3.heap.size + 1) #[.int .i64 7, .int .i64 t, .int .i64 pv, .int .i64 0, .int .i64 0, .bool false, .slice none 0 0, .bool false, .slice none 0 0, .int .i64 0, .int .i64 nt, .slice A3q ts.length c3q, .slice none 0 0, .slice none 0 0] W0 from hW0 ▸ HDW.out)
        rw [← hW0]
        have HW0 := Lib.hid hW0
        clear hW0
        obtain ⟨i0, hi, hz0, hz1, hz2⟩ := info_parts infoD
        go_loopg [6] mm (fun m i wr => ∃ (rest : List Int) (bd : Bool) (acc : List DDirtyEntry) (Ao : Option Addr) (co : Nat), i = .int .i64 m ∧ Hid (DS (SC (w.heap.size + 1) F rest bd) w w.heap.size w3.heap.size (w3.heap.size + 1) #[.int .i64 7, .int .i64 t, .int .i64 pv, .int .i64 0, .int .i64 0, .bool false, .slice none 0 0, .bool false, .slice none 0 0, .int .i64 0, .int .i64 nt, .slice A3q ts.length c3q, .slice Ao acc.length co, .slice none 0 0] wr) ∧ Hid (Own Rep.DirtyEntry 106 W0.heap.size wr (.slice Ao acc.length co) acc) ∧ Hid (rdDs mm (r7, b7) = (acc ++ (rdDs m (rest, bd)).1, (rdDs m (rest, bd)).2)) ∧ Hid (isByte rest ∧ rest.length ≤ b.length ∧ acc.length + m = mm) ∧ Hid (Only [w.heap.size + 1, w3.heap.size] W0 wr))
        case atStart => exact ⟨_, _, [], none, 0, rfl, HST, Lib.hid (Own.nil (Nat.le_refl _)), Lib.hid (by simp), Lib.hid ⟨y7, by omega, by simp⟩, Lib.hid (Only.refl _ _)⟩
        case round =>
          obtain ⟨rest, bd, acc, Ao, co, rfl, HDJ, HOJ, HEJ, HRJ, HNJ⟩ := hrel
          obtain ⟨As, cs, Gs, ms, fs, -, -⟩ := HDJ.out.p.cells
          by_cases hgo : 0 < gk ∧ bd = false
          · obtain ⟨hg0, rfl⟩ := hgo
            obtain ⟨mq, rfl⟩ : ∃ m, gk = m + 1 := ⟨gk - 1, by omega⟩
            have hmq : mq ≤ 255 := by have := HRJ.out.2.2; omega
            obtain ⟨va, q0, x0, e0⟩ : ∃ v r x, rdNum 2 (rest, false) = (v, (r, x)) := ⟨_, _, _, rfl⟩
            obtain ⟨wq0, yq0, lq0⟩ := rdNum_room e0 HRJ.out.1 (by decide)
            try dsimp only at lq0
            have E0 := Lib.hid e0
            obtain ⟨vb, q1, x1, e1⟩ : ∃ v r x, rdNum 8 (q0, x0) = (v, (r, x)) := ⟨_, _, _, rfl⟩
            obtain ⟨wq1, yq1, lq1⟩ := rdNum_room e1 yq0 (by decide)
            try dsimp only at lq1
            have E1 := Lib.hid e1
            have HNX := Lib.hid (rdDs_step (m := mq) e0 e1)
            clear e0 e1
            have hrl := HRJ.out.2.1
            have HL0 := Lib.hid (show DS (SC (w.heap.size + 1) F rest false) w w.heap.size w3.heap.size (w3.heap.size + 1) #[.int .i64 7, .int .i64 t, .int .i64 pv, .int .i64 0, .int .i64 0, .bool false, .slice none 0 0, .bool false, .slice none 0 0, .int .i64 0, .int .i64 nt, .slice A3q ts.length c3q, .slice Ao acc.length co, .slice none 0 0] wr.drew from HDJ.out.more (Only.refl [] _).drew)
            have m := fun o => cell_of_row _ _ o _ _ _ HL0.out.row; have f := fun o => frozen_of_row _ _ o _ _ HL0.out.row
            have HO0 := Lib.hid ((Only.refl [w.heap.size + 1] wr).drew)
            go_wp2_with fail
            refine wp_region_noPanic ?_
            refine wp_region_held_drew (S := (fun w' => True)) (by kernel_rfl) ?_ (fun hHeld => ?_)
            · exact True.intro
            refine wpAnyH_take (i := 0) (v := ?_) rfl (by kernel_rfl) (by kernel_rfl) (by kernel_rfl) (fun _ _ _ h => h) (Or.inl ⟨by rfl, ?_⟩) (by assumption) ?_
            rotate_left
            · intro w hSw; (try dsimp only at hSw); go_simp <;> with_reducible rfl
            try simp only [Act.put, List.setIfInBounds_toArray, List.set_cons_zero, List.set_cons_succ]
            refine wpAnyH_take (i := 2) (v := ?_) rfl (by kernel_rfl) (by kernel_rfl) (by kernel_rfl) (fun _ _ _ h => h) (Or.inl ⟨by rfl, ?_⟩) (by assumption) ?_
            rotate_left
            · intro w hSw; (try dsimp only at hSw); go_simp <;> with_reducible rfl
            try simp only [Act.put, List.setIfInBounds_toArray, List.set_cons_zero, List.set_cons_succ]
            refine wpAnyH_take (i := 4) (v := ?_) rfl (by kernel_rfl) (by kernel_rfl) (by kernel_rfl) (fun _ _ _ h => h) (Or.inl ⟨by rfl, ?_⟩) (by assumption) ?_
            rotate_left
            · intro w hSw; (try dsimp only at hSw); go_simp <;> with_reducible rfl
            try simp only [Act.put, List.setIfInBounds_toArray, List.set_cons_zero, List.set_cons_succ]
            refine wpAnyH_ready (rs := [1, 3]) (by kernel_rfl) (by simp) ?_
            refine AllReadyH.cons rfl (fun K hK => ?_) ?_
            · go_simp
              refine hK.out _ _ ?_ (fun hHeld => ?_)
              · exact True.intro
              clear hK K
              try simp only [Act.put, List.setIfInBounds_toArray, List.set_cons_zero, List.set_cons_succ]
              refine wpAnyH_ready (rs := [3]) (by kernel_rfl) (by simp) ?_
              refine AllReadyH.cons rfl (fun K hK => ?_) ?_
              · go_simp
                refine (HL0.out.numO HG.out 2 _ rfl (by decide) (by omega) _ _ _ E0.out).mono ?_
                rintro e wl1 ⟨rfl, HL1, HOl1⟩
                have HO1 := Lib.hid (HO0.out.trans HOl1.out)
                have m := fun o => cell_of_row _ _ o _ _ _ HL1.out.row
                have f := fun o => frozen_of_row _ _ o _ _ HL1.out.row
                go_wp2_with fail
                refine hK.out _ _ ?_ (fun hHeld => ?_)
                · exact True.intro
                clear hK K
                try simp only [Act.put, List.setIfInBounds_toArray, List.set_cons_zero, List.set_cons_succ]
                refine wpAnyH_ready (rs := [5]) (by kernel_rfl) (by simp) ?_
                refine AllReadyH.cons rfl (fun K hK => ?_) ?_
                · go_simp
                  refine (HL1.out.numO HG.out 8 _ rfl (by decide) (by omega) _ _ _ E1.out).mono ?_
                  rintro e wl2 ⟨rfl, HL2, HOl2⟩
                  have HO2 := Lib.hid (HO1.out.trans HOl2.out)
                  have m := fun o => cell_of_row _ _ o _ _ _ HL2.out.row
                  have f := fun o => frozen_of_row _ _ o _ _ HL2.out.row
                  have hEW : Only [w.heap.size + 1] wr (wl2.alloc (.cells #[.int .i64 va, .int .i64 vb] 106)) := HO2.out.alloc _
                  have HLK := Lib.hid (HL2.out.more (alloc_ext wl2 (.cells #[.int .i64 va, .int .i64 vb] 106)))
                  obtain ⟨cw, ho, hle, happ⟩ := Own.app HOJ.out hEW (fun g hg => .inl (by simp at hg; have := HST.out.le; omega)) (NewIn.nil _ _) (x := (⟨va, vb⟩ : DDirtyEntry)) (c := [.int .i64 va, .int .i64 vb]) ⟨rfl, rfl, ⟨wq0, wq1⟩⟩
                  have HAPP := Lib.hid happ
                  have HOWN := Lib.hid ho
                  have HEW := Lib.hid hEW
                  clear happ ho hEW
                  have mk := fun o => cell_of_row _ _ o _ _ _ HLK.out.row
                  have fk := fun o => frozen_of_row _ _ o _ _ HLK.out.row
                  go_wp2_with fail
                  refine hK.out _ _ ?_ (fun hHeld => ?_)
                  · exact True.intro
                  clear hK K
                  try simp only [Act.put, List.setIfInBounds_toArray, List.set_cons_zero, List.set_cons_succ]
                  refine wpAnyH_take (i := 6) (v := ?_) rfl (by kernel_rfl) (by kernel_rfl) (by kernel_rfl) (fun _ _ _ h => h) (Or.inl ⟨by rfl, ?_⟩) (by assumption) ?_
                  rotate_left
                  · intro w hSw; (try dsimp only at hSw); go_simp <;> with_reducible rfl
                  try simp only [Act.put, List.setIfInBounds_toArray, List.set_cons_zero, List.set_cons_succ]
                  refine wpAnyH_ready (rs := [7]) (by kernel_rfl) (by simp) ?_
                  refine AllReadyH.cons rfl (fun K hK => ?_) ?_
                  · go_simp
                    refine hK.out _ _ ?_ (fun hHeld => ?_)
                    · exact True.intro
                    clear hK K
                    try simp only [Act.put, List.setIfInBounds_toArray, List.set_cons_zero, List.set_cons_succ]
                    refine wpAnyH_ready (rs := [8]) (by kernel_rfl) (by simp) ?_
                    refine AllReadyH.cons rfl (fun K hK => ?_) ?_
                    · refine step_append_own rfl _ _ 47 rfl W0.heap.size 106 i0 (.agg #[.int .i64 0, .int .i64 0]) 2 16 Tryd.underlying47 hi hz0 hz1 hz2 rfl (by decide) (.slice Ao acc.length co) acc.length cw rfl HOWN.out ⟨wl2.heap.size, 0, none⟩ 1 1 [.int .i64 va, .int .i64 vb] rfl rfl (cells_new' _ _ _ rfl) (by intro u hu; simp at hu; rcases hu with rfl | rfl <;> rfl) (by have := HRJ.out.2.2; unfold maxLen; omega) (by have := HRJ.out.2.2; omega) hle ?_
                      intro v' w' hown hgrow hnil hat
                      obtain ⟨Av, cv, rfl⟩ := ownsRow_form hown
                      have HDG := Lib.hid (HLK.out.below HG.out ((Below.refl (w3.heap.size + 1) _).grown hgrow HLK.out.le (fun g hg => by have h1 := HOWN.out.lt _ hg; have h2 := HST.out.le; omega)))
                      obtain ⟨hr1, hr2⟩ := HAPP.out _ w' hown hgrow hat
                      have HR1 := Lib.hid hr1
                      have HR2 := Lib.hid (hr2 [w.heap.size + 1, w3.heap.size] W0 (HNJ.out.trans (HEW.out.more (by simp))) (Nat.le_refl _))
                      have m := fun o => cell_of_row _ _ o _ _ _ HDG.out.row
                      have f := fun o => frozen_of_row _ _ o _ _ HDG.out.row
                      clear hown hgrow hnil hat hr1 hr2
                      refine hK.out _ _ ?_ (fun hHeld => ?_)
                      · exact True.intro
                      clear hK K
                      try simp only [Act.put, List.setIfInBounds_toArray, List.set_cons_zero, List.set_cons_succ]
                      refine wpAnyH_take (i := 9) (v := ?_) rfl (by kernel_rfl) (by kernel_rfl) (by kernel_rfl) (fun _ _ _ h => h) (Or.inl ⟨by rfl, ?_⟩) (by assumption) ?_
                      rotate_left
                      · intro w hSw; (try dsimp only at hSw); go_simp <;> with_reducible rfl
                      try simp only [Act.put, List.setIfInBounds_toArray, List.set_cons_zero, List.set_cons_succ]
                      refine wpAnyH_ready (rs := [10]) (by kernel_rfl) (by simp) ?_
                      refine AllReadyH.cons rfl (fun K hK => ?_) ?_
                      · go_simp
                        refine hK.out _ _ ?_ (fun hHeld => ?_)
                        · exact True.intro
                        clear hK K
                        try simp only [Act.put, List.setIfInBounds_toArray, List.set_cons_zero, List.set_cons_succ]
                        refine wpAnyH_done (by kernel_rfl) ?_ _
                        refine NoPanic.normal ?_
                        go_wp2
                        go_roundg mq
                        case measure => omega
                        case rel =>
                          have hl : (acc ++ [(⟨va, vb⟩ : DDirtyEntry)]).length = acc.length + 1 := by simp
                          refine ⟨q1, x1, acc ++ [(⟨va, vb⟩ : DDirtyEntry)], Av, cv, by go_num, Lib.hid ?_, Lib.hid ?_, Lib.hid ?_, Lib.hid ⟨yq1, by omega, by have := HRJ.out.2.2; rw [hl]; omega⟩, Lib.hid (HR2.out.setCell (fun _ => by simp) _)⟩
                          · rw [hl]; exact DS.conv (HDG.out.setS HG.out 12 _) (by rfl)
                          · rw [hl]; exact HR1.out.keep ((Only.refl [w3.heap.size] _).setCell (by simp) _) (fun g hg => .inl (by simp at hg; have := HST.out.le; omega))
                          · rw [HEJ.out, HNX.out]; simp
                      exact AllReadyH.nil
                    exact AllReadyH.nil
                  exact AllReadyH.nil
                exact AllReadyH.nil
              exact AllReadyH.nil
            refine AllReadyH.cons rfl (fun K hK => ?_) ?_
            · go_simp
              refine (HL0.out.numO HG.out 2 _ rfl (by decide) (by omega) _ _ _ E0.out).mono ?_
              rintro e wl1 ⟨rfl, HL1, HOl1⟩
              have HO1 := Lib.hid (HO0.out.trans HOl1.out)
              have m := fun o => cell_of_row _ _ o _ _ _ HL1.out.row
              have f := fun o => frozen_of_row _ _ o _ _ HL1.out.row
              go_wp2_with fail
              refine hK.out _ _ ?_ (fun hHeld => ?_)
              · exact True.intro
              clear hK K
              try simp only [Act.put, List.setIfInBounds_toArray, List.set_cons_zero, List.set_cons_succ]
              refine wpAnyH_ready (rs := [1, 5]) (by kernel_rfl) (by simp) ?_
              refine AllReadyH.cons rfl (fun K hK => ?_) ?_
              · go_simp
                refine hK.out _ _ ?_ (fun hHeld => ?_)
                · exact True.intro
                clear hK K
                try simp only [Act.put, List.setIfInBounds_toArray, List.set_cons_zero, List.set_cons_succ]
                refine wpAnyH_ready (rs := [5]) (by kernel_rfl) (by simp) ?_
                refine AllReadyH.cons rfl (fun K hK => ?_) ?_
                · go_simp
                  refine (HL1.out.numO HG.out 8 _ rfl (by decide) (by omega) _ _ _ E1.out).mono ?_
                  rintro e wl2 ⟨rfl, HL2, HOl2⟩
                  have HO2 := Lib.hid (HO1.out.trans HOl2.out)
                  have m := fun o => cell_of_row _ _ o _ _ _ HL2.out.row
                  have f := fun o => frozen_of_row _ _ o _ _ HL2.out.row
                  have hEW : Only [w.heap.size + 1] wr (wl2.alloc (.cells #[.int .i64 va, .int .i64 vb] 106)) := HO2.out.alloc _
                  have HLK := Lib.hid (HL2.out.more (alloc_ext wl2 (.cells #[.int .i64 va, .int .i64 vb] 106)))
                  obtain ⟨cw, ho, hle, happ⟩ := Own.app HOJ.out hEW (fun g hg => .inl (by simp at hg; have := HST.out.le; omega)) (NewIn.nil _ _) (x := (⟨va, vb⟩ : DDirtyEntry)) (c := [.int .i64 va, .int .i64 vb]) ⟨rfl, rfl, ⟨wq0, wq1⟩⟩
                  have HAPP := Lib.hid happ
                  have HOWN := Lib.hid ho
                  have HEW := Lib.hid hEW
                  clear happ ho hEW
                  have mk := fun o => cell_of_row _ _ o _ _ _ HLK.out.row
                  have fk := fun o => frozen_of_row _ _ o _ _ HLK.out.row
                  go_wp2_with fail
                  refine hK.out _ _ ?_ (fun hHeld => ?_)
                  · exact True.intro
                  clear hK K
                  try simp only [Act.put, List.setIfInBounds_toArray, List.set_cons_zero, List.set_cons_succ]
                  refine wpAnyH_take (i := 6) (v := ?_) rfl (by kernel_rfl) (by kernel_rfl) (by kernel_rfl) (fun _ _ _ h => h) (Or.inl ⟨by rfl, ?_⟩) (by assumption) ?_
                  rotate_left
                  · intro w hSw; (try dsimp only at hSw); go_simp <;> with_reducible rfl
                  try simp only [Act.put, List.setIfInBounds_toArray, List.set_cons_zero, List.set_cons_succ]
                  refine wpAnyH_ready (rs := [7]) (by kernel_rfl) (by simp) ?_
                  refine AllReadyH.cons rfl (fun K hK => ?_) ?_
                  · go_simp
                    refine hK.out _ _ ?_ (fun hHeld => ?_)
                    · exact True.intro
                    clear hK K
                    try simp only [Act.put, List.setIfInBounds_toArray, List.set_cons_zero, List.set_cons_succ]
                    refine wpAnyH_ready (rs := [8]) (by kernel_rfl) (by simp) ?_
                    refine AllReadyH.cons rfl (fun K hK => ?_) ?_
                    · refine step_append_own rfl _ _ 47 rfl W0.heap.size 106 i0 (.agg #[.int .i64 0, .int .i64 0]) 2 16 Tryd.underlying47 hi hz0 hz1 hz2 rfl (by decide) (.slice Ao acc.length co) acc.length cw rfl HOWN.out ⟨wl2.heap.size, 0, none⟩ 1 1 [.int .i64 va, .int .i64 vb] rfl rfl (cells_new' _ _ _ rfl) (by intro u hu; simp at hu; rcases hu with rfl | rfl <;> rfl) (by have := HRJ.out.2.2; unfold maxLen; omega) (by have := HRJ.out.2.2; omega) hle ?_
                      intro v' w' hown hgrow hnil hat
                      obtain ⟨Av, cv, rfl⟩ := ownsRow_form hown
                      have HDG := Lib.hid (HLK.out.below HG.out ((Below.refl (w3.heap.size + 1) _).grown hgrow HLK.out.le (fun g hg => by have h1 := HOWN.out.lt _ hg; have h2 := HST.out.le; omega)))
                      obtain ⟨hr1, hr2⟩ := HAPP.out _ w' hown hgrow hat
                      have HR1 := Lib.hid hr1
                      have HR2 := Lib.hid (hr2 [w.heap.size + 1, w3.heap.size] W0 (HNJ.out.trans (HEW.out.more (by simp))) (Nat.le_refl _))
                      have m := fun o => cell_of_row _ _ o _ _ _ HDG.out.row
                      have f := fun o => frozen_of_row _ _ o _ _ HDG.out.row
                      clear hown hgrow hnil hat hr1 hr2
                      refine hK.out _ _ ?_ (fun hHeld => ?_)
                      · exact True.intro
                      clear hK K
                      try simp only [Act.put, List.setIfInBounds_toArray, List.set_cons_zero, List.set_cons_succ]
                      refine wpAnyH_take (i := 9) (v := ?_) rfl (by kernel_rfl) (by kernel_rfl) (by kernel_rfl) (fun _ _ _ h => h) (Or.inl ⟨by rfl, ?_⟩) (by assumption) ?_
                      rotate_left
                      · intro w hSw; (try dsimp only at hSw); go_simp <;> with_reducible rfl
                      try simp only [Act.put, List.setIfInBounds_toArray, List.set_cons_zero, List.set_cons_succ]
                      refine wpAnyH_ready (rs := [10]) (by kernel_rfl) (by simp) ?_
                      refine AllReadyH.cons rfl (fun K hK => ?_) ?_
                      · go_simp
                        refine hK.out _ _ ?_ (fun hHeld => ?_)
                        · exact True.intro
                        clear hK K
                        try simp only [Act.put, List.setIfInBounds_toArray, List.set_cons_zero, List.set_cons_succ]
                        refine wpAnyH_done (by kernel_rfl) ?_ _
                        refine NoPanic.normal ?_
                        go_wp2
                        go_roundg mq
                        case measure => omega
                        case rel =>
                          have hl : (acc ++ [(⟨va, vb⟩ : DDirtyEntry)]).length = acc.length + 1 := by simp
                          refine ⟨q1, x1, acc ++ [(⟨va, vb⟩ : DDirtyEntry)], Av, cv, by go_num, Lib.hid ?_, Lib.hid ?_, Lib.hid ?_, Lib.hid ⟨yq1, by omega, by have := HRJ.out.2.2; rw [hl]; omega⟩, Lib.hid (HR2.out.setCell (fun _ => by simp) _)⟩
                          · rw [hl]; exact DS.conv (HDG.out.setS HG.out 12 _) (by rfl)
                          · rw [hl]; exact HR1.out.keep ((Only.refl [w3.heap.size] _).setCell (by simp) _) (fun g hg => .inl (by simp at hg; have := HST.out.le; omega))
                          · rw [HEJ.out, HNX.out]; simp
                      exact AllReadyH.nil
                    exact AllReadyH.nil
                  exact AllReadyH.nil
                exact AllReadyH.nil
              refine AllReadyH.cons rfl (fun K hK => ?_) ?_
              · go_simp
                refine (HL1.out.numO HG.out 8 _ rfl (by decide) (by omega) _ _ _ E1.out).mono ?_
                rintro e wl2 ⟨rfl, HL2, HOl2⟩
                have HO2 := Lib.hid (HO1.out.trans HOl2.out)
                have m := fun o => cell_of_row _ _ o _ _ _ HL2.out.row
                have f := fun o => frozen_of_row _ _ o _ _ HL2.out.row
                have hEW : Only [w.heap.size + 1] wr (wl2.alloc (.cells #[.int .i64 va, .int .i64 vb] 106)) := HO2.out.alloc _
                have HLK := Lib.hid (HL2.out.more (alloc_ext wl2 (.cells #[.int .i64 va, .int .i64 vb] 106)))
                obtain ⟨cw, ho, hle, happ⟩ := Own.app HOJ.out hEW (fun g hg => .inl (by simp at hg; have := HST.out.le; omega)) (NewIn.nil _ _) (x := (⟨va, vb⟩ : DDirtyEntry)) (c := [.int .i64 va, .int .i64 vb]) ⟨rfl, rfl, ⟨wq0, wq1⟩⟩
                have HAPP := Lib.hid happ
                have HOWN := Lib.hid ho
                have HEW := Lib.hid hEW
                clear happ ho hEW
                have mk := fun o => cell_of_row _ _ o _ _ _ HLK.out.row
                have fk := fun o => frozen_of_row _ _ o _ _ HLK.out.row
                go_wp2_with fail
                refine hK.out _ _ ?_ (fun hHeld => ?_)
                · exact True.intro
                clear hK K
                try simp only [Act.put, List.setIfInBounds_toArray, List.set_cons_zero, List.set_cons_succ]
                refine wpAnyH_take (i := 6) (v := ?_) rfl (by kernel_rfl) (by kernel_rfl) (by kernel_rfl) (fun _ _ _ h => h) (Or.inl ⟨by rfl, ?_⟩) (by assumption) ?_
                rotate_left
                · intro w hSw; (try dsimp only at hSw); go_simp <;> with_reducible rfl
                try simp only [Act.put, List.setIfInBounds_toArray, List.set_cons_zero, List.set_cons_succ]
                refine wpAnyH_ready (rs := [1, 7]) (by kernel_rfl) (by simp) ?_
                refine AllReadyH.cons rfl (fun K hK => ?_) ?_
                · go_simp
                  refine hK.out _ _ ?_ (fun hHeld => ?_)
                  · exact True.intro
                  clear hK K
                  try simp only [Act.put, List.setIfInBounds_toArray, List.set_cons_zero, List.set_cons_succ]
                  refine wpAnyH_ready (rs := [7]) (by kernel_rfl) (by simp) ?_
                  refine AllReadyH.cons rfl (fun K hK => ?_) ?_
                  · go_simp
                    refine hK.out _ _ ?_ (fun hHeld => ?_)
                    · exact True.intro
                    clear hK K
                    try simp only [Act.put, List.setIfInBounds_toArray, List.set_cons_zero, List.set_cons_succ]
                    refine wpAnyH_ready (rs := [8]) (by kernel_rfl) (by simp) ?_
                    refine AllReadyH.cons rfl (fun K hK => ?_) ?_
                    · refine step_append_own rfl _ _ 47 rfl W0.heap.size 106 i0 (.agg #[.int .i64 0, .int .i64 0]) 2 16 Tryd.underlying47 hi hz0 hz1 hz2 rfl (by decide) (.slice Ao acc.length co) acc.length cw rfl HOWN.out ⟨wl2.heap.size, 0, none⟩ 1 1 [.int .i64 va, .int .i64 vb] rfl rfl (cells_new' _ _ _ rfl) (by intro u hu; simp at hu; rcases hu with rfl | rfl <;> rfl) (by have := HRJ.out.2.2; unfold maxLen; omega) (by have := HRJ.out.2.2; omega) hle ?_
                      intro v' w' hown hgrow hnil hat
                      obtain ⟨Av, cv, rfl⟩ := ownsRow_form hown
                      have HDG := Lib.hid (HLK.out.below HG.out ((Below.refl (w3.heap.size + 1) _).grown hgrow HLK.out.le (fun g hg => by have h1 := HOWN.out.lt _ hg; have h2 := HST.out.le; omega)))
                      obtain ⟨hr1, hr2⟩ := HAPP.out _ w' hown hgrow hat
                      have HR1 := Lib.hid hr1
                      have HR2 := Lib.hid (hr2 [w.heap.size + 1, w3.heap.size] W0 (HNJ.out.trans (HEW.out.more (by simp))) (Nat.le_refl _))
                      have m := fun o => cell_of_row _ _ o _ _ _ HDG.out.row
                      have f := fun o => frozen_of_row _ _ o _ _ HDG.out.row
                      clear hown hgrow hnil hat hr1 hr2
                      refine hK.out _ _ ?_ (fun hHeld => ?_)
                      · exact True.intro
                      clear hK K
                      try simp only [Act.put, List.setIfInBounds_toArray, List.set_cons_zero, List.set_cons_succ]
                      refine wpAnyH_take (i := 9) (v := ?_) rfl (by kernel_rfl) (by kernel_rfl) (by kernel_rfl) (fun _ _ _ h => h) (Or.inl ⟨by rfl, ?_⟩) (by assumption) ?_
                      rotate_left
                      · intro w hSw; (try dsimp only at hSw); go_simp <;> with_reducible rfl
                      try simp only [Act.put, List.setIfInBounds_toArray, List.set_cons_zero, List.set_cons_succ]
                      refine wpAnyH_ready (rs := [10]) (by kernel_rfl) (by simp) ?_
                      refine AllReadyH.cons rfl (fun K hK => ?_) ?_
                      · go_simp
                        refine hK.out _ _ ?_ (fun hHeld => ?_)
                        · exact True.intro
                        clear hK K
                        try simp only [Act.put, List.setIfInBounds_toArray, List.set_cons_zero, List.set_cons_succ]
                        refine wpAnyH_done (by kernel_rfl) ?_ _
                        refine NoPanic.normal ?_
                        go_wp2
                        go_roundg mq
                        case measure => omega
                        case rel =>
                          have hl : (acc ++ [(⟨va, vb⟩ : DDirtyEntry)]).length = acc.length + 1 := by simp
                          refine ⟨q1, x1, acc ++ [(⟨va, vb⟩ : DDirtyEntry)], Av, cv, by go_num, Lib.hid ?_, Lib.hid ?_, Lib.hid ?_, Lib.hid ⟨yq1, by omega, by have := HRJ.out.2.2; rw [hl]; omega⟩, Lib.hid (HR2.out.setCell (fun _ => by simp) _)⟩
                          · rw [hl]; exact DS.conv (HDG.out.setS HG.out 12 _) (by rfl)
                          · rw [hl]; exact HR1.out.keep ((Only.refl [w3.heap.size] _).setCell (by simp) _) (fun g hg => .inl (by simp at hg; have := HST.out.le; omega))
                          · rw [HEJ.out, HNX.out]; simp
                      exact AllReadyH.nil
                    exact AllReadyH.nil
                  exact AllReadyH.nil
                refine AllReadyH.cons rfl (fun K hK => ?_) ?_
                · go_simp
                  refine hK.out _ _ ?_ (fun hHeld => ?_)
                  · exact True.intro
                  clear hK K
                  try simp only [Act.put, List.setIfInBounds_toArray, List.set_cons_zero, List.set_cons_succ]
                  refine wpAnyH_ready (rs := [1]) (by kernel_rfl) (by simp) ?_
                  refine AllReadyH.cons rfl (fun K hK => ?_) ?_
                  · go_simp
                    refine hK.out _ _ ?_ (fun hHeld => ?_)
                    · exact True.intro
                    clear hK K
                    try simp only [Act.put, List.setIfInBounds_toArray, List.set_cons_zero, List.set_cons_succ]
                    refine wpAnyH_ready (rs := [8]) (by kernel_rfl) (by simp) ?_
                    refine AllReadyH.cons rfl (fun K hK => ?_) ?_
                    · refine step_append_own rfl _ _ 47 rfl W0.heap.size 106 i0 (.agg #[.int .i64 0, .int .i64 0]) 2 16 Tryd.underlying47 hi hz0 hz1 hz2 rfl (by decide) (.slice Ao acc.length co) acc.length cw rfl HOWN.out ⟨wl2.heap.size, 0, none⟩ 1 1 [.int .i64 va, .int .i64 vb] rfl rfl (cells_new' _ _ _ rfl) (by intro u hu; simp at hu; rcases hu with rfl | rfl <;> rfl) (by have := HRJ.out.2.2; unfold maxLen; omega) (by have := HRJ.out.2.2; omega) hle ?_
                      intro v' w' hown hgrow hnil hat
                      obtain ⟨Av, cv, rfl⟩ := ownsRow_form hown
                      have HDG := Lib.hid (HLK.out.below HG.out ((Below.refl (w3.heap.size + 1) _).grown hgrow HLK.out.le (fun g hg => by have h1 := HOWN.out.lt _ hg; have h2 := HST.out.le; omega)))
                      obtain ⟨hr1, hr2⟩ := HAPP.out _ w' hown hgrow hat
                      have HR1 := Lib.hid hr1
                      have HR2 := Lib.hid (hr2 [w.heap.size + 1, w3.heap.size] W0 (HNJ.out.trans (HEW.out.more (by simp))) (Nat.le_refl _))
                      have m := fun o => cell_of_row _ _ o _ _ _ HDG.out.row
                      have f := fun o => frozen_of_row _ _ o _ _ HDG.out.row
                      clear hown hgrow hnil hat hr1 hr2
                      refine hK.out _ _ ?_ (fun hHeld => ?_)
                      · exact True.intro
                      clear hK K
                      try simp only [Act.put, List.setIfInBounds_toArray, List.set_cons_zero, List.set_cons_succ]
                      refine wpAnyH_take (i := 9) (v := ?_) rfl (by kernel_rfl) (by kernel_rfl) (by kernel_rfl) (fun _ _ _ h => h) (Or.inl ⟨by rfl, ?_⟩) (by assumption) ?_
                      rotate_left
                      · intro w hSw; (try dsimp only at hSw); go_simp <;> with_reducible rfl
                      try simp only [Act.put, List.setIfInBounds_toArray, List.set_cons_zero, List.set_cons_succ]
                      refine wpAnyH_ready (rs := [10]) (by kernel_rfl) (by simp) ?_
                      refine AllReadyH.cons rfl (fun K hK => ?_) ?_
                      · go_simp
                        refine hK.out _ _ ?_ (fun hHeld => ?_)
                        · exact True.intro
                        clear hK K
                        try simp only [Act.put, List.setIfInBounds_toArray, List.set_cons_zero, List.set_cons_succ]
                        refine wpAnyH_done (by kernel_rfl) ?_ _
                        refine NoPanic.normal ?_
                        go_wp2
                        go_roundg mq
                        case measure => omega
                        case rel =>
                          have hl : (acc ++ [(⟨va, vb⟩ : DDirtyEntry)]).length = acc.length + 1 := by simp
                          refine ⟨q1, x1, acc ++ [(⟨va, vb⟩ : DDirtyEntry)], Av, cv, by go_num, Lib.hid ?_, Lib.hid ?_, Lib.hid ?_, Lib.hid ⟨yq1, by omega, by have := HRJ.out.2.2; rw [hl]; omega⟩, Lib.hid (HR2.out.setCell (fun _ => by simp) _)⟩
                          · rw [hl]; exact DS.conv (HDG.out.setS HG.out 12 _) (by rfl)
                          · rw [hl]; exact HR1.out.keep ((Only.refl [w3.heap.size] _).setCell (by simp) _) (fun g hg => .inl (by simp at hg; have := HST.out.le; omega))
                          · rw [HEJ.out, HNX.out]; simp
                      exact AllReadyH.nil
                    exact AllReadyH.nil
                  exact AllReadyH.nil
                exact AllReadyH.nil
              exact AllReadyH.nil
            exact AllReadyH.nil
          · have hdone : gk = 0 ∨ bd = true := by
              rcases Nat.eq_zero_or_pos gk with h | h
              · exact .inl h
              · exact .inr (by cases bd; exact absurd ⟨h, rfl⟩ hgo; rfl)
            have heq := HEJ.out
            rw [rdDs_done (m := gk) (s := (rest, bd)) hdone, H8.out, List.append_nil] at heq
            go_upto_region 19 with fail
            go_cut [85] from 77 to 85 (fun s wx => s = .bool false ∧ wr = wx)
            case first =>
              by_cases hz : gk = 0
              · subst hz
                clear hgo hdone
                go_wp2
                all_goals (go_meet; exact ⟨rfl, rfl⟩)
              · obtain rfl : bd = true := hdone.elim (fun h => absurd h hz) id
                obtain ⟨mq, rfl⟩ : ∃ m, gk = m + 1 := ⟨gk - 1, by omega⟩
                have hmq : mq ≤ 255 := by have := HRJ.out.2.2; omega
                clear hgo hdone hz
                go_wp2
                all_goals (go_meet; exact ⟨rfl, rfl⟩)
            case rest =>
              obtain ⟨rfl, rfl⟩ := hcut
              obtain ⟨rfl, rfl, rfl⟩ : ds = acc ∧ r8 = rest ∧ b8 = bd := by
                injection heq with h1 h2
                injection h2 with h2 h3
                exact ⟨h1, h2, h3⟩
              clear heq hgo hdone
              obtain ⟨G4, hs4, hn4⟩ := HOJ.out.sl
              have HS4 := Lib.hid hs4; have HN4 := Lib.hid hn4
              clear hs4 hn4
              have hWe := HW0.out
              subst hWe
              have HUF := Lib.hid (Up.two (n := w3.heap.size + 1) HNJ.out (by omega) (by omega))
              have HSA3 := Lib.hid (HUF.out.sl HS3.out HN3.out)
              have HNB3 := Lib.hid (HUF.out.newIn (Nat.le_refl _) HN3.out)
              have HNF := Lib.hid (show NewIn (w3.heap.size + 1) wr ([] ++ [] ++ G3 ++ G4 ++ []) by simpa using NewIn.join HNB3.out HN4.out HST.out.le (fun g hg => HN3.out.lt g hg))
              have HRW := Lib.hid (rfl : wr = wr)
              have HDE := HDJ
              rcases HA.out with hbad | ⟨hb0, hf0⟩
              · subst hbad
                obtain ⟨As, cs, Gs, ms, fs, -, -⟩ := HDE.out.p.cells
                have m := fun o => cell_of_row _ _ o _ _ _ HDE.out.row
                have f := fun o => frozen_of_row _ _ o _ _ HDE.out.row
                have mr := fun o => cell_of_row _ _ o _ _ _ HDE.out.res
                unfold res0 at mr
                have fr := fun o => frozen_of_row _ _ o _ _ HDE.out.res
                go_wp2
                refine bodyPost_ret (v := .agg res0) (by simp [results, Tryd.results46, go_sem, mr, res0]) rfl ?_
                exact decRes_zero (by repeat (first | with_reducible exact HDE.out.ext | ((with_reducible apply Only.set); · exact fun hq => absurd hq (by dsimp only; omega))))
              · have HV := Lib.hid (show Rep.LogRecord.V wr (.agg #[.int .i64 7, .int .i64 t, .int .i64 pv, .int .i64 0, .int .i64 0, .bool false, .slice none 0 0, .bool false, .slice none 0 0, .int .i64 0, .int .i64 nt, .slice A3q ts.length c3q, .slice Ao ds.length co, .slice none 0 0]) ⟨7, t, pv, 0, 0, ⟨false, []⟩, ⟨false, []⟩, 0, nt, ts, ds, []⟩ ([] ++ [] ++ G3 ++ G4 ++ []) from ⟨_, ⟨none, 0, [], none, 0, [], A3q, c3q, G3, Ao, co, G4, none, 0, [], rfl, rfl, ⟨rfl, wt, wp, rfl, rfl, rfl, wnt⟩, sl0 _ _, sl0 _ _, HSA3.out, HS4.out, sl0 _ _⟩, rfl⟩)
                subst hb0
                obtain ⟨fz, hfz⟩ : ∃ f, f = recFault ⟨7, t, pv, 0, 0, ⟨false, []⟩, ⟨false, []⟩, 0, nt, ts, ds, []⟩ := ⟨_, rfl⟩
                have HRF : Hid (∀ W, Ext wr W → Calls Tryd.prog 29 #[.agg #[.int .i64 7, .int .i64 t, .int .i64 pv, .int .i64 0, .int .i64 0, .bool false, .slice none 0 0, .bool false, .slice none 0 0, .int .i64 0, .int .i64 nt, .slice A3q ts.length c3q, .slice Ao ds.length co, .slice none 0 0]] W fun e w' => e = .returned (.int .i64 fz) ∧ Ext W w') := Lib.hid fun W hW => by rw [hfz]; exact implRecordFault_calls W _ ⟨7, t, pv, 0, 0, ⟨false, []⟩, ⟨false, []⟩, 0, nt, ts, ds, []⟩ _ (V_ext HV.out hW)
                rw [← hfz] at hf0
                clear hfz
                have hk1 : (fz != 0) = true := bne_iff_ne.2 hf0
                obtain ⟨As, cs, Gs, ms, fs, -, -⟩ := HDE.out.p.cells
                have m := fun o => cell_of_row _ _ o _ _ _ HDE.out.row
                have f := fun o => frozen_of_row _ _ o _ _ HDE.out.row
                have mr := fun o => cell_of_row _ _ o _ _ _ HDE.out.res
                unfold res0 at mr
                have fr := fun o => frozen_of_row _ _ o _ _ HDE.out.res
                go_wp2_with (go_at_call 29; refine (HRF.out _ (Only.refl _ _)).mono ?_; rintro e wf ⟨rfl, hE⟩; have HDF := Lib.hid (HDE.out.more hE); have HEF := Lib.hid hE; clear m f mr fr ms fs; have m := fun o => cell_of_row _ _ o _ _ _ HDF.out.row; have f := fun o => frozen_of_row _ _ o _ _ HDF.out.row; have mr := fun o => cell_of_row _ _ o _ _ _ HDF.out.res; unfold res0 at mr; have fr := fun o => frozen_of_row _ _ o _ _ HDF.out.res; clear hE)
                refine bodyPost_ret (v := .agg res0) (by simp [results, Tryd.results46, go_sem, mr, res0]) rfl ?_
                exact decRes_zero (by repeat (first | with_reducible exact HDF.out.ext | ((with_reducible apply Only.set); · exact fun hq => absurd hq (by dsimp only; omega))))
end Go.Proofs.YtghgjddiheebeaaDoor
