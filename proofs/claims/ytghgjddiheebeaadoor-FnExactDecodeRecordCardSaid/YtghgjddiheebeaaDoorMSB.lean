/- DecodeRecord, the program's: images. -/
import Derived.Test.YtghgjddiheebeaaDoorMSA
import Derived.Deep.RegionHeld3
import Derived.Deep.DeepCutAuto
import Derived.Deep.CutBlock
namespace Go.Proofs.YtghgjddiheebeaaDoor
open Go.RowKit
set_option linter.unusedSimpArgs false
set_option linter.unusedVariables false

theorem SC.empty {sb : Nat} {F : List Nat} {rest : List Int} {bad : Bool} {W : World} (h : SC sb F rest bad W) : SC sb F [] bad (W.setCell ⟨sb, 0, none⟩ (.slice none 0 0)) := by
  obtain ⟨⟨A, c, G, hb, hs, hG⟩, hne⟩ := h
  exact SC.put hb none 0 0 [] [] rfl (Rep.sl_nil (by simp)) (by simp) hne
set_option maxRecDepth 100000 in
set_option maxHeartbeats 8000000 in
theorem implDec_8_A (w : World) (A : Option Addr) (c : Nat) (b : List Int) (F : List Nat) (h : (Rep.int .u8).sl w A c b F) (hm : b.length ≤ 1048576) (t pv : Int) (r1 r2 r3 : List Int) (b1 b2 b3 : Bool)
    (hk : rdNum 1 (b, false) = (8, (r1, b1))) (ht : rdNum 4 (r1, b1) = (t, (r2, b2))) (hp : rdNum 8 (r2, b2) = (pv, (r3, b3))) (pg : Int) (r4 : List Int) (b4 : Bool)
    (h4 : rdNum 2 (r3, b3) = (pg, (r4, b4))) (hA : b4 = true ∨ b4 = false ∧ recFault ⟨8, t, pv, pg, 0, ⟨false, []⟩, ⟨false, []⟩, 0, 0, [], [], r4⟩ ≠ 0) :
    Calls Tryd.prog 46 #[.slice A b.length c] w (NewPost Rep.RecordResult ⟨false, zeroRecD⟩ w) := by
  have HA := Lib.hid hA
  clear hA
  have hby : isByte b := fun z hz => Lib.byte_of_wf (sl_wf h z hz)
  obtain ⟨wk, y1, l1⟩ := rdNum_room hk hby (by decide)
  try dsimp only at l1
  obtain ⟨wt, y2, l2⟩ := rdNum_room ht y1 (by decide)
  try dsimp only at l2
  obtain ⟨wp, y3, l3⟩ := rdNum_room hp y2 (by decide)
  try dsimp only at l3
  have hu := Tryd.underlying49
  have hu2 := Tryd.underlying65
  have hu3 := Tryd.underlying135
  have HFL := Lib.hid (Rep.sl_lt h)
  have HB0 := Lib.hid h
  have HK := Lib.hid hk; have HT := Lib.hid ht; have HP := Lib.hid hp
  have HSC := Lib.hid (show SC (w.heap.size + 1) F b false ((w.alloc (.cells res0 65)).alloc (.cells #[.slice A b.length c, .bool false] 135)) from
    ⟨⟨A, c, F, heap_at _ _ (by simp), Rep.sl_ext h ((alloc_ext _ _).ext (alloc_ext _ _)), fun g hg => hg⟩, fun hq => absurd (Rep.sl_lt h _ hq) (by omega)⟩)
  have HRB := Lib.hid ((alloc_ext (w.alloc (.cells res0 65)) (.cells #[.slice A b.length c, .bool false] 135)).heap (heap_alloc_new w (.cells res0 65)) (by simp))
  have HX0 := Lib.hid ((alloc_ext w (.cells res0 65)).ext (alloc_ext _ (.cells #[.slice A b.length c, .bool false] 135)))
  have hz0 : ((w.alloc (.cells res0 65)).alloc (.cells #[.slice A b.length c, .bool false] 135)).heap.size = w.heap.size + 2 := by simp
  have HZ0 := Lib.hid hz0
  clear h hk ht hp hz0
  obtain ⟨wpg, y4, l4⟩ := rdNum_room h4 y3 (by decide)
  try dsimp only at l4
  have H4 := Lib.hid h4
  clear h4
  go_enter Tryd.func46, Tryd.ntmps46
  go_wp2_with (first
    | (go_at_call 105; refine (HS2.out.numP 8 _ rfl (by decide) (by omega) _ _ _ HP.out).mono ?_; rintro e w3 ⟨rfl, h1, hO⟩; have HS3 := Lib.hid h1; have HO3 := Lib.hid (HO2.out.trans hO); clear h1 hO; refine Hid.out ?_)
    | (go_at_call 105; refine (HS1.out.numP 4 _ rfl (by decide) (by omega) _ _ _ HT.out).mono ?_; rintro e w2 ⟨rfl, h1, hO⟩; have HS2 := Lib.hid h1; have HO2 := Lib.hid (HO1.out.trans hO); clear h1 hO)
    | (go_at_call 105; refine (HSC.out.numP 1 _ rfl (by decide) hm _ _ _ HK.out).mono ?_; rintro e w1 ⟨rfl, h1, hO⟩; have HS1 := Lib.hid h1; have HO1 := Lib.hid hO; clear h1 hO))
  refine Lib.hid ?_
  have hw3 : w.heap.size + 2 ≤ w3.heap.size := by have h1 := HO3.out.size; have h2 := HZ0.out; omega
  have HG := Lib.hid (show Geo w (w.heap.size + 1) w.heap.size w3.heap.size (w3.heap.size + 1) F from ⟨by omega, by omega, by omega, by omega, HFL.out⟩)
  have HDS0 := Lib.hid (show DS (SC (w.heap.size + 1) F r3 b3) w w.heap.size w3.heap.size (w3.heap.size + 1) #[.int .i64 8, .int .i64 t, .int .i64 pv, .int .i64 0, .int .i64 0, .bool false, .slice none 0 0, .bool false, .slice none 0 0, .int .i64 0, .int .i64 0, .slice none 0 0, .slice none 0 0, .slice none 0 0] (w3.alloc (.cells #[.int .i64 8, .int .i64 t, .int .i64 pv, .int .i64 0, .int .i64 0, .bool false, .slice none 0 0, .bool false, .slice none 0 0, .int .i64 0, .int .i64 0, .slice none 0 0, .slice none 0 0, .slice none 0 0] 49)) from
    ⟨HS3.out.ext (alloc_ext _ _), (alloc_ext _ _).heap (HO3.out.heap HRB.out (by simp)) (by simp), heap_alloc_new _ _, (HX0.out.then_ HO3.out (fun g hg hl => by simp at hg; omega)).ext (alloc_ext _ _), by simp⟩)
  go_wp2_with (first
    | (go_at_call 63; refine (Clone_calls As cs r4 Gs _ HSS.out (by omega)).mono ?_; rintro e ww2 ⟨vq2, Gq2, rfl, hVq, hNq⟩; obtain ⟨Aq2, cq2, rfl, hsq⟩ := Rep.slice_V hVq; have HDS2 := Lib.hid (HDS1s.out.more hNq.ext); have HSL2 := Lib.hid hsq; have HNI2 := Lib.hid (NewIn.ofNew (n := w3.heap.size + 1) hNq (Rep.sl_lt hsq) HDS1s.out.le); clear m f ms fs; have m := fun o => cell_of_row _ _ o _ _ _ HDS2.out.row; have f := fun o => frozen_of_row _ _ o _ _ HDS2.out.row; obtain ⟨At, ct, Gt, ms, fs, -, -⟩ := HDS2.out.p.cells; have HDS2a := Lib.hid (show DS (SC (w.heap.size + 1) F r4 b4) w w.heap.size w3.heap.size (w3.heap.size + 1) #[.int .i64 8, .int .i64 t, .int .i64 pv, .int .i64 pg, .int .i64 0, .bool false, .slice none 0 0, .bool false, .slice none 0 0, .int .i64 0, .int .i64 0, .slice none 0 0, .slice none 0 0, .slice Aq2 r4.length cq2] (ww2.setCell ⟨w3.heap.size, 13, none⟩ (.slice Aq2 r4.length cq2)) from DS.conv (HDS2.out.setS HG.out 13 (.slice Aq2 r4.length cq2)) (by rfl)); have HDS2s := Lib.hid (show DS (SC (w.heap.size + 1) F [] b4) w w.heap.size w3.heap.size (w3.heap.size + 1) #[.int .i64 8, .int .i64 t, .int .i64 pv, .int .i64 pg, .int .i64 0, .bool false, .slice none 0 0, .bool false, .slice none 0 0, .int .i64 0, .int .i64 0, .slice none 0 0, .slice none 0 0, .slice Aq2 r4.length cq2] ((ww2.setCell ⟨w3.heap.size, 13, none⟩ (.slice Aq2 r4.length cq2)).setCell ⟨w.heap.size + 1, 0, none⟩ (.slice none 0 0)) from HDS2a.out.only HG.out ((Only.refl _ _).setCell (fun _ => by simp) _) HDS2a.out.p.empty); have HUP2s := Lib.hid (show Up (w3.heap.size + 1) ww2 ((ww2.setCell ⟨w3.heap.size, 13, none⟩ (.slice Aq2 r4.length cq2)).setCell ⟨w.heap.size + 1, 0, none⟩ (.slice none 0 0)) from (Up.set HG.out ww2 13 _).trans (Up.only ((Only.refl [w.heap.size + 1] _).setCell (by simp) _) (by simp; omega))); clear hVq hNq hsq; refine Hid.out ?_)
    | (go_at_call 105; refine (HDS0.out.numS HG.out 2 _ rfl (by decide) (by omega) _ _ _ H4.out).mono ?_; rintro e ww1 ⟨rfl, HDS1, HUP1⟩; have m := fun o => cell_of_row _ _ o _ _ _ HDS1.out.row; have f := fun o => frozen_of_row _ _ o _ _ HDS1.out.row; have HDS1s := Lib.hid (show DS (SC (w.heap.size + 1) F r4 b4) w w.heap.size w3.heap.size (w3.heap.size + 1) #[.int .i64 8, .int .i64 t, .int .i64 pv, .int .i64 pg, .int .i64 0, .bool false, .slice none 0 0, .bool false, .slice none 0 0, .int .i64 0, .int .i64 0, .slice none 0 0, .slice none 0 0, .slice none 0 0] (ww1.setCell ⟨w3.heap.size, 3, none⟩ (.int .i64 pg)) from DS.conv ((HDS1.out).setS HG.out 3 (.int .i64 pg)) (by rfl)); have HUP1s := Lib.hid (show Up (w3.heap.size + 1) ww1 (ww1.setCell ⟨w3.heap.size, 3, none⟩ (.int .i64 pg)) from (by repeat (first | with_reducible exact Up.refl _ _ | (with_reducible refine Up.trans ?_ (Up.set HG.out _ _ _))))); obtain ⟨As, cs, Gs, ms, fs, hsl, hGs⟩ := HDS1s.out.p.cells; have HSS := Lib.hid hsl; clear hsl hGs))
  refine Lib.hid ?_
  have HSA2 := Lib.hid (HUP2s.out.sl HSL2.out HNI2.out); have HNA2 := Lib.hid (HUP2s.out.newIn (Nat.le_refl _) HNI2.out)
  have HNJ := Lib.hid (show NewIn (w3.heap.size + 1) ((ww2.setCell ⟨w3.heap.size, 13, none⟩ (.slice Aq2 r4.length cq2)).setCell ⟨w.heap.size + 1, 0, none⟩ (.slice none 0 0)) ([] ++ [] ++ [] ++ [] ++ Gq2) by simpa using HNA2.out)
  rcases HA.out with hbad | ⟨hb0, hf0⟩
  · subst hbad
    obtain ⟨As, cs, Gs, ms, fs, -, -⟩ := HDS2s.out.p.cells
    have m := fun o => cell_of_row _ _ o _ _ _ HDS2s.out.row
    have f := fun o => frozen_of_row _ _ o _ _ HDS2s.out.row
    have mr := fun o => cell_of_row _ _ o _ _ _ HDS2s.out.res
    unfold res0 at mr
    have fr := fun o => frozen_of_row _ _ o _ _ HDS2s.out.res
    go_wp2
    refine bodyPost_ret (v := .agg res0) (by simp [results, Tryd.results46, go_sem, mr, res0]) rfl ?_
    exact decRes_zero (by repeat (first | with_reducible exact HDS2s.out.ext | ((with_reducible apply Only.set); · exact fun hq => absurd hq (by dsimp only; omega))))
  · have HV := Lib.hid (show Rep.LogRecord.V ((ww2.setCell ⟨w3.heap.size, 13, none⟩ (.slice Aq2 r4.length cq2)).setCell ⟨w.heap.size + 1, 0, none⟩ (.slice none 0 0)) (.agg #[.int .i64 8, .int .i64 t, .int .i64 pv, .int .i64 pg, .int .i64 0, .bool false, .slice none 0 0, .bool false, .slice none 0 0, .int .i64 0, .int .i64 0, .slice none 0 0, .slice none 0 0, .slice Aq2 r4.length cq2]) ⟨8, t, pv, pg, 0, ⟨false, []⟩, ⟨false, []⟩, 0, 0, [], [], r4⟩ ([] ++ [] ++ [] ++ [] ++ Gq2) from ⟨_, ⟨none, 0, [], none, 0, [], none, 0, [], none, 0, [], Aq2, cq2, Gq2, rfl, rfl, ⟨rfl, wt, wp, wpg, rfl, rfl, rfl⟩, sl0 _ _, sl0 _ _, sl0 _ _, sl0 _ _, HSA2.out⟩, rfl⟩)
    subst hb0
    obtain ⟨fz, hfz⟩ : ∃ f, f = recFault ⟨8, t, pv, pg, 0, ⟨false, []⟩, ⟨false, []⟩, 0, 0, [], [], r4⟩ := ⟨_, rfl⟩
    have HRF : Hid (∀ W, Ext ((ww2.setCell ⟨w3.heap.size, 13, none⟩ (.slice Aq2 r4.length cq2)).setCell ⟨w.heap.size + 1, 0, none⟩ (.slice none 0 0)) W → Calls Tryd.prog 29 #[.agg #[.int .i64 8, .int .i64 t, .int .i64 pv, .int .i64 pg, .int .i64 0, .bool false, .slice none 0 0, .bool false, .slice none 0 0, .int .i64 0, .int .i64 0, .slice none 0 0, .slice none 0 0, .slice Aq2 r4.length cq2]] W fun e w' => e = .returned (.int .i64 fz) ∧ Ext W w') := Lib.hid fun W hW => by rw [hfz]; exact implRecordFault_calls W _ ⟨8, t, pv, pg, 0, ⟨false, []⟩, ⟨false, []⟩, 0, 0, [], [], r4⟩ _ (V_ext HV.out hW)
    rw [← hfz] at hf0
    clear hfz
    have hk1 : (fz != 0) = true := bne_iff_ne.2 hf0
    obtain ⟨As, cs, Gs, ms, fs, -, -⟩ := HDS2s.out.p.cells
    have m := fun o => cell_of_row _ _ o _ _ _ HDS2s.out.row
    have f := fun o => frozen_of_row _ _ o _ _ HDS2s.out.row
    have mr := fun o => cell_of_row _ _ o _ _ _ HDS2s.out.res
    unfold res0 at mr
    have fr := fun o => frozen_of_row _ _ o _ _ HDS2s.out.res
    go_wp2_with (go_at_call 29; refine (HRF.out _ (Only.refl _ _)).mono ?_; rintro e wf ⟨rfl, hE⟩; have HDF := Lib.hid (HDS2s.out.more hE); have HEF := Lib.hid hE; clear m f mr fr ms fs; have m := fun o => cell_of_row _ _ o _ _ _ HDF.out.row; have f := fun o => frozen_of_row _ _ o _ _ HDF.out.row; have mr := fun o => cell_of_row _ _ o _ _ _ HDF.out.res; unfold res0 at mr; have fr := fun o => frozen_of_row _ _ o _ _ HDF.out.res; clear hE)
    refine bodyPost_ret (v := .agg res0) (by simp [results, Tryd.results46, go_sem, mr, res0]) rfl ?_
    exact decRes_zero (by repeat (first | with_reducible exact HDF.out.ext | ((with_reducible apply Only.set); · exact fun hq => absurd hq (by dsimp only; omega))))
set_option maxRecDepth 100000 in
set_option maxHeartbeats 8000000 in
theorem implDec_8_B (w : World) (A : Option Addr) (c : Nat) (b : List Int) (F : List Nat) (h : (Rep.int .u8).sl w A c b F) (hm : b.length ≤ 1048576) (t pv : Int) (r1 r2 r3 : List Int) (b1 b2 b3 : Bool)
    (hk : rdNum 1 (b, false) = (8, (r1, b1))) (ht : rdNum 4 (r1, b1) = (t, (r2, b2))) (hp : rdNum 8 (r2, b2) = (pv, (r3, b3))) (pg : Int) (r4 : List Int) (b4 : Bool)
    (h4 : rdNum 2 (r3, b3) = (pg, (r4, b4))) (hb0 : b4 = false) (hf0 : recFault ⟨8, t, pv, pg, 0, ⟨false, []⟩, ⟨false, []⟩, 0, 0, [], [], r4⟩ = 0) (R : DRecordResult) (hR : encRec ⟨8, t, pv, pg, 0, ⟨false, []⟩, ⟨false, []⟩, 0, 0, [], [], r4⟩ ≠ b ∧ R = ⟨false, zeroRecD⟩ ∨ encRec ⟨8, t, pv, pg, 0, ⟨false, []⟩, ⟨false, []⟩, 0, 0, [], [], r4⟩ = b ∧ R = ⟨true, ⟨8, t, pv, pg, 0, ⟨false, []⟩, ⟨false, []⟩, 0, 0, [], [], r4⟩⟩) :
    Calls Tryd.prog 46 #[.slice A b.length c] w (NewPost Rep.RecordResult R w) := by
  have HR := Lib.hid hR
  clear hR
  have hby : isByte b := fun z hz => Lib.byte_of_wf (sl_wf h z hz)
  obtain ⟨wk, y1, l1⟩ := rdNum_room hk hby (by decide)
  try dsimp only at l1
  obtain ⟨wt, y2, l2⟩ := rdNum_room ht y1 (by decide)
  try dsimp only at l2
  obtain ⟨wp, y3, l3⟩ := rdNum_room hp y2 (by decide)
  try dsimp only at l3
  have hu := Tryd.underlying49
  have hu2 := Tryd.underlying65
  have hu3 := Tryd.underlying135
  have HFL := Lib.hid (Rep.sl_lt h)
  have HB0 := Lib.hid h
  have HK := Lib.hid hk; have HT := Lib.hid ht; have HP := Lib.hid hp
  have HSC := Lib.hid (show SC (w.heap.size + 1) F b false ((w.alloc (.cells res0 65)).alloc (.cells #[.slice A b.length c, .bool false] 135)) from
    ⟨⟨A, c, F, heap_at _ _ (by simp), Rep.sl_ext h ((alloc_ext _ _).ext (alloc_ext _ _)), fun g hg => hg⟩, fun hq => absurd (Rep.sl_lt h _ hq) (by omega)⟩)
  have HRB := Lib.hid ((alloc_ext (w.alloc (.cells res0 65)) (.cells #[.slice A b.length c, .bool false] 135)).heap (heap_alloc_new w (.cells res0 65)) (by simp))
  have HX0 := Lib.hid ((alloc_ext w (.cells res0 65)).ext (alloc_ext _ (.cells #[.slice A b.length c, .bool false] 135)))
  have hz0 : ((w.alloc (.cells res0 65)).alloc (.cells #[.slice A b.length c, .bool false] 135)).heap.size = w.heap.size + 2 := by simp
  have HZ0 := Lib.hid hz0
  clear h hk ht hp hz0
  obtain ⟨wpg, y4, l4⟩ := rdNum_room h4 y3 (by decide)
  try dsimp only at l4
  have H4 := Lib.hid h4
  clear h4
  go_enter Tryd.func46, Tryd.ntmps46
  go_wp2_with (first
    | (go_at_call 105; refine (HS2.out.numP 8 _ rfl (by decide) (by omega) _ _ _ HP.out).mono ?_; rintro e w3 ⟨rfl, h1, hO⟩; have HS3 := Lib.hid h1; have HO3 := Lib.hid (HO2.out.trans hO); clear h1 hO; refine Hid.out ?_)
    | (go_at_call 105; refine (HS1.out.numP 4 _ rfl (by decide) (by omega) _ _ _ HT.out).mono ?_; rintro e w2 ⟨rfl, h1, hO⟩; have HS2 := Lib.hid h1; have HO2 := Lib.hid (HO1.out.trans hO); clear h1 hO)
    | (go_at_call 105; refine (HSC.out.numP 1 _ rfl (by decide) hm _ _ _ HK.out).mono ?_; rintro e w1 ⟨rfl, h1, hO⟩; have HS1 := Lib.hid h1; have HO1 := Lib.hid hO; clear h1 hO))
  refine Lib.hid ?_
  have hw3 : w.heap.size + 2 ≤ w3.heap.size := by have h1 := HO3.out.size; have h2 := HZ0.out; omega
  have HG := Lib.hid (show Geo w (w.heap.size + 1) w.heap.size w3.heap.size (w3.heap.size + 1) F from ⟨by omega, by omega, by omega, by omega, HFL.out⟩)
  have HDS0 := Lib.hid (show DS (SC (w.heap.size + 1) F r3 b3) w w.heap.size w3.heap.size (w3.heap.size + 1) #[.int .i64 8, .int .i64 t, .int .i64 pv, .int .i64 0, .int .i64 0, .bool false, .slice none 0 0, .bool false, .slice none 0 0, .int .i64 0, .int .i64 0, .slice none 0 0, .slice none 0 0, .slice none 0 0] (w3.alloc (.cells #[.int .i64 8, .int .i64 t, .int .i64 pv, .int .i64 0, .int .i64 0, .bool false, .slice none 0 0, .bool false, .slice none 0 0, .int .i64 0, .int .i64 0, .slice none 0 0, .slice none 0 0, .slice none 0 0] 49)) from
    ⟨HS3.out.ext (alloc_ext _ _), (alloc_ext _ _).heap (HO3.out.heap HRB.out (by simp)) (by simp), heap_alloc_new _ _, (HX0.out.then_ HO3.out (fun g hg hl => by simp at hg; omega)).ext (alloc_ext _ _), by simp⟩)
  go_wp2_with (first
    | (go_at_call 63; refine (Clone_calls As cs r4 Gs _ HSS.out (by omega)).mono ?_; rintro e ww2 ⟨vq2, Gq2, rfl, hVq, hNq⟩; obtain ⟨Aq2, cq2, rfl, hsq⟩ := Rep.slice_V hVq; have HDS2 := Lib.hid (HDS1s.out.more hNq.ext); have HSL2 := Lib.hid hsq; have HNI2 := Lib.hid (NewIn.ofNew (n := w3.heap.size + 1) hNq (Rep.sl_lt hsq) HDS1s.out.le); clear m f ms fs; have m := fun o => cell_of_row _ _ o _ _ _ HDS2.out.row; have f := fun o => frozen_of_row _ _ o _ _ HDS2.out.row; obtain ⟨At, ct, Gt, ms, fs, -, -⟩ := HDS2.out.p.cells; have HDS2a := Lib.hid (show DS (SC (w.heap.size + 1) F r4 b4) w w.heap.size w3.heap.size (w3.heap.size + 1) #[.int .i64 8, .int .i64 t, .int .i64 pv, .int .i64 pg, .int .i64 0, .bool false, .slice none 0 0, .bool false, .slice none 0 0, .int .i64 0, .int .i64 0, .slice none 0 0, .slice none 0 0, .slice Aq2 r4.length cq2] (ww2.setCell ⟨w3.heap.size, 13, none⟩ (.slice Aq2 r4.length cq2)) from DS.conv (HDS2.out.setS HG.out 13 (.slice Aq2 r4.length cq2)) (by rfl)); have HDS2s := Lib.hid (show DS (SC (w.heap.size + 1) F [] b4) w w.heap.size w3.heap.size (w3.heap.size + 1) #[.int .i64 8, .int .i64 t, .int .i64 pv, .int .i64 pg, .int .i64 0, .bool false, .slice none 0 0, .bool false, .slice none 0 0, .int .i64 0, .int .i64 0, .slice none 0 0, .slice none 0 0, .slice Aq2 r4.length cq2] ((ww2.setCell ⟨w3.heap.size, 13, none⟩ (.slice Aq2 r4.length cq2)).setCell ⟨w.heap.size + 1, 0, none⟩ (.slice none 0 0)) from HDS2a.out.only HG.out ((Only.refl _ _).setCell (fun _ => by simp) _) HDS2a.out.p.empty); have HUP2s := Lib.hid (show Up (w3.heap.size + 1) ww2 ((ww2.setCell ⟨w3.heap.size, 13, none⟩ (.slice Aq2 r4.length cq2)).setCell ⟨w.heap.size + 1, 0, none⟩ (.slice none 0 0)) from (Up.set HG.out ww2 13 _).trans (Up.only ((Only.refl [w.heap.size + 1] _).setCell (by simp) _) (by simp; omega))); clear hVq hNq hsq; refine Hid.out ?_)
    | (go_at_call 105; refine (HDS0.out.numS HG.out 2 _ rfl (by decide) (by omega) _ _ _ H4.out).mono ?_; rintro e ww1 ⟨rfl, HDS1, HUP1⟩; have m := fun o => cell_of_row _ _ o _ _ _ HDS1.out.row; have f := fun o => frozen_of_row _ _ o _ _ HDS1.out.row; have HDS1s := Lib.hid (show DS (SC (w.heap.size + 1) F r4 b4) w w.heap.size w3.heap.size (w3.heap.size + 1) #[.int .i64 8, .int .i64 t, .int .i64 pv, .int .i64 pg, .int .i64 0, .bool false, .slice none 0 0, .bool false, .slice none 0 0, .int .i64 0, .int .i64 0, .slice none 0 0, .slice none 0 0, .slice none 0 0] (ww1.setCell ⟨w3.heap.size, 3, none⟩ (.int .i64 pg)) from DS.conv ((HDS1.out).setS HG.out 3 (.int .i64 pg)) (by rfl)); have HUP1s := Lib.hid (show Up (w3.heap.size + 1) ww1 (ww1.setCell ⟨w3.heap.size, 3, none⟩ (.int .i64 pg)) from (by repeat (first | with_reducible exact Up.refl _ _ | (with_reducible refine Up.trans ?_ (Up.set HG.out _ _ _))))); obtain ⟨As, cs, Gs, ms, fs, hsl, hGs⟩ := HDS1s.out.p.cells; have HSS := Lib.hid hsl; clear hsl hGs))
  refine Lib.hid ?_
  have HSA2 := Lib.hid (HUP2s.out.sl HSL2.out HNI2.out); have HNA2 := Lib.hid (HUP2s.out.newIn (Nat.le_refl _) HNI2.out)
  have HNJ := Lib.hid (show NewIn (w3.heap.size + 1) ((ww2.setCell ⟨w3.heap.size, 13, none⟩ (.slice Aq2 r4.length cq2)).setCell ⟨w.heap.size + 1, 0, none⟩ (.slice none 0 0)) ([] ++ [] ++ [] ++ [] ++ Gq2) by simpa using HNA2.out)
  have HV := Lib.hid (show Rep.LogRecord.V ((ww2.setCell ⟨w3.heap.size, 13, none⟩ (.slice Aq2 r4.length cq2)).setCell ⟨w.heap.size + 1, 0, none⟩ (.slice none 0 0)) (.agg #[.int .i64 8, .int .i64 t, .int .i64 pv, .int .i64 pg, .int .i64 0, .bool false, .slice none 0 0, .bool false, .slice none 0 0, .int .i64 0, .int .i64 0, .slice none 0 0, .slice none 0 0, .slice Aq2 r4.length cq2]) ⟨8, t, pv, pg, 0, ⟨false, []⟩, ⟨false, []⟩, 0, 0, [], [], r4⟩ ([] ++ [] ++ [] ++ [] ++ Gq2) from ⟨_, ⟨none, 0, [], none, 0, [], none, 0, [], none, 0, [], Aq2, cq2, Gq2, rfl, rfl, ⟨rfl, wt, wp, wpg, rfl, rfl, rfl⟩, sl0 _ _, sl0 _ _, sl0 _ _, sl0 _ _, HSA2.out⟩, rfl⟩)
  subst hb0
  obtain ⟨fz, hfz⟩ : ∃ f, f = recFault ⟨8, t, pv, pg, 0, ⟨false, []⟩, ⟨false, []⟩, 0, 0, [], [], r4⟩ := ⟨_, rfl⟩
  have HRF : Hid (∀ W, Ext ((ww2.setCell ⟨w3.heap.size, 13, none⟩ (.slice Aq2 r4.length cq2)).setCell ⟨w.heap.size + 1, 0, none⟩ (.slice none 0 0)) W → Calls Tryd.prog 29 #[.agg #[.int .i64 8, .int .i64 t, .int .i64 pv, .int .i64 pg, .int .i64 0, .bool false, .slice none 0 0, .bool false, .slice none 0 0, .int .i64 0, .int .i64 0, .slice none 0 0, .slice none 0 0, .slice Aq2 r4.length cq2]] W fun e w' => e = .returned (.int .i64 fz) ∧ Ext W w') := Lib.hid fun W hW => by rw [hfz]; exact implRecordFault_calls W _ ⟨8, t, pv, pg, 0, ⟨false, []⟩, ⟨false, []⟩, 0, 0, [], [], r4⟩ _ (V_ext HV.out hW)
  rw [← hfz] at hf0
  clear hfz
  have HEN : Hid (∀ W, Ext ((ww2.setCell ⟨w3.heap.size, 13, none⟩ (.slice Aq2 r4.length cq2)).setCell ⟨w.heap.size + 1, 0, none⟩ (.slice none 0 0)) W → Calls Tryd.prog 38 #[.agg #[.int .i64 8, .int .i64 t, .int .i64 pv, .int .i64 pg, .int .i64 0, .bool false, .slice none 0 0, .bool false, .slice none 0 0, .int .i64 0, .int .i64 0, .slice none 0 0, .slice none 0 0, .slice Aq2 r4.length cq2]] W (NewPost (Rep.int .u8).slice (encRec ⟨8, t, pv, pg, 0, ⟨false, []⟩, ⟨false, []⟩, 0, 0, [], [], r4⟩) W)) := Lib.hid fun W hW => implEncode_new W _ ⟨8, t, pv, pg, 0, ⟨false, []⟩, ⟨false, []⟩, 0, 0, [], [], r4⟩ _ (V_ext HV.out hW)
  subst hf0
  obtain ⟨L, hL⟩ : ∃ l, l = encRec ⟨8, t, pv, pg, 0, ⟨false, []⟩, ⟨false, []⟩, 0, 0, [], [], r4⟩ := ⟨_, rfl⟩
  have hLb := encRec_len ⟨8, t, pv, pg, 0, ⟨false, []⟩, ⟨false, []⟩, 0, 0, [], [], r4⟩
  have hR := HR.out
  rw [← hL] at HEN hLb hR
  obtain ⟨q, hq⟩ : ∃ q, q = decide (L = b) := ⟨_, rfl⟩
  have HEQ : Hid (∀ W A' c' F', (Rep.int .u8).sl W A' c' L F' → (Rep.int .u8).sl W A c b F → Calls Tryd.prog 107 #[.slice A' L.length c', .slice A b.length c] W fun e w' => e = .returned (.bool q) ∧ Ext W w') := Lib.hid fun W A' c' F' h1 h2 => by rw [hq]; exact bytesEqual_calls W A' c' L F' A c b F h1 h2
  clear HR hL
  rcases hR with ⟨hqe, rfl⟩ | ⟨hqe, rfl⟩
  · obtain rfl : q = false := hq.trans (decide_eq_false hqe)
    clear hqe hq
    obtain ⟨As, cs, Gs, ms, fs, -, -⟩ := HDS2s.out.p.cells
    have m := fun o => cell_of_row _ _ o _ _ _ HDS2s.out.row
    have f := fun o => frozen_of_row _ _ o _ _ HDS2s.out.row
    have mr := fun o => cell_of_row _ _ o _ _ _ HDS2s.out.res
    unfold res0 at mr
    have fr := fun o => frozen_of_row _ _ o _ _ HDS2s.out.res
    go_wp2_with (first
      | (go_at_call 107; refine (HEQ.out _ _ _ _ HQG.out (Rep.sl_ext HB0.out HDG.out.ext)).mono ?_; rintro e wh ⟨rfl, hE⟩; have HDH := Lib.hid (HDG.out.more hE); have HEH := Lib.hid (HEG.out.ext hE); clear m f mr fr; have m := fun o => cell_of_row _ _ o _ _ _ HDH.out.row; have f := fun o => frozen_of_row _ _ o _ _ HDH.out.row; have mr := fun o => cell_of_row _ _ o _ _ _ HDH.out.res; unfold res0 at mr; have fr := fun o => frozen_of_row _ _ o _ _ HDH.out.res; clear hE)
      | (go_at_call 38; refine (HEN.out _ HEF.out).mono ?_; rintro e wg ⟨vg, Gg, rfl, hVg, hNg⟩; obtain ⟨Ag, cg, rfl, qg⟩ := Rep.slice_V hVg; have HQG := Lib.hid qg; have HDG := Lib.hid (HDF.out.more hNg.ext); have HEG := Lib.hid (HEF.out.ext hNg.ext); clear hVg qg hNg)
      | (go_at_call 29; refine (HRF.out _ (Only.refl _ _)).mono ?_; rintro e wf ⟨rfl, hE⟩; have HDF := Lib.hid (HDS2s.out.more hE); have HEF := Lib.hid hE; clear m f mr fr ms fs; have m := fun o => cell_of_row _ _ o _ _ _ HDF.out.row; have f := fun o => frozen_of_row _ _ o _ _ HDF.out.row; have mr := fun o => cell_of_row _ _ o _ _ _ HDF.out.res; unfold res0 at mr; have fr := fun o => frozen_of_row _ _ o _ _ HDF.out.res; clear hE))
    refine bodyPost_ret (v := .agg res0) (by simp [results, Tryd.results46, go_sem, mr, res0]) rfl ?_
    exact decRes_zero (by repeat (first | with_reducible exact HDH.out.ext | ((with_reducible apply Only.set); · exact fun hq => absurd hq (by dsimp only; omega))))
  · obtain rfl : q = true := hq.trans (decide_eq_true hqe)
    clear hqe hq
    obtain ⟨As, cs, Gs, ms, fs, -, -⟩ := HDS2s.out.p.cells
    have m := fun o => cell_of_row _ _ o _ _ _ HDS2s.out.row
    have f := fun o => frozen_of_row _ _ o _ _ HDS2s.out.row
    have mr := fun o => cell_of_row _ _ o _ _ _ HDS2s.out.res
    unfold res0 at mr
    have fr := fun o => frozen_of_row _ _ o _ _ HDS2s.out.res
    go_wp2_with (first
      | (go_at_call 107; refine (HEQ.out _ _ _ _ HQG.out (Rep.sl_ext HB0.out HDG.out.ext)).mono ?_; rintro e wh ⟨rfl, hE⟩; have HDH := Lib.hid (HDG.out.more hE); have HEH := Lib.hid (HEG.out.ext hE); clear m f mr fr; have m := fun o => cell_of_row _ _ o _ _ _ HDH.out.row; have f := fun o => frozen_of_row _ _ o _ _ HDH.out.row; have mr := fun o => cell_of_row _ _ o _ _ _ HDH.out.res; unfold res0 at mr; have fr := fun o => frozen_of_row _ _ o _ _ HDH.out.res; clear hE)
      | (go_at_call 38; refine (HEN.out _ HEF.out).mono ?_; rintro e wg ⟨vg, Gg, rfl, hVg, hNg⟩; obtain ⟨Ag, cg, rfl, qg⟩ := Rep.slice_V hVg; have HQG := Lib.hid qg; have HDG := Lib.hid (HDF.out.more hNg.ext); have HEG := Lib.hid (HEF.out.ext hNg.ext); clear hVg qg hNg)
      | (go_at_call 29; refine (HRF.out _ (Only.refl _ _)).mono ?_; rintro e wf ⟨rfl, hE⟩; have HDF := Lib.hid (HDS2s.out.more hE); have HEF := Lib.hid hE; clear m f mr fr ms fs; have m := fun o => cell_of_row _ _ o _ _ _ HDF.out.row; have f := fun o => frozen_of_row _ _ o _ _ HDF.out.row; have mr := fun o => cell_of_row _ _ o _ _ _ HDF.out.res; unfold res0 at mr; have fr := fun o => frozen_of_row _ _ o _ _ HDF.out.res; clear hE))
    refine bodyPost_ret (v := .agg #[.bool true, .int .i64 8, .int .i64 t, .int .i64 pv, .int .i64 pg, .int .i64 0, .bool false, .slice none 0 0, .bool false, .slice none 0 0, .int .i64 0, .int .i64 0, .slice none 0 0, .slice none 0 0, .slice Aq2 r4.length cq2]) (by simp [results, Tryd.results46, go_sem, m, mr]) rfl ?_
    exact decRes_good (W := wh) (x := ⟨8, t, pv, pg, 0, ⟨false, []⟩, ⟨false, []⟩, 0, 0, [], [], r4⟩) ⟨rfl, wt, wp, wpg, rfl, rfl, rfl⟩ (sl0 _ _) (sl0 _ _) (sl0 _ _) (sl0 _ _) (Rep.sl_ext HSA2.out HEH.out) ((Up.only HEH.out (by simp)).newIn (Nat.le_refl _) HNJ.out) (by omega) (by repeat (first | with_reducible exact HDH.out.ext | ((with_reducible apply Only.set); · exact fun hq => absurd hq (by dsimp only; omega)))) (Up.only (H := [w.heap.size]) (by repeat (first | with_reducible exact Only.refl _ _ | ((with_reducible apply Only.set); · simp))) (by simp; omega))
theorem implDec_8 (w : World) (A : Option Addr) (c : Nat) (b : List Int) (F : List Nat) (h : (Rep.int .u8).sl w A c b F) (hm : b.length ≤ 1048576) (t pv : Int) (r1 r2 r3 : List Int) (b1 b2 b3 : Bool)
    (hk : rdNum 1 (b, false) = (8, (r1, b1))) (ht : rdNum 4 (r1, b1) = (t, (r2, b2))) (hp : rdNum 8 (r2, b2) = (pv, (r3, b3))) (pg : Int) (r4 : List Int) (b4 : Bool)
    (h4 : rdNum 2 (r3, b3) = (pg, (r4, b4))) :
    Calls Tryd.prog 46 #[.slice A b.length c] w (NewPost Rep.RecordResult (decR ⟨8, t, pv, pg, 0, ⟨false, []⟩, ⟨false, []⟩, 0, 0, [], [], r4⟩ b4 b) w) := by
  by_cases hbad : b4 = true
  · rw [show decR _ _ _ = ⟨false, zeroRecD⟩ from if_neg (by rw [hbad]; rintro ⟨hq, -⟩; cases hq)]
    exact implDec_8_A w A c b F h hm t pv r1 r2 r3 b1 b2 b3 hk ht hp pg r4 b4 h4 (.inl hbad)
  have hb0 : b4 = false := by simpa using hbad
  by_cases hf0 : recFault ⟨8, t, pv, pg, 0, ⟨false, []⟩, ⟨false, []⟩, 0, 0, [], [], r4⟩ = 0
  case neg =>
    rw [show decR _ _ _ = ⟨false, zeroRecD⟩ from if_neg (by rintro ⟨-, hq, -⟩; exact hf0 hq)]
    exact implDec_8_A w A c b F h hm t pv r1 r2 r3 b1 b2 b3 hk ht hp pg r4 b4 h4 (.inr ⟨hb0, hf0⟩)
  refine implDec_8_B w A c b F h hm t pv r1 r2 r3 b1 b2 b3 hk ht hp pg r4 b4 h4 hb0 hf0 _ ?_
  by_cases hqe : encRec ⟨8, t, pv, pg, 0, ⟨false, []⟩, ⟨false, []⟩, 0, 0, [], [], r4⟩ = b
  · exact .inr ⟨hqe, if_pos ⟨hb0, hf0, hqe⟩⟩
  · exact .inl ⟨hqe, if_neg (by rintro ⟨-, -, hq⟩; exact hqe hq)⟩
end Go.Proofs.YtghgjddiheebeaaDoor
