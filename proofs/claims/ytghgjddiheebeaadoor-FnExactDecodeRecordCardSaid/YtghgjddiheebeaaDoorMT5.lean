/- DecodeRecord, the specification's: an Update. -/
import Derived.Test.YtghgjddiheebeaaDoorMT4
import Derived.Deep.RegionHeld3
import Derived.Deep.DeepCutAuto
import Derived.Deep.CutBlock
namespace Go.Proofs.YtghgjddiheebeaaDoor
open Go.RowKit
set_option linter.unusedSimpArgs false
set_option linter.unusedVariables false

set_option maxRecDepth 100000 in
set_option maxHeartbeats 8000000 in
theorem specDec_1_A (w : World) (A : Option Addr) (c : Nat) (b : List Int) (F : List Nat) (h : (Rep.int .u8).sl w A c b F) (hm : b.length ≤ 1048576) (t pv : Int)
    (hk : getNum (extB b 0 1) = 1) (ht : getNum (extB b 1 4) = t) (hp : getNum (extB b 5 8) = pv) (pg sl : Int) (o1 o2 : Nat) (xb ya : DPageRecord)
    (h4 : getNum (extB b 13 2) = pg) (h5 : getNum (extB b 15 2) = sl) (h6 : spSlot b 17 = (xb, o1)) (h7 : spSlot b o1 = (ya, o2)) (hf0 : recFault ⟨1, t, pv, pg, sl, xb, ya, 0, 0, [], [], []⟩ ≠ 0) :
    Calls Tryd.prog 45 #[.slice A b.length c] w (NewPost Rep.RecordResult ⟨false, zeroRecD⟩ w) := by
  have hby : isByte b := fun z hz => Lib.byte_of_wf (sl_wf h z hz)
  have wk : (Lit.int .i64 1).wf = true := hk ▸ num_wf hby 0 1 (by decide)
  have wt : (Lit.int .i64 t).wf = true := ht ▸ num_wf hby 1 4 (by decide)
  have wp : (Lit.int .i64 pv).wf = true := hp ▸ num_wf hby 5 8 (by decide)
  have hu := Tryd.underlying49
  have hu2 := Tryd.underlying65
  have hu3 := Tryd.underlying129
  have HFL := Lib.hid (Rep.sl_lt h)
  have HB0 := Lib.hid h
  have HBY := Lib.hid hby
  have HK := Lib.hid hk; have HT := Lib.hid ht; have HP := Lib.hid hp
  have HSC := Lib.hid (show SR (w.heap.size + 1) F b 0 ((w.alloc (.cells res0 65)).alloc (.cells #[.slice A b.length c, .int .i64 0] 129)) from
    ⟨⟨A, c, heap_at _ _ (by simp), Rep.sl_ext h ((alloc_ext _ _).ext (alloc_ext _ _))⟩, fun hq => absurd (Rep.sl_lt h _ hq) (by omega)⟩)
  have HRB := Lib.hid ((alloc_ext (w.alloc (.cells res0 65)) (.cells #[.slice A b.length c, .int .i64 0] 129)).heap (heap_alloc_new w (.cells res0 65)) (by simp))
  have HX0 := Lib.hid ((alloc_ext w (.cells res0 65)).ext (alloc_ext _ (.cells #[.slice A b.length c, .int .i64 0] 129)))
  have hz0 : ((w.alloc (.cells res0 65)).alloc (.cells #[.slice A b.length c, .int .i64 0] 129)).heap.size = w.heap.size + 2 := by simp
  have HZ0 := Lib.hid hz0
  clear h hk ht hp hz0
  have wpg : (Lit.int .i64 pg).wf = true := h4 ▸ num_wf hby 13 2 (by decide)
  have wsl : (Lit.int .i64 sl).wf = true := h5 ▸ num_wf hby 15 2 (by decide)
  have l6 := spSlot_le hby 17
  rw [h6] at l6
  dsimp only at l6
  have H4 := Lib.hid h4; have H5 := Lib.hid h5; have H6 := Lib.hid h6; have H7 := Lib.hid h7
  clear h4 h5 h6 h7
  go_enter Tryd.func45, Tryd.ntmps45
  go_wp2_with (first
    | (go_at_call 101; refine (HS2.out.num 8 _ rfl (by decide) (by decide) (by decide) hm).mono ?_; rintro e w3 ⟨rfl, h1, hO⟩; rw [HP.out]; have HS3 := Lib.hid h1; have HO3 := Lib.hid (HO2.out.trans hO); clear h1 hO; refine Hid.out ?_)
    | (go_at_call 101; refine (HS1.out.num 4 _ rfl (by decide) (by decide) (by decide) hm).mono ?_; rintro e w2 ⟨rfl, h1, hO⟩; rw [HT.out]; have HS2 := Lib.hid h1; have HO2 := Lib.hid (HO1.out.trans hO); clear h1 hO)
    | (go_at_call 101; refine (HSC.out.num 1 _ rfl (by decide) (by decide) (by decide) hm).mono ?_; rintro e w1 ⟨rfl, h1, hO⟩; rw [HK.out]; have HS1 := Lib.hid h1; have HO1 := Lib.hid hO; clear h1 hO))
  refine Lib.hid ?_
  have hw3 : w.heap.size + 2 ≤ w3.heap.size := by have h1 := HO3.out.size; have h2 := HZ0.out; omega
  have HG := Lib.hid (show Geo w (w.heap.size + 1) w.heap.size w3.heap.size (w3.heap.size + 1) F from ⟨by omega, by omega, by omega, by omega, HFL.out⟩)
  have HDS0 := Lib.hid (show DS (SR (w.heap.size + 1) F b 13) w w.heap.size w3.heap.size (w3.heap.size + 1) #[.int .i64 1, .int .i64 t, .int .i64 pv, .int .i64 0, .int .i64 0, .bool false, .slice none 0 0, .bool false, .slice none 0 0, .int .i64 0, .int .i64 0, .slice none 0 0, .slice none 0 0, .slice none 0 0] (w3.alloc (.cells #[.int .i64 1, .int .i64 t, .int .i64 pv, .int .i64 0, .int .i64 0, .bool false, .slice none 0 0, .bool false, .slice none 0 0, .int .i64 0, .int .i64 0, .slice none 0 0, .slice none 0 0, .slice none 0 0] 49)) from
    ⟨HS3.out.ext (alloc_ext _ _), (alloc_ext _ _).heap (HO3.out.heap HRB.out (by simp)) (by simp), heap_alloc_new _ _, (HX0.out.then_ HO3.out (fun g hg hl => by simp at hg; omega)).ext (alloc_ext _ _), by simp⟩)
  go_wp2_with (first
    | (go_at_call 102; refine (HDS3s.out.slotR HG.out (by omega) hm HBY.out _ _ H7.out).mono ?_; rintro e ww4 ⟨Aq4, cq4, Gq4, rfl, HSL4, HNI4, HDS4, HUP4⟩; have m := fun o => cell_of_row _ _ o _ _ _ HDS4.out.row; have f := fun o => frozen_of_row _ _ o _ _ HDS4.out.row; have HDS4s := Lib.hid (show DS (SR (w.heap.size + 1) F b o2) w w.heap.size w3.heap.size (w3.heap.size + 1) #[.int .i64 1, .int .i64 t, .int .i64 pv, .int .i64 pg, .int .i64 sl, .bool xb.Used, .slice Aq3 xb.Data.length cq3, .bool ya.Used, .slice Aq4 ya.Data.length cq4, .int .i64 0, .int .i64 0, .slice none 0 0, .slice none 0 0, .slice none 0 0] ((ww4.setCell ⟨w3.heap.size, 7, none⟩ (.bool ya.Used)).setCell ⟨w3.heap.size, 8, none⟩ (.slice Aq4 ya.Data.length cq4)) from DS.conv ((((HDS4.out).setR HG.out 7 (.bool ya.Used))).setR HG.out 8 (.slice Aq4 ya.Data.length cq4)) (by rfl)); have HUP4s := Lib.hid (show Up (w3.heap.size + 1) ww4 ((ww4.setCell ⟨w3.heap.size, 7, none⟩ (.bool ya.Used)).setCell ⟨w3.heap.size, 8, none⟩ (.slice Aq4 ya.Data.length cq4)) from (by repeat (first | with_reducible exact Up.refl _ _ | (with_reducible refine Up.trans ?_ (Up.set HG.out _ _ _))))); refine Hid.out ?_)
    | (go_at_call 102; refine (HDS2s.out.slotR HG.out (by omega) hm HBY.out _ _ H6.out).mono ?_; rintro e ww3 ⟨Aq3, cq3, Gq3, rfl, HSL3, HNI3, HDS3, HUP3⟩; have m := fun o => cell_of_row _ _ o _ _ _ HDS3.out.row; have f := fun o => frozen_of_row _ _ o _ _ HDS3.out.row; have HDS3s := Lib.hid (show DS (SR (w.heap.size + 1) F b o1) w w.heap.size w3.heap.size (w3.heap.size + 1) #[.int .i64 1, .int .i64 t, .int .i64 pv, .int .i64 pg, .int .i64 sl, .bool xb.Used, .slice Aq3 xb.Data.length cq3, .bool false, .slice none 0 0, .int .i64 0, .int .i64 0, .slice none 0 0, .slice none 0 0, .slice none 0 0] ((ww3.setCell ⟨w3.heap.size, 5, none⟩ (.bool xb.Used)).setCell ⟨w3.heap.size, 6, none⟩ (.slice Aq3 xb.Data.length cq3)) from DS.conv ((((HDS3.out).setR HG.out 5 (.bool xb.Used))).setR HG.out 6 (.slice Aq3 xb.Data.length cq3)) (by rfl)); have HUP3s := Lib.hid (show Up (w3.heap.size + 1) ww3 ((ww3.setCell ⟨w3.heap.size, 5, none⟩ (.bool xb.Used)).setCell ⟨w3.heap.size, 6, none⟩ (.slice Aq3 xb.Data.length cq3)) from (by repeat (first | with_reducible exact Up.refl _ _ | (with_reducible refine Up.trans ?_ (Up.set HG.out _ _ _))))))
    | (go_at_call 101; refine (HDS1s.out.numR HG.out 2 _ rfl (by decide) (by decide) (by omega) hm _ 17 H5.out (by omega)).mono ?_; rintro e ww2 ⟨rfl, HDS2, HUP2⟩; have m := fun o => cell_of_row _ _ o _ _ _ HDS2.out.row; have f := fun o => frozen_of_row _ _ o _ _ HDS2.out.row; have HDS2s := Lib.hid (show DS (SR (w.heap.size + 1) F b 17) w w.heap.size w3.heap.size (w3.heap.size + 1) #[.int .i64 1, .int .i64 t, .int .i64 pv, .int .i64 pg, .int .i64 sl, .bool false, .slice none 0 0, .bool false, .slice none 0 0, .int .i64 0, .int .i64 0, .slice none 0 0, .slice none 0 0, .slice none 0 0] (ww2.setCell ⟨w3.heap.size, 4, none⟩ (.int .i64 sl)) from DS.conv ((HDS2.out).setR HG.out 4 (.int .i64 sl)) (by rfl)); have HUP2s := Lib.hid (show Up (w3.heap.size + 1) ww2 (ww2.setCell ⟨w3.heap.size, 4, none⟩ (.int .i64 sl)) from (by repeat (first | with_reducible exact Up.refl _ _ | (with_reducible refine Up.trans ?_ (Up.set HG.out _ _ _))))))
    | (go_at_call 101; refine (HDS0.out.numR HG.out 2 _ rfl (by decide) (by decide) (by omega) hm _ 15 H4.out (by omega)).mono ?_; rintro e ww1 ⟨rfl, HDS1, HUP1⟩; have m := fun o => cell_of_row _ _ o _ _ _ HDS1.out.row; have f := fun o => frozen_of_row _ _ o _ _ HDS1.out.row; have HDS1s := Lib.hid (show DS (SR (w.heap.size + 1) F b 15) w w.heap.size w3.heap.size (w3.heap.size + 1) #[.int .i64 1, .int .i64 t, .int .i64 pv, .int .i64 pg, .int .i64 0, .bool false, .slice none 0 0, .bool false, .slice none 0 0, .int .i64 0, .int .i64 0, .slice none 0 0, .slice none 0 0, .slice none 0 0] (ww1.setCell ⟨w3.heap.size, 3, none⟩ (.int .i64 pg)) from DS.conv ((HDS1.out).setR HG.out 3 (.int .i64 pg)) (by rfl)); have HUP1s := Lib.hid (show Up (w3.heap.size + 1) ww1 (ww1.setCell ⟨w3.heap.size, 3, none⟩ (.int .i64 pg)) from (by repeat (first | with_reducible exact Up.refl _ _ | (with_reducible refine Up.trans ?_ (Up.set HG.out _ _ _)))))))
  refine Lib.hid ?_
  have HSA3 := Lib.hid (Up.sl (Up.trans (Up.trans HUP3s.out HUP4.out) HUP4s.out) HSL3.out (HNI3.out.mono HDS2s.out.le)); have HNA3 := Lib.hid (Up.newIn (Up.trans (Up.trans HUP3s.out HUP4.out) HUP4s.out) (Nat.le_refl _) (HNI3.out.mono HDS2s.out.le))
  have HSA4 := Lib.hid (Up.sl HUP4s.out HSL4.out (HNI4.out.mono HDS3s.out.le)); have HNA4 := Lib.hid (Up.newIn HUP4s.out (Nat.le_refl _) (HNI4.out.mono HDS3s.out.le))
  have HNJ := Lib.hid (show NewIn (w3.heap.size + 1) ((ww4.setCell ⟨w3.heap.size, 7, none⟩ (.bool ya.Used)).setCell ⟨w3.heap.size, 8, none⟩ (.slice Aq4 ya.Data.length cq4)) (Gq3 ++ Gq4 ++ [] ++ [] ++ []) by simpa using NewIn.join HNA3.out (HUP4s.out.newIn HDS3s.out.le HNI4.out) HDS3s.out.le (fun g hg => Nat.lt_of_lt_of_le (HNI3.out.lt g hg) HUP3s.out.size))
  have HV := Lib.hid (show Rep.LogRecord.V ((ww4.setCell ⟨w3.heap.size, 7, none⟩ (.bool ya.Used)).setCell ⟨w3.heap.size, 8, none⟩ (.slice Aq4 ya.Data.length cq4)) (.agg #[.int .i64 1, .int .i64 t, .int .i64 pv, .int .i64 pg, .int .i64 sl, .bool xb.Used, .slice Aq3 xb.Data.length cq3, .bool ya.Used, .slice Aq4 ya.Data.length cq4, .int .i64 0, .int .i64 0, .slice none 0 0, .slice none 0 0, .slice none 0 0]) ⟨1, t, pv, pg, sl, xb, ya, 0, 0, [], [], []⟩ (Gq3 ++ Gq4 ++ [] ++ [] ++ []) from ⟨_, ⟨Aq3, cq3, Gq3, Aq4, cq4, Gq4, none, 0, [], none, 0, [], none, 0, [], rfl, rfl, ⟨rfl, wt, wp, wpg, wsl, rfl, rfl⟩, HSA3.out, HSA4.out, sl0 _ _, sl0 _ _, sl0 _ _⟩, rfl⟩)
  obtain ⟨fz, hfz⟩ : ∃ f, f = recFault ⟨1, t, pv, pg, sl, xb, ya, 0, 0, [], [], []⟩ := ⟨_, rfl⟩
  have HRF : Hid (∀ W, Ext ((ww4.setCell ⟨w3.heap.size, 7, none⟩ (.bool ya.Used)).setCell ⟨w3.heap.size, 8, none⟩ (.slice Aq4 ya.Data.length cq4)) W → Calls Tryd.prog 27 #[.agg #[.int .i64 1, .int .i64 t, .int .i64 pv, .int .i64 pg, .int .i64 sl, .bool xb.Used, .slice Aq3 xb.Data.length cq3, .bool ya.Used, .slice Aq4 ya.Data.length cq4, .int .i64 0, .int .i64 0, .slice none 0 0, .slice none 0 0, .slice none 0 0]] W fun e w' => e = .returned (.int .i64 fz) ∧ Ext W w') := Lib.hid fun W hW => by rw [hfz]; exact specRecordFault_calls W _ ⟨1, t, pv, pg, sl, xb, ya, 0, 0, [], [], []⟩ _ (V_ext HV.out hW)
  rw [← hfz] at hf0
  clear hfz
  have hk1 : (fz != 0) = true := bne_iff_ne.2 hf0
  have m := fun o => cell_of_row _ _ o _ _ _ HDS4s.out.row
  have f := fun o => frozen_of_row _ _ o _ _ HDS4s.out.row
  have mr := fun o => cell_of_row _ _ o _ _ _ HDS4s.out.res
  unfold res0 at mr
  have fr := fun o => frozen_of_row _ _ o _ _ HDS4s.out.res
  go_wp2_with (go_at_call 27; refine (HRF.out _ (Only.refl _ _)).mono ?_; rintro e wf ⟨rfl, hE⟩; have HDF := Lib.hid (HDS4s.out.moreR hE); have HEF := Lib.hid hE; clear m f mr fr; have m := fun o => cell_of_row _ _ o _ _ _ HDF.out.row; have f := fun o => frozen_of_row _ _ o _ _ HDF.out.row; have mr := fun o => cell_of_row _ _ o _ _ _ HDF.out.res; unfold res0 at mr; have fr := fun o => frozen_of_row _ _ o _ _ HDF.out.res; clear hE)
  refine bodyPost_ret (v := .agg res0) (by simp [results, Tryd.results45, go_sem, mr, res0]) rfl ?_
  exact decRes_zero (by repeat (first | with_reducible exact HDF.out.ext | ((with_reducible apply Only.set); · exact fun hq => absurd hq (by dsimp only; omega))))
set_option maxRecDepth 100000 in
set_option maxHeartbeats 8000000 in
theorem specDec_1_B (w : World) (A : Option Addr) (c : Nat) (b : List Int) (F : List Nat) (h : (Rep.int .u8).sl w A c b F) (hm : b.length ≤ 1048576) (t pv : Int)
    (hk : getNum (extB b 0 1) = 1) (ht : getNum (extB b 1 4) = t) (hp : getNum (extB b 5 8) = pv) (pg sl : Int) (o1 o2 : Nat) (xb ya : DPageRecord)
    (h4 : getNum (extB b 13 2) = pg) (h5 : getNum (extB b 15 2) = sl) (h6 : spSlot b 17 = (xb, o1)) (h7 : spSlot b o1 = (ya, o2)) (hf0 : recFault ⟨1, t, pv, pg, sl, xb, ya, 0, 0, [], [], []⟩ = 0) (R : DRecordResult) (hR : encRec ⟨1, t, pv, pg, sl, xb, ya, 0, 0, [], [], []⟩ ≠ b ∧ R = ⟨false, zeroRecD⟩ ∨ encRec ⟨1, t, pv, pg, sl, xb, ya, 0, 0, [], [], []⟩ = b ∧ R = ⟨true, ⟨1, t, pv, pg, sl, xb, ya, 0, 0, [], [], []⟩⟩) :
    Calls Tryd.prog 45 #[.slice A b.length c] w (NewPost Rep.RecordResult R w) := by
  have HR := Lib.hid hR
  clear hR
  have hby : isByte b := fun z hz => Lib.byte_of_wf (sl_wf h z hz)
  have wk : (Lit.int .i64 1).wf = true := hk ▸ num_wf hby 0 1 (by decide)
  have wt : (Lit.int .i64 t).wf = true := ht ▸ num_wf hby 1 4 (by decide)
  have wp : (Lit.int .i64 pv).wf = true := hp ▸ num_wf hby 5 8 (by decide)
  have hu := Tryd.underlying49
  have hu2 := Tryd.underlying65
  have hu3 := Tryd.underlying129
  have HFL := Lib.hid (Rep.sl_lt h)
  have HB0 := Lib.hid h
  have HBY := Lib.hid hby
  have HK := Lib.hid hk; have HT := Lib.hid ht; have HP := Lib.hid hp
  have HSC := Lib.hid (show SR (w.heap.size + 1) F b 0 ((w.alloc (.cells res0 65)).alloc (.cells #[.slice A b.length c, .int .i64 0] 129)) from
    ⟨⟨A, c, heap_at _ _ (by simp), Rep.sl_ext h ((alloc_ext _ _).ext (alloc_ext _ _))⟩, fun hq => absurd (Rep.sl_lt h _ hq) (by omega)⟩)
  have HRB := Lib.hid ((alloc_ext (w.alloc (.cells res0 65)) (.cells #[.slice A b.length c, .int .i64 0] 129)).heap (heap_alloc_new w (.cells res0 65)) (by simp))
  have HX0 := Lib.hid ((alloc_ext w (.cells res0 65)).ext (alloc_ext _ (.cells #[.slice A b.length c, .int .i64 0] 129)))
  have hz0 : ((w.alloc (.cells res0 65)).alloc (.cells #[.slice A b.length c, .int .i64 0] 129)).heap.size = w.heap.size + 2 := by simp
  have HZ0 := Lib.hid hz0
  clear h hk ht hp hz0
  have wpg : (Lit.int .i64 pg).wf = true := h4 ▸ num_wf hby 13 2 (by decide)
  have wsl : (Lit.int .i64 sl).wf = true := h5 ▸ num_wf hby 15 2 (by decide)
  have l6 := spSlot_le hby 17
  rw [h6] at l6
  dsimp only at l6
  have H4 := Lib.hid h4; have H5 := Lib.hid h5; have H6 := Lib.hid h6; have H7 := Lib.hid h7
  clear h4 h5 h6 h7
  go_enter Tryd.func45, Tryd.ntmps45
  go_wp2_with (first
    | (go_at_call 101; refine (HS2.out.num 8 _ rfl (by decide) (by decide) (by decide) hm).mono ?_; rintro e w3 ⟨rfl, h1, hO⟩; rw [HP.out]; have HS3 := Lib.hid h1; have HO3 := Lib.hid (HO2.out.trans hO); clear h1 hO; refine Hid.out ?_)
    | (go_at_call 101; refine (HS1.out.num 4 _ rfl (by decide) (by decide) (by decide) hm).mono ?_; rintro e w2 ⟨rfl, h1, hO⟩; rw [HT.out]; have HS2 := Lib.hid h1; have HO2 := Lib.hid (HO1.out.trans hO); clear h1 hO)
    | (go_at_call 101; refine (HSC.out.num 1 _ rfl (by decide) (by decide) (by decide) hm).mono ?_; rintro e w1 ⟨rfl, h1, hO⟩; rw [HK.out]; have HS1 := Lib.hid h1; have HO1 := Lib.hid hO; clear h1 hO))
  refine Lib.hid ?_
  have hw3 : w.heap.size + 2 ≤ w3.heap.size := by have h1 := HO3.out.size; have h2 := HZ0.out; omega
  have HG := Lib.hid (show Geo w (w.heap.size + 1) w.heap.size w3.heap.size (w3.heap.size + 1) F from ⟨by omega, by omega, by omega, by omega, HFL.out⟩)
  have HDS0 := Lib.hid (show DS (SR (w.heap.size + 1) F b 13) w w.heap.size w3.heap.size (w3.heap.size + 1) #[.int .i64 1, .int .i64 t, .int .i64 pv, .int .i64 0, .int .i64 0, .bool false, .slice none 0 0, .bool false, .slice none 0 0, .int .i64 0, .int .i64 0, .slice none 0 0, .slice none 0 0, .slice none 0 0] (w3.alloc (.cells #[.int .i64 1, .int .i64 t, .int .i64 pv, .int .i64 0, .int .i64 0, .bool false, .slice none 0 0, .bool false, .slice none 0 0, .int .i64 0, .int .i64 0, .slice none 0 0, .slice none 0 0, .slice none 0 0] 49)) from
    ⟨HS3.out.ext (alloc_ext _ _), (alloc_ext _ _).heap (HO3.out.heap HRB.out (by simp)) (by simp), heap_alloc_new _ _, (HX0.out.then_ HO3.out (fun g hg hl => by simp at hg; omega)).ext (alloc_ext _ _), by simp⟩)
  go_wp2_with (first
    | (go_at_call 102; refine (HDS3s.out.slotR HG.out (by omega) hm HBY.out _ _ H7.out).mono ?_; rintro e ww4 ⟨Aq4, cq4, Gq4, rfl, HSL4, HNI4, HDS4, HUP4⟩; have m := fun o => cell_of_row _ _ o _ _ _ HDS4.out.row; have f := fun o => frozen_of_row _ _ o _ _ HDS4.out.row; have HDS4s := Lib.hid (show DS (SR (w.heap.size + 1) F b o2) w w.heap.size w3.heap.size (w3.heap.size + 1) #[.int .i64 1, .int .i64 t, .int .i64 pv, .int .i64 pg, .int .i64 sl, .bool xb.Used, .slice Aq3 xb.Data.length cq3, .bool ya.Used, .slice Aq4 ya.Data.length cq4, .int .i64 0, .int .i64 0, .slice none 0 0, .slice none 0 0, .slice none 0 0] ((ww4.setCell ⟨w3.heap.size, 7, none⟩ (.bool ya.Used)).setCell ⟨w3.heap.size, 8, none⟩ (.slice Aq4 ya.Data.length cq4)) from DS.conv ((((HDS4.out).setR HG.out 7 (.bool ya.Used))).setR HG.out 8 (.slice Aq4 ya.Data.length cq4)) (by rfl)); have HUP4s := Lib.hid (show Up (w3.heap.size + 1) ww4 ((ww4.setCell ⟨w3.heap.size, 7, none⟩ (.bool ya.Used)).setCell ⟨w3.heap.size, 8, none⟩ (.slice Aq4 ya.Data.length cq4)) from (by repeat (first | with_reducible exact Up.refl _ _ | (with_reducible refine Up.trans ?_ (Up.set HG.out _ _ _))))); refine Hid.out ?_)
    | (go_at_call 102; refine (HDS2s.out.slotR HG.out (by omega) hm HBY.out _ _ H6.out).mono ?_; rintro e ww3 ⟨Aq3, cq3, Gq3, rfl, HSL3, HNI3, HDS3, HUP3⟩; have m := fun o => cell_of_row _ _ o _ _ _ HDS3.out.row; have f := fun o => frozen_of_row _ _ o _ _ HDS3.out.row; have HDS3s := Lib.hid (show DS (SR (w.heap.size + 1) F b o1) w w.heap.size w3.heap.size (w3.heap.size + 1) #[.int .i64 1, .int .i64 t, .int .i64 pv, .int .i64 pg, .int .i64 sl, .bool xb.Used, .slice Aq3 xb.Data.length cq3, .bool false, .slice none 0 0, .int .i64 0, .int .i64 0, .slice none 0 0, .slice none 0 0, .slice none 0 0] ((ww3.setCell ⟨w3.heap.size, 5, none⟩ (.bool xb.Used)).setCell ⟨w3.heap.size, 6, none⟩ (.slice Aq3 xb.Data.length cq3)) from DS.conv ((((HDS3.out).setR HG.out 5 (.bool xb.Used))).setR HG.out 6 (.slice Aq3 xb.Data.length cq3)) (by rfl)); have HUP3s := Lib.hid (show Up (w3.heap.size + 1) ww3 ((ww3.setCell ⟨w3.heap.size, 5, none⟩ (.bool xb.Used)).setCell ⟨w3.heap.size, 6, none⟩ (.slice Aq3 xb.Data.length cq3)) from (by repeat (first | with_reducible exact Up.refl _ _ | (with_reducible refine Up.trans ?_ (Up.set HG.out _ _ _))))))
    | (go_at_call 101; refine (HDS1s.out.numR HG.out 2 _ rfl (by decide) (by decide) (by omega) hm _ 17 H5.out (by omega)).mono ?_; rintro e ww2 ⟨rfl, HDS2, HUP2⟩; have m := fun o => cell_of_row _ _ o _ _ _ HDS2.out.row; have f := fun o => frozen_of_row _ _ o _ _ HDS2.out.row; have HDS2s := Lib.hid (show DS (SR (w.heap.size + 1) F b 17) w w.heap.size w3.heap.size (w3.heap.size + 1) #[.int .i64 1, .int .i64 t, .int .i64 pv, .int .i64 pg, .int .i64 sl, .bool false, .slice none 0 0, .bool false, .slice none 0 0, .int .i64 0, .int .i64 0, .slice none 0 0, .slice none 0 0, .slice none 0 0] (ww2.setCell ⟨w3.heap.size, 4, none⟩ (.int .i64 sl)) from DS.conv ((HDS2.out).setR HG.out 4 (.int .i64 sl)) (by rfl)); have HUP2s := Lib.hid (show Up (w3.heap.size + 1) ww2 (ww2.setCell ⟨w3.heap.size, 4, none⟩ (.int .i64 sl)) from (by repeat (first | with_reducible exact Up.refl _ _ | (with_reducible refine Up.trans ?_ (Up.set HG.out _ _ _))))))
    | (go_at_call 101; refine (HDS0.out.numR HG.out 2 _ rfl (by decide) (by decide) (by omega) hm _ 15 H4.out (by omega)).mono ?_; rintro e ww1 ⟨rfl, HDS1, HUP1⟩; have m := fun o => cell_of_row _ _ o _ _ _ HDS1.out.row; have f := fun o => frozen_of_row _ _ o _ _ HDS1.out.row; have HDS1s := Lib.hid (show DS (SR (w.heap.size + 1) F b 15) w w.heap.size w3.heap.size (w3.heap.size + 1) #[.int .i64 1, .int .i64 t, .int .i64 pv, .int .i64 pg, .int .i64 0, .bool false, .slice none 0 0, .bool false, .slice none 0 0, .int .i64 0, .int .i64 0, .slice none 0 0, .slice none 0 0, .slice none 0 0] (ww1.setCell ⟨w3.heap.size, 3, none⟩ (.int .i64 pg)) from DS.conv ((HDS1.out).setR HG.out 3 (.int .i64 pg)) (by rfl)); have HUP1s := Lib.hid (show Up (w3.heap.size + 1) ww1 (ww1.setCell ⟨w3.heap.size, 3, none⟩ (.int .i64 pg)) from (by repeat (first | with_reducible exact Up.refl _ _ | (with_reducible refine Up.trans ?_ (Up.set HG.out _ _ _)))))))
  refine Lib.hid ?_
  have HSA3 := Lib.hid (Up.sl (Up.trans (Up.trans HUP3s.out HUP4.out) HUP4s.out) HSL3.out (HNI3.out.mono HDS2s.out.le)); have HNA3 := Lib.hid (Up.newIn (Up.trans (Up.trans HUP3s.out HUP4.out) HUP4s.out) (Nat.le_refl _) (HNI3.out.mono HDS2s.out.le))
  have HSA4 := Lib.hid (Up.sl HUP4s.out HSL4.out (HNI4.out.mono HDS3s.out.le)); have HNA4 := Lib.hid (Up.newIn HUP4s.out (Nat.le_refl _) (HNI4.out.mono HDS3s.out.le))
  have HNJ := Lib.hid (show NewIn (w3.heap.size + 1) ((ww4.setCell ⟨w3.heap.size, 7, none⟩ (.bool ya.Used)).setCell ⟨w3.heap.size, 8, none⟩ (.slice Aq4 ya.Data.length cq4)) (Gq3 ++ Gq4 ++ [] ++ [] ++ []) by simpa using NewIn.join HNA3.out (HUP4s.out.newIn HDS3s.out.le HNI4.out) HDS3s.out.le (fun g hg => Nat.lt_of_lt_of_le (HNI3.out.lt g hg) HUP3s.out.size))
  have HV := Lib.hid (show Rep.LogRecord.V ((ww4.setCell ⟨w3.heap.size, 7, none⟩ (.bool ya.Used)).setCell ⟨w3.heap.size, 8, none⟩ (.slice Aq4 ya.Data.length cq4)) (.agg #[.int .i64 1, .int .i64 t, .int .i64 pv, .int .i64 pg, .int .i64 sl, .bool xb.Used, .slice Aq3 xb.Data.length cq3, .bool ya.Used, .slice Aq4 ya.Data.length cq4, .int .i64 0, .int .i64 0, .slice none 0 0, .slice none 0 0, .slice none 0 0]) ⟨1, t, pv, pg, sl, xb, ya, 0, 0, [], [], []⟩ (Gq3 ++ Gq4 ++ [] ++ [] ++ []) from ⟨_, ⟨Aq3, cq3, Gq3, Aq4, cq4, Gq4, none, 0, [], none, 0, [], none, 0, [], rfl, rfl, ⟨rfl, wt, wp, wpg, wsl, rfl, rfl⟩, HSA3.out, HSA4.out, sl0 _ _, sl0 _ _, sl0 _ _⟩, rfl⟩)
  obtain ⟨fz, hfz⟩ : ∃ f, f = recFault ⟨1, t, pv, pg, sl, xb, ya, 0, 0, [], [], []⟩ := ⟨_, rfl⟩
  have HRF : Hid (∀ W, Ext ((ww4.setCell ⟨w3.heap.size, 7, none⟩ (.bool ya.Used)).setCell ⟨w3.heap.size, 8, none⟩ (.slice Aq4 ya.Data.length cq4)) W → Calls Tryd.prog 27 #[.agg #[.int .i64 1, .int .i64 t, .int .i64 pv, .int .i64 pg, .int .i64 sl, .bool xb.Used, .slice Aq3 xb.Data.length cq3, .bool ya.Used, .slice Aq4 ya.Data.length cq4, .int .i64 0, .int .i64 0, .slice none 0 0, .slice none 0 0, .slice none 0 0]] W fun e w' => e = .returned (.int .i64 fz) ∧ Ext W w') := Lib.hid fun W hW => by rw [hfz]; exact specRecordFault_calls W _ ⟨1, t, pv, pg, sl, xb, ya, 0, 0, [], [], []⟩ _ (V_ext HV.out hW)
  rw [← hfz] at hf0
  clear hfz
  have HEN : Hid (∀ W, Ext ((ww4.setCell ⟨w3.heap.size, 7, none⟩ (.bool ya.Used)).setCell ⟨w3.heap.size, 8, none⟩ (.slice Aq4 ya.Data.length cq4)) W → Calls Tryd.prog 37 #[.agg #[.int .i64 1, .int .i64 t, .int .i64 pv, .int .i64 pg, .int .i64 sl, .bool xb.Used, .slice Aq3 xb.Data.length cq3, .bool ya.Used, .slice Aq4 ya.Data.length cq4, .int .i64 0, .int .i64 0, .slice none 0 0, .slice none 0 0, .slice none 0 0]] W (NewPost (Rep.int .u8).slice (encRec ⟨1, t, pv, pg, sl, xb, ya, 0, 0, [], [], []⟩) W)) := Lib.hid fun W hW => specEncode_new W _ ⟨1, t, pv, pg, sl, xb, ya, 0, 0, [], [], []⟩ _ (V_ext HV.out hW)
  subst hf0
  obtain ⟨L, hL⟩ : ∃ l, l = encRec ⟨1, t, pv, pg, sl, xb, ya, 0, 0, [], [], []⟩ := ⟨_, rfl⟩
  have hLb := encRec_len ⟨1, t, pv, pg, sl, xb, ya, 0, 0, [], [], []⟩
  have hR := HR.out
  rw [← hL] at HEN hLb hR
  obtain ⟨q, hq⟩ : ∃ q, q = decide (L = b) := ⟨_, rfl⟩
  have HEQ : Hid (∀ W A' c' F', (Rep.int .u8).sl W A' c' L F' → (Rep.int .u8).sl W A c b F → Calls Tryd.prog 104 #[.slice A' L.length c', .slice A b.length c] W fun e w' => e = .returned (.bool q) ∧ Ext W w') := Lib.hid fun W A' c' F' h1 h2 => by rw [hq]; exact l1Same_calls W A' c' L F' A c b F h1 h2
  clear HR hL
  rcases hR with ⟨hqe, rfl⟩ | ⟨hqe, rfl⟩
  · obtain rfl : q = false := hq.trans (decide_eq_false hqe)
    clear hqe hq
    have m := fun o => cell_of_row _ _ o _ _ _ HDS4s.out.row
    have f := fun o => frozen_of_row _ _ o _ _ HDS4s.out.row
    have mr := fun o => cell_of_row _ _ o _ _ _ HDS4s.out.res
    unfold res0 at mr
    have fr := fun o => frozen_of_row _ _ o _ _ HDS4s.out.res
    go_wp2_with (first
      | (go_at_call 104; refine (HEQ.out _ _ _ _ HQG.out (Rep.sl_ext HB0.out HDG.out.ext)).mono ?_; rintro e wh ⟨rfl, hE⟩; have HDH := Lib.hid (HDG.out.moreR hE); have HEH := Lib.hid (HEG.out.ext hE); clear m f mr fr; have m := fun o => cell_of_row _ _ o _ _ _ HDH.out.row; have f := fun o => frozen_of_row _ _ o _ _ HDH.out.row; have mr := fun o => cell_of_row _ _ o _ _ _ HDH.out.res; unfold res0 at mr; have fr := fun o => frozen_of_row _ _ o _ _ HDH.out.res; clear hE)
      | (go_at_call 37; refine (HEN.out _ HEF.out).mono ?_; rintro e wg ⟨vg, Gg, rfl, hVg, hNg⟩; obtain ⟨Ag, cg, rfl, qg⟩ := Rep.slice_V hVg; have HQG := Lib.hid qg; have HDG := Lib.hid (HDF.out.moreR hNg.ext); have HEG := Lib.hid (HEF.out.ext hNg.ext); clear hVg qg hNg)
      | (go_at_call 27; refine (HRF.out _ (Only.refl _ _)).mono ?_; rintro e wf ⟨rfl, hE⟩; have HDF := Lib.hid (HDS4s.out.moreR hE); have HEF := Lib.hid hE; clear m f mr fr; have m := fun o => cell_of_row _ _ o _ _ _ HDF.out.row; have f := fun o => frozen_of_row _ _ o _ _ HDF.out.row; have mr := fun o => cell_of_row _ _ o _ _ _ HDF.out.res; unfold res0 at mr; have fr := fun o => frozen_of_row _ _ o _ _ HDF.out.res; clear hE))
    refine bodyPost_ret (v := .agg res0) (by simp [results, Tryd.results45, go_sem, mr, res0]) rfl ?_
    exact decRes_zero (by repeat (first | with_reducible exact HDH.out.ext | ((with_reducible apply Only.set); · exact fun hq => absurd hq (by dsimp only; omega))))
  · obtain rfl : q = true := hq.trans (decide_eq_true hqe)
    clear hqe hq
    have m := fun o => cell_of_row _ _ o _ _ _ HDS4s.out.row
    have f := fun o => frozen_of_row _ _ o _ _ HDS4s.out.row
    have mr := fun o => cell_of_row _ _ o _ _ _ HDS4s.out.res
    unfold res0 at mr
    have fr := fun o => frozen_of_row _ _ o _ _ HDS4s.out.res
    go_wp2_with (first
      | (go_at_call 104; refine (HEQ.out _ _ _ _ HQG.out (Rep.sl_ext HB0.out HDG.out.ext)).mono ?_; rintro e wh ⟨rfl, hE⟩; have HDH := Lib.hid (HDG.out.moreR hE); have HEH := Lib.hid (HEG.out.ext hE); clear m f mr fr; have m := fun o => cell_of_row _ _ o _ _ _ HDH.out.row; have f := fun o => frozen_of_row _ _ o _ _ HDH.out.row; have mr := fun o => cell_of_row _ _ o _ _ _ HDH.out.res; unfold res0 at mr; have fr := fun o => frozen_of_row _ _ o _ _ HDH.out.res; clear hE)
      | (go_at_call 37; refine (HEN.out _ HEF.out).mono ?_; rintro e wg ⟨vg, Gg, rfl, hVg, hNg⟩; obtain ⟨Ag, cg, rfl, qg⟩ := Rep.slice_V hVg; have HQG := Lib.hid qg; have HDG := Lib.hid (HDF.out.moreR hNg.ext); have HEG := Lib.hid (HEF.out.ext hNg.ext); clear hVg qg hNg)
      | (go_at_call 27; refine (HRF.out _ (Only.refl _ _)).mono ?_; rintro e wf ⟨rfl, hE⟩; have HDF := Lib.hid (HDS4s.out.moreR hE); have HEF := Lib.hid hE; clear m f mr fr; have m := fun o => cell_of_row _ _ o _ _ _ HDF.out.row; have f := fun o => frozen_of_row _ _ o _ _ HDF.out.row; have mr := fun o => cell_of_row _ _ o _ _ _ HDF.out.res; unfold res0 at mr; have fr := fun o => frozen_of_row _ _ o _ _ HDF.out.res; clear hE))
    refine bodyPost_ret (v := .agg #[.bool true, .int .i64 1, .int .i64 t, .int .i64 pv, .int .i64 pg, .int .i64 sl, .bool xb.Used, .slice Aq3 xb.Data.length cq3, .bool ya.Used, .slice Aq4 ya.Data.length cq4, .int .i64 0, .int .i64 0, .slice none 0 0, .slice none 0 0, .slice none 0 0]) (by simp [results, Tryd.results45, go_sem, m, mr]) rfl ?_
    exact decRes_good (W := wh) (x := ⟨1, t, pv, pg, sl, xb, ya, 0, 0, [], [], []⟩) ⟨rfl, wt, wp, wpg, wsl, rfl, rfl⟩ (Rep.sl_ext HSA3.out HEH.out) (Rep.sl_ext HSA4.out HEH.out) (sl0 _ _) (sl0 _ _) (sl0 _ _) ((Up.only HEH.out (by simp)).newIn (Nat.le_refl _) HNJ.out) (by omega) (by repeat (first | with_reducible exact HDH.out.ext | ((with_reducible apply Only.set); · exact fun hq => absurd hq (by dsimp only; omega)))) (Up.only (H := [w.heap.size]) (by repeat (first | with_reducible exact Only.refl _ _ | ((with_reducible apply Only.set); · simp))) (by simp; omega))
theorem specDec_1 (w : World) (A : Option Addr) (c : Nat) (b : List Int) (F : List Nat) (h : (Rep.int .u8).sl w A c b F) (hm : b.length ≤ 1048576) (t pv : Int)
    (hk : getNum (extB b 0 1) = 1) (ht : getNum (extB b 1 4) = t) (hp : getNum (extB b 5 8) = pv) (pg sl : Int) (o1 o2 : Nat) (xb ya : DPageRecord)
    (h4 : getNum (extB b 13 2) = pg) (h5 : getNum (extB b 15 2) = sl) (h6 : spSlot b 17 = (xb, o1)) (h7 : spSlot b o1 = (ya, o2)) :
    Calls Tryd.prog 45 #[.slice A b.length c] w (NewPost Rep.RecordResult (decR ⟨1, t, pv, pg, sl, xb, ya, 0, 0, [], [], []⟩ false b) w) := by
  by_cases hf0 : recFault ⟨1, t, pv, pg, sl, xb, ya, 0, 0, [], [], []⟩ = 0
  case neg =>
    rw [show decR _ _ _ = ⟨false, zeroRecD⟩ from if_neg (by rintro ⟨-, hq, -⟩; exact hf0 hq)]
    exact specDec_1_A w A c b F h hm t pv hk ht hp pg sl o1 o2 xb ya h4 h5 h6 h7 hf0
  refine specDec_1_B w A c b F h hm t pv hk ht hp pg sl o1 o2 xb ya h4 h5 h6 h7 hf0 _ ?_
  by_cases hqe : encRec ⟨1, t, pv, pg, sl, xb, ya, 0, 0, [], [], []⟩ = b
  · exact .inr ⟨hqe, if_pos ⟨rfl, hf0, hqe⟩⟩
  · exact .inl ⟨hqe, if_neg (by rintro ⟨-, -, hq⟩; exact hqe hq)⟩
end Go.Proofs.YtghgjddiheebeaaDoor
