/- DecodeRecord, the specification's: an image. -/
import Derived.Test.YtghgjddiheebeaaDoorMT6
import Derived.Deep.RegionHeld3
import Derived.Deep.DeepCutAuto
import Derived.Deep.CutBlock
namespace Go.Proofs.YtghgjddiheebeaaDoor
open Go.RowKit
set_option linter.unusedSimpArgs false
set_option linter.unusedVariables false

theorem DS.takeR {w0 W : World} {sb rb rr n : Nat} {F : List Nat} {arr : Array Value} {b : List Int} {o : Nat} (h : DS (SR sb F b o) w0 rb rr n arr W) (g : Geo w0 sb rb rr n F) (k : Nat) (kz : Int) (hkz : kz = k) (hk : k ≤ 1048576) (ho : o ≤ 1073741824) (hm : b.length ≤ 1048576) (xs : List Int) (hx : extB b o k = xs) :
    Calls Tryd.prog 103 #[.pointer (some ⟨sb, 0, none⟩), .int .i64 kz] W fun e w' => ∃ A c G, e = .returned (.slice A xs.length c) ∧ Hid ((Rep.int .u8).sl w' A c xs G) ∧ Hid (NewIn W.heap.size w' G) ∧ Hid (DS (SR sb F b (o + k)) w0 rb rr n arr w') ∧ Hid (Up n W w') := by
  refine (l4Take_calls h.p k kz hkz hk ho hm).mono ?_
  rintro e w' ⟨x, rfl, hx1, hb, hS, hO⟩
  have hl : xs.length = k := by rw [← hx]; exact extB_len _ _ _
  rw [hx] at hb
  exact ⟨_, k, [x], by rw [hl], Lib.hid hb.sl, Lib.hid ⟨fun y hy => by simp at hy; omega, fun y hy => Rep.sl_lt hb.sl y hy, by simp, hb.un⟩, Lib.hid (h.only g hO hS), Lib.hid (h.up g hO)⟩

set_option maxRecDepth 100000 in
set_option maxHeartbeats 8000000 in
theorem specDec_8_A (w : World) (A : Option Addr) (c : Nat) (b : List Int) (F : List Nat) (h : (Rep.int .u8).sl w A c b F) (hm : b.length ≤ 1048576) (t pv : Int)
    (hk : getNum (extB b 0 1) = 8) (ht : getNum (extB b 1 4) = t) (hp : getNum (extB b 5 8) = pv) (pg : Int) (im : List Int)
    (h4 : getNum (extB b 13 2) = pg) (h5 : extB b 15 4096 = im) (hf0 : recFault ⟨8, t, pv, pg, 0, ⟨false, []⟩, ⟨false, []⟩, 0, 0, [], [], im⟩ ≠ 0) :
    Calls Tryd.prog 45 #[.slice A b.length c] w (NewPost Rep.RecordResult ⟨false, zeroRecD⟩ w) := by
  have hby : isByte b := fun z hz => Lib.byte_of_wf (sl_wf h z hz)
  have wk : (Lit.int .i64 8).wf = true := hk ▸ num_wf hby 0 1 (by decide)
  have wt : (Lit.int .i64 t).wf = true := ht ▸ num_wf hby 1 4 (by decide)
  have wp : (Lit.int .i64 pv).wf = true := hp ▸ num_wf hby 5 8 (by decide)
  have hu := Tryd.underlying49
  have hu2 := Tryd.underlying65
  have hu3 := Tryd.underlying129
  have HFL := Lib.hid (Rep.sl_lt h)
  have HB0 := Lib.hid h
  have HBY := Lib.hid hby
  have HK := Lib.hid hk; have HT := Lib.hid ht; have HP := Lib.hid hp
  have HSC := Lib.hid (show SR (w.heap.size + 1) F b 0 ((w.alloc (.cells res0 65)).alloc (.cells #[.slice A b.length c, .int .i64 0] 129)) from
    ⟨⟨A, c, heap_at _ _ (by simp), Rep.sl_ext h ((alloc_ext _ _).ext (alloc_ext _ _))⟩, fun hq => absurd (Rep.sl_lt h _ hq) (by omega)⟩)
  have HRB := Lib.hid ((alloc_ext (w.alloc (.cells res0 65)) (.cells #[.slice A b.length c, .int .i64 0] 129)).heap (heap_alloc_new w (.cells res0 65)) (by simp))
  have HX0 := Lib.hid ((alloc_ext w (.cells res0 65)).ext (alloc_ext _ (.cells #[.slice A b.length c, .int .i64 0] 129)))
  have hz0 : ((w.alloc (.cells res0 65)).alloc (.cells #[.slice A b.length c, .int .i64 0] 129)).heap.size = w.heap.size + 2 := by simp
  have HZ0 := Lib.hid hz0
  clear h hk ht hp hz0
  have wpg : (Lit.int .i64 pg).wf = true := h4 ▸ num_wf hby 13 2 (by decide)
  have H4 := Lib.hid h4; have H5 := Lib.hid h5
  clear h4 h5
  go_enter Tryd.func45, Tryd.ntmps45
  go_wp2_with (first
    | (go_at_call 101; refine (HS2.out.num 8 _ rfl (by decide) (by decide) (by decide) hm).mono ?_; rintro e w3 ⟨rfl, h1, hO⟩; rw [HP.out]; have HS3 := Lib.hid h1; have HO3 := Lib.hid (HO2.out.trans hO); clear h1 hO; refine Hid.out ?_)
    | (go_at_call 101; refine (HS1.out.num 4 _ rfl (by decide) (by decide) (by decide) hm).mono ?_; rintro e w2 ⟨rfl, h1, hO⟩; rw [HT.out]; have HS2 := Lib.hid h1; have HO2 := Lib.hid (HO1.out.trans hO); clear h1 hO)
    | (go_at_call 101; refine (HSC.out.num 1 _ rfl (by decide) (by decide) (by decide) hm).mono ?_; rintro e w1 ⟨rfl, h1, hO⟩; rw [HK.out]; have HS1 := Lib.hid h1; have HO1 := Lib.hid hO; clear h1 hO))
  refine Lib.hid ?_
  have hw3 : w.heap.size + 2 ≤ w3.heap.size := by have h1 := HO3.out.size; have h2 := HZ0.out; omega
  have HG := Lib.hid (show Geo w (w.heap.size + 1) w.heap.size w3.heap.size (w3.heap.size + 1) F from ⟨by omega, by omega, by omega, by omega, HFL.out⟩)
  have HDS0 := Lib.hid (show DS (SR (w.heap.size + 1) F b 13) w w.heap.size w3.heap.size (w3.heap.size + 1) #[.int .i64 8, .int .i64 t, .int .i64 pv, .int .i64 0, .int .i64 0, .bool false, .slice none 0 0, .bool false, .slice none 0 0, .int .i64 0, .int .i64 0, .slice none 0 0, .slice none 0 0, .slice none 0 0] (w3.alloc (.cells #[.int .i64 8, .int .i64 t, .int .i64 pv, .int .i64 0, .int .i64 0, .bool false, .slice none 0 0, .bool false, .slice none 0 0, .int .i64 0, .int .i64 0, .slice none 0 0, .slice none 0 0, .slice none 0 0] 49)) from
    ⟨HS3.out.ext (alloc_ext _ _), (alloc_ext _ _).heap (HO3.out.heap HRB.out (by simp)) (by simp), heap_alloc_new _ _, (HX0.out.then_ HO3.out (fun g hg hl => by simp at hg; omega)).ext (alloc_ext _ _), by simp⟩)
  go_wp2_with (first
    | (go_at_call 103; refine (HDS1s.out.takeR HG.out 4096 _ rfl (by decide) (by decide) hm im H5.out).mono ?_; rintro e ww2 ⟨Aq2, cq2, Gq2, rfl, HSL2, HNI2, HDS2, HUP2⟩; have m := fun o => cell_of_row _ _ o _ _ _ HDS2.out.row; have f := fun o => frozen_of_row _ _ o _ _ HDS2.out.row; have HDS2s := Lib.hid (show DS (SR (w.heap.size + 1) F b (15 + 4096)) w w.heap.size w3.heap.size (w3.heap.size + 1) #[.int .i64 8, .int .i64 t, .int .i64 pv, .int .i64 pg, .int .i64 0, .bool false, .slice none 0 0, .bool false, .slice none 0 0, .int .i64 0, .int .i64 0, .slice none 0 0, .slice none 0 0, .slice Aq2 im.length cq2] (ww2.setCell ⟨w3.heap.size, 13, none⟩ (.slice Aq2 im.length cq2)) from DS.conv ((HDS2.out).setR HG.out 13 (.slice Aq2 im.length cq2)) (by rfl)); have HUP2s := Lib.hid (show Up (w3.heap.size + 1) ww2 (ww2.setCell ⟨w3.heap.size, 13, none⟩ (.slice Aq2 im.length cq2)) from (by repeat (first | with_reducible exact Up.refl _ _ | (with_reducible refine Up.trans ?_ (Up.set HG.out _ _ _))))); refine Hid.out ?_)
    | (go_at_call 101; refine (HDS0.out.numR HG.out 2 _ rfl (by decide) (by decide) (by omega) hm _ 15 H4.out (by omega)).mono ?_; rintro e ww1 ⟨rfl, HDS1, HUP1⟩; have m := fun o => cell_of_row _ _ o _ _ _ HDS1.out.row; have f := fun o => frozen_of_row _ _ o _ _ HDS1.out.row; have HDS1s := Lib.hid (show DS (SR (w.heap.size + 1) F b 15) w w.heap.size w3.heap.size (w3.heap.size + 1) #[.int .i64 8, .int .i64 t, .int .i64 pv, .int .i64 pg, .int .i64 0, .bool false, .slice none 0 0, .bool false, .slice none 0 0, .int .i64 0, .int .i64 0, .slice none 0 0, .slice none 0 0, .slice none 0 0] (ww1.setCell ⟨w3.heap.size, 3, none⟩ (.int .i64 pg)) from DS.conv ((HDS1.out).setR HG.out 3 (.int .i64 pg)) (by rfl)); have HUP1s := Lib.hid (show Up (w3.heap.size + 1) ww1 (ww1.setCell ⟨w3.heap.size, 3, none⟩ (.int .i64 pg)) from (by repeat (first | with_reducible exact Up.refl _ _ | (with_reducible refine Up.trans ?_ (Up.set HG.out _ _ _)))))))
  refine Lib.hid ?_
  have HSA2 := Lib.hid (Up.sl HUP2s.out HSL2.out (HNI2.out.mono HDS1s.out.le)); have HNA2 := Lib.hid (Up.newIn HUP2s.out (Nat.le_refl _) (HNI2.out.mono HDS1s.out.le))
  have HNJ := Lib.hid (show NewIn (w3.heap.size + 1) (ww2.setCell ⟨w3.heap.size, 13, none⟩ (.slice Aq2 im.length cq2)) ([] ++ [] ++ [] ++ [] ++ Gq2) by simpa using HNA2.out)
  have HV := Lib.hid (show Rep.LogRecord.V (ww2.setCell ⟨w3.heap.size, 13, none⟩ (.slice Aq2 im.length cq2)) (.agg #[.int .i64 8, .int .i64 t, .int .i64 pv, .int .i64 pg, .int .i64 0, .bool false, .slice none 0 0, .bool false, .slice none 0 0, .int .i64 0, .int .i64 0, .slice none 0 0, .slice none 0 0, .slice Aq2 im.length cq2]) ⟨8, t, pv, pg, 0, ⟨false, []⟩, ⟨false, []⟩, 0, 0, [], [], im⟩ ([] ++ [] ++ [] ++ [] ++ Gq2) from ⟨_, ⟨none, 0, [], none, 0, [], none, 0, [], none, 0, [], Aq2, cq2, Gq2, rfl, rfl, ⟨rfl, wt, wp, wpg, rfl, rfl, rfl⟩, sl0 _ _, sl0 _ _, sl0 _ _, sl0 _ _, HSA2.out⟩, rfl⟩)
  obtain ⟨fz, hfz⟩ : ∃ f, f = recFault ⟨8, t, pv, pg, 0, ⟨false, []⟩, ⟨false, []⟩, 0, 0, [], [], im⟩ := ⟨_, rfl⟩
  have HRF : Hid (∀ W, Ext (ww2.setCell ⟨w3.heap.size, 13, none⟩ (.slice Aq2 im.length cq2)) W → Calls Tryd.prog 27 #[.agg #[.int .i64 8, .int .i64 t, .int .i64 pv, .int .i64 pg, .int .i64 0, .bool false, .slice none 0 0, .bool false, .slice none 0 0, .int .i64 0, .int .i64 0, .slice none 0 0, .slice none 0 0, .slice Aq2 im.length cq2]] W fun e w' => e = .returned (.int .i64 fz) ∧ Ext W w') := Lib.hid fun W hW => by rw [hfz]; exact specRecordFault_calls W _ ⟨8, t, pv, pg, 0, ⟨false, []⟩, ⟨false, []⟩, 0, 0, [], [], im⟩ _ (V_ext HV.out hW)
  rw [← hfz] at hf0
  clear hfz
  have hk1 : (fz != 0) = true := bne_iff_ne.2 hf0
  have m := fun o => cell_of_row _ _ o _ _ _ HDS2s.out.row
  have f := fun o => frozen_of_row _ _ o _ _ HDS2s.out.row
  have mr := fun o => cell_of_row _ _ o _ _ _ HDS2s.out.res
  unfold res0 at mr
  have fr := fun o => frozen_of_row _ _ o _ _ HDS2s.out.res
  go_wp2_with (go_at_call 27; refine (HRF.out _ (Only.refl _ _)).mono ?_; rintro e wf ⟨rfl, hE⟩; have HDF := Lib.hid (HDS2s.out.moreR hE); have HEF := Lib.hid hE; clear m f mr fr; have m := fun o => cell_of_row _ _ o _ _ _ HDF.out.row; have f := fun o => frozen_of_row _ _ o _ _ HDF.out.row; have mr := fun o => cell_of_row _ _ o _ _ _ HDF.out.res; unfold res0 at mr; have fr := fun o => frozen_of_row _ _ o _ _ HDF.out.res; clear hE)
  refine bodyPost_ret (v := .agg res0) (by simp [results, Tryd.results45, go_sem, mr, res0]) rfl ?_
  exact decRes_zero (by repeat (first | with_reducible exact HDF.out.ext | ((with_reducible apply Only.set); · exact fun hq => absurd hq (by dsimp only; omega))))
set_option maxRecDepth 100000 in
set_option maxHeartbeats 8000000 in
theorem specDec_8_B (w : World) (A : Option Addr) (c : Nat) (b : List Int) (F : List Nat) (h : (Rep.int .u8).sl w A c b F) (hm : b.length ≤ 1048576) (t pv : Int)
    (hk : getNum (extB b 0 1) = 8) (ht : getNum (extB b 1 4) = t) (hp : getNum (extB b 5 8) = pv) (pg : Int) (im : List Int)
    (h4 : getNum (extB b 13 2) = pg) (h5 : extB b 15 4096 = im) (hf0 : recFault ⟨8, t, pv, pg, 0, ⟨false, []⟩, ⟨false, []⟩, 0, 0, [], [], im⟩ = 0) (R : DRecordResult) (hR : encRec ⟨8, t, pv, pg, 0, ⟨false, []⟩, ⟨false, []⟩, 0, 0, [], [], im⟩ ≠ b ∧ R = ⟨false, zeroRecD⟩ ∨ encRec ⟨8, t, pv, pg, 0, ⟨false, []⟩, ⟨false, []⟩, 0, 0, [], [], im⟩ = b ∧ R = ⟨true, ⟨8, t, pv, pg, 0, ⟨false, []⟩, ⟨false, []⟩, 0, 0, [], [], im⟩⟩) :
    Calls Tryd.prog 45 #[.slice A b.length c] w (NewPost Rep.RecordResult R w) := by
  have HR := Lib.hid hR
  clear hR
  have hby : isByte b := fun z hz => Lib.byte_of_wf (sl_wf h z hz)
  have wk : (Lit.int .i64 8).wf = true := hk ▸ num_wf hby 0 1 (by decide)
  have wt : (Lit.int .i64 t).wf = true := ht ▸ num_wf hby 1 4 (by decide)
  have wp : (Lit.int .i64 pv).wf = true := hp ▸ num_wf hby 5 8 (by decide)
  have hu := Tryd.underlying49
  have hu2 := Tryd.underlying65
  have hu3 := Tryd.underlying129
  have HFL := Lib.hid (Rep.sl_lt h)
  have HB0 := Lib.hid h
  have HBY := Lib.hid hby
  have HK := Lib.hid hk; have HT := Lib.hid ht; have HP := Lib.hid hp
  have HSC := Lib.hid (show SR (w.heap.size + 1) F b 0 ((w.alloc (.cells res0 65)).alloc (.cells #[.slice A b.length c, .int .i64 0] 129)) from
    ⟨⟨A, c, heap_at _ _ (by simp), Rep.sl_ext h ((alloc_ext _ _).ext (alloc_ext _ _))⟩, fun hq => absurd (Rep.sl_lt h _ hq) (by omega)⟩)
  have HRB := Lib.hid ((alloc_ext (w.alloc (.cells res0 65)) (.cells #[.slice A b.length c, .int .i64 0] 129)).heap (heap_alloc_new w (.cells res0 65)) (by simp))
  have HX0 := Lib.hid ((alloc_ext w (.cells res0 65)).ext (alloc_ext _ (.cells #[.slice A b.length c, .int .i64 0] 129)))
  have hz0 : ((w.alloc (.cells res0 65)).alloc (.cells #[.slice A b.length c, .int .i64 0] 129)).heap.size = w.heap.size + 2 := by simp
  have HZ0 := Lib.hid hz0
  clear h hk ht hp hz0
  have wpg : (Lit.int .i64 pg).wf = true := h4 ▸ num_wf hby 13 2 (by decide)
  have H4 := Lib.hid h4; have H5 := Lib.hid h5
  clear h4 h5
  go_enter Tryd.func45, Tryd.ntmps45
  go_wp2_with (first
    | (go_at_call 101; refine (HS2.out.num 8 _ rfl (by decide) (by decide) (by decide) hm).mono ?_; rintro e w3 ⟨rfl, h1, hO⟩; rw [HP.out]; have HS3 := Lib.hid h1; have HO3 := Lib.hid (HO2.out.trans hO); clear h1 hO; refine Hid.out ?_)
    | (go_at_call 101; refine (HS1.out.num 4 _ rfl (by decide) (by decide) (by decide) hm).mono ?_; rintro e w2 ⟨rfl, h1, hO⟩; rw [HT.out]; have HS2 := Lib.hid h1; have HO2 := Lib.hid (HO1.out.trans hO); clear h1 hO)
    | (go_at_call 101; refine (HSC.out.num 1 _ rfl (by decide) (by decide) (by decide) hm).mono ?_; rintro e w1 ⟨rfl, h1, hO⟩; rw [HK.out]; have HS1 := Lib.hid h1; have HO1 := Lib.hid hO; clear h1 hO))
  refine Lib.hid ?_
  have hw3 : w.heap.size + 2 ≤ w3.heap.size := by have h1 := HO3.out.size; have h2 := HZ0.out; omega
  have HG := Lib.hid (show Geo w (w.heap.size + 1) w.heap.size w3.heap.size (w3.heap.size + 1) F from ⟨by omega, by omega, by omega, by omega, HFL.out⟩)
  have HDS0 := Lib.hid (show DS (SR (w.heap.size + 1) F b 13) w w.heap.size w3.heap.size (w3.heap.size + 1) #[.int .i64 8, .int .i64 t, .int .i64 pv, .int .i64 0, .int .i64 0, .bool false, .slice none 0 0, .bool false, .slice none 0 0, .int .i64 0, .int .i64 0, .slice none 0 0, .slice none 0 0, .slice none 0 0] (w3.alloc (.cells #[.int .i64 8, .int .i64 t, .int .i64 pv, .int .i64 0, .int .i64 0, .bool false, .slice none 0 0, .bool false, .slice none 0 0, .int .i64 0, .int .i64 0, .slice none 0 0, .slice none 0 0, .slice none 0 0] 49)) from
    ⟨HS3.out.ext (alloc_ext _ _), (alloc_ext _ _).heap (HO3.out.heap HRB.out (by simp)) (by simp), heap_alloc_new _ _, (HX0.out.then_ HO3.out (fun g hg hl => by simp at hg; omega)).ext (alloc_ext _ _), by simp⟩)
  go_wp2_with (first
    | (go_at_call 103; refine (HDS1s.out.takeR HG.out 4096 _ rfl (by decide) (by decide) hm im H5.out).mono ?_; rintro e ww2 ⟨Aq2, cq2, Gq2, rfl, HSL2, HNI2, HDS2, HUP2⟩; have m := fun o => cell_of_row _ _ o _ _ _ HDS2.out.row; have f := fun o => frozen_of_row _ _ o _ _ HDS2.out.row; have HDS2s := Lib.hid (show DS (SR (w.heap.size + 1) F b (15 + 4096)) w w.heap.size w3.heap.size (w3.heap.size + 1) #[.int .i64 8, .int .i64 t, .int .i64 pv, .int .i64 pg, .int .i64 0, .bool false, .slice none 0 0, .bool false, .slice none 0 0, .int .i64 0, .int .i64 0, .slice none 0 0, .slice none 0 0, .slice Aq2 im.length cq2] (ww2.setCell ⟨w3.heap.size, 13, none⟩ (.slice Aq2 im.length cq2)) from DS.conv ((HDS2.out).setR HG.out 13 (.slice Aq2 im.length cq2)) (by rfl)); have HUP2s := Lib.hid (show Up (w3.heap.size + 1) ww2 (ww2.setCell ⟨w3.heap.size, 13, none⟩ (.slice Aq2 im.length cq2)) from (by repeat (first | with_reducible exact Up.refl _ _ | (with_reducible refine Up.trans ?_ (Up.set HG.out _ _ _))))); refine Hid.out ?_)
    | (go_at_call 101; refine (HDS0.out.numR HG.out 2 _ rfl (by decide) (by decide) (by omega) hm _ 15 H4.out (by omega)).mono ?_; rintro e ww1 ⟨rfl, HDS1, HUP1⟩; have m := fun o => cell_of_row _ _ o _ _ _ HDS1.out.row; have f := fun o => frozen_of_row _ _ o _ _ HDS1.out.row; have HDS1s := Lib.hid (show DS (SR (w.heap.size + 1) F b 15) w w.heap.size w3.heap.size (w3.heap.size + 1) #[.int .i64 8, .int .i64 t, .int .i64 pv, .int .i64 pg, .int .i64 0, .bool false, .slice none 0 0, .bool false, .slice none 0 0, .int .i64 0, .int .i64 0, .slice none 0 0, .slice none 0 0, .slice none 0 0] (ww1.setCell ⟨w3.heap.size, 3, none⟩ (.int .i64 pg)) from DS.conv ((HDS1.out).setR HG.out 3 (.int .i64 pg)) (by rfl)); have HUP1s := Lib.hid (show Up (w3.heap.size + 1) ww1 (ww1.setCell ⟨w3.heap.size, 3, none⟩ (.int .i64 pg)) from (by repeat (first | with_reducible exact Up.refl _ _ | (with_reducible refine Up.trans ?_ (Up.set HG.out _ _ _)))))))
  refine Lib.hid ?_
  have HSA2 := Lib.hid (Up.sl HUP2s.out HSL2.out (HNI2.out.mono HDS1s.out.le)); have HNA2 := Lib.hid (Up.newIn HUP2s.out (Nat.le_refl _) (HNI2.out.mono HDS1s.out.le))
  have HNJ := Lib.hid (show NewIn (w3.heap.size + 1) (ww2.setCell ⟨w3.heap.size, 13, none⟩ (.slice Aq2 im.length cq2)) ([] ++ [] ++ [] ++ [] ++ Gq2) by simpa using HNA2.out)
  have HV := Lib.hid (show Rep.LogRecord.V (ww2.setCell ⟨w3.heap.size, 13, none⟩ (.slice Aq2 im.length cq2)) (.agg #[.int .i64 8, .int .i64 t, .int .i64 pv, .int .i64 pg, .int .i64 0, .bool false, .slice none 0 0, .bool false, .slice none 0 0, .int .i64 0, .int .i64 0, .slice none 0 0, .slice none 0 0, .slice Aq2 im.length cq2]) ⟨8, t, pv, pg, 0, ⟨false, []⟩, ⟨false, []⟩, 0, 0, [], [], im⟩ ([] ++ [] ++ [] ++ [] ++ Gq2) from ⟨_, ⟨none, 0, [], none, 0, [], none, 0, [], none, 0, [], Aq2, cq2, Gq2, rfl, rfl, ⟨rfl, wt, wp, wpg, rfl, rfl, rfl⟩, sl0 _ _, sl0 _ _, sl0 _ _, sl0 _ _, HSA2.out⟩, rfl⟩)
  obtain ⟨fz, hfz⟩ : ∃ f, f = recFault ⟨8, t, pv, pg, 0, ⟨false, []⟩, ⟨false, []⟩, 0, 0, [], [], im⟩ := ⟨_, rfl⟩
  have HRF : Hid (∀ W, Ext (ww2.setCell ⟨w3.heap.size, 13, none⟩ (.slice Aq2 im.length cq2)) W → Calls Tryd.prog 27 #[.agg #[.int .i64 8, .int .i64 t, .int .i64 pv, .int .i64 pg, .int .i64 0, .bool false, .slice none 0 0, .bool false, .slice none 0 0, .int .i64 0, .int .i64 0, .slice none 0 0, .slice none 0 0, .slice Aq2 im.length cq2]] W fun e w' => e = .returned (.int .i64 fz) ∧ Ext W w') := Lib.hid fun W hW => by rw [hfz]; exact specRecordFault_calls W _ ⟨8, t, pv, pg, 0, ⟨false, []⟩, ⟨false, []⟩, 0, 0, [], [], im⟩ _ (V_ext HV.out hW)
  rw [← hfz] at hf0
  clear hfz
  have HEN : Hid (∀ W, Ext (ww2.setCell ⟨w3.heap.size, 13, none⟩ (.slice Aq2 im.length cq2)) W → Calls Tryd.prog 37 #[.agg #[.int .i64 8, .int .i64 t, .int .i64 pv, .int .i64 pg, .int .i64 0, .bool false, .slice none 0 0, .bool false, .slice none 0 0, .int .i64 0, .int .i64 0, .slice none 0 0, .slice none 0 0, .slice Aq2 im.length cq2]] W (NewPost (Rep.int .u8).slice (encRec ⟨8, t, pv, pg, 0, ⟨false, []⟩, ⟨false, []⟩, 0, 0, [], [], im⟩) W)) := Lib.hid fun W hW => specEncode_new W _ ⟨8, t, pv, pg, 0, ⟨false, []⟩, ⟨false, []⟩, 0, 0, [], [], im⟩ _ (V_ext HV.out hW)
  subst hf0
  obtain ⟨L, hL⟩ : ∃ l, l = encRec ⟨8, t, pv, pg, 0, ⟨false, []⟩, ⟨false, []⟩, 0, 0, [], [], im⟩ := ⟨_, rfl⟩
  have hLb := encRec_len ⟨8, t, pv, pg, 0, ⟨false, []⟩, ⟨false, []⟩, 0, 0, [], [], im⟩
  have hR := HR.out
  rw [← hL] at HEN hLb hR
  obtain ⟨q, hq⟩ : ∃ q, q = decide (L = b) := ⟨_, rfl⟩
  have HEQ : Hid (∀ W A' c' F', (Rep.int .u8).sl W A' c' L F' → (Rep.int .u8).sl W A c b F → Calls Tryd.prog 104 #[.slice A' L.length c', .slice A b.length c] W fun e w' => e = .returned (.bool q) ∧ Ext W w') := Lib.hid fun W A' c' F' h1 h2 => by rw [hq]; exact l1Same_calls W A' c' L F' A c b F h1 h2
  clear HR hL
  rcases hR with ⟨hqe, rfl⟩ | ⟨hqe, rfl⟩
  · obtain rfl : q = false := hq.trans (decide_eq_false hqe)
    clear hqe hq
    have m := fun o => cell_of_row _ _ o _ _ _ HDS2s.out.row
    have f := fun o => frozen_of_row _ _ o _ _ HDS2s.out.row
    have mr := fun o => cell_of_row _ _ o _ _ _ HDS2s.out.res
    unfold res0 at mr
    have fr := fun o => frozen_of_row _ _ o _ _ HDS2s.out.res
    go_wp2_with (first
      | (go_at_call 104; refine (HEQ.out _ _ _ _ HQG.out (Rep.sl_ext HB0.out HDG.out.ext)).mono ?_; rintro e wh ⟨rfl, hE⟩; have HDH := Lib.hid (HDG.out.moreR hE); have HEH := Lib.hid (HEG.out.ext hE); clear m f mr fr; have m := fun o => cell_of_row _ _ o _ _ _ HDH.out.row; have f := fun o => frozen_of_row _ _ o _ _ HDH.out.row; have mr := fun o => cell_of_row _ _ o _ _ _ HDH.out.res; unfold res0 at mr; have fr := fun o => frozen_of_row _ _ o _ _ HDH.out.res; clear hE)
      | (go_at_call 37; refine (HEN.out _ HEF.out).mono ?_; rintro e wg ⟨vg, Gg, rfl, hVg, hNg⟩; obtain ⟨Ag, cg, rfl, qg⟩ := Rep.slice_V hVg; have HQG := Lib.hid qg; have HDG := Lib.hid (HDF.out.moreR hNg.ext); have HEG := Lib.hid (HEF.out.ext hNg.ext); clear hVg qg hNg)
      | (go_at_call 27; refine (HRF.out _ (Only.refl _ _)).mono ?_; rintro e wf ⟨rfl, hE⟩; have HDF := Lib.hid (HDS2s.out.moreR hE); have HEF := Lib.hid hE; clear m f mr fr; have m := fun o => cell_of_row _ _ o _ _ _ HDF.out.row; have f := fun o => frozen_of_row _ _ o _ _ HDF.out.row; have mr := fun o => cell_of_row _ _ o _ _ _ HDF.out.res; unfold res0 at mr; have fr := fun o => frozen_of_row _ _ o _ _ HDF.out.res; clear hE))
    refine bodyPost_ret (v := .agg res0) (by simp [results, Tryd.results45, go_sem, mr, res0]) rfl ?_
    exact decRes_zero (by repeat (first | with_reducible exact HDH.out.ext | ((with_reducible apply Only.set); · exact fun hq => absurd hq (by dsimp only; omega))))
  · obtain rfl : q = true := hq.trans (decide_eq_true hqe)
    clear hqe hq
    have m := fun o => cell_of_row _ _ o _ _ _ HDS2s.out.row
    have f := fun o => frozen_of_row _ _ o _ _ HDS2s.out.row
    have mr := fun o => cell_of_row _ _ o _ _ _ HDS2s.out.res
    unfold res0 at mr
    have fr := fun o => frozen_of_row _ _ o _ _ HDS2s.out.res
    go_wp2_with (first
      | (go_at_call 104; refine (HEQ.out _ _ _ _ HQG.out (Rep.sl_ext HB0.out HDG.out.ext)).mono ?_; rintro e wh ⟨rfl, hE⟩; have HDH := Lib.hid (HDG.out.moreR hE); have HEH := Lib.hid (HEG.out.ext hE); clear m f mr fr; have m := fun o => cell_of_row _ _ o _ _ _ HDH.out.row; have f := fun o => frozen_of_row _ _ o _ _ HDH.out.row; have mr := fun o => cell_of_row _ _ o _ _ _ HDH.out.res; unfold res0 at mr; have fr := fun o => frozen_of_row _ _ o _ _ HDH.out.res; clear hE)
      | (go_at_call 37; refine (HEN.out _ HEF.out).mono ?_; rintro e wg ⟨vg, Gg, rfl, hVg, hNg⟩; obtain ⟨Ag, cg, rfl, qg⟩ := Rep.slice_V hVg; have HQG := Lib.hid qg; have HDG := Lib.hid (HDF.out.moreR hNg.ext); have HEG := Lib.hid (HEF.out.ext hNg.ext); clear hVg qg hNg)
      | (go_at_call 27; refine (HRF.out _ (Only.refl _ _)).mono ?_; rintro e wf ⟨rfl, hE⟩; have HDF := Lib.hid (HDS2s.out.moreR hE); have HEF := Lib.hid hE; clear m f mr fr; have m := fun o => cell_of_row _ _ o _ _ _ HDF.out.row; have f := fun o => frozen_of_row _ _ o _ _ HDF.out.row; have mr := fun o => cell_of_row _ _ o _ _ _ HDF.out.res; unfold res0 at mr; have fr := fun o => frozen_of_row _ _ o _ _ HDF.out.res; clear hE))
    refine bodyPost_ret (v := .agg #[.bool true, .int .i64 8, .int .i64 t, .int .i64 pv, .int .i64 pg, .int .i64 0, .bool false, .slice none 0 0, .bool false, .slice none 0 0, .int .i64 0, .int .i64 0, .slice none 0 0, .slice none 0 0, .slice Aq2 im.length cq2]) (by simp [results, Tryd.results45, go_sem, m, mr]) rfl ?_
    exact decRes_good (W := wh) (x := ⟨8, t, pv, pg, 0, ⟨false, []⟩, ⟨false, []⟩, 0, 0, [], [], im⟩) ⟨rfl, wt, wp, wpg, rfl, rfl, rfl⟩ (sl0 _ _) (sl0 _ _) (sl0 _ _) (sl0 _ _) (Rep.sl_ext HSA2.out HEH.out) ((Up.only HEH.out (by simp)).newIn (Nat.le_refl _) HNJ.out) (by omega) (by repeat (first | with_reducible exact HDH.out.ext | ((with_reducible apply Only.set); · exact fun hq => absurd hq (by dsimp only; omega)))) (Up.only (H := [w.heap.size]) (by repeat (first | with_reducible exact Only.refl _ _ | ((with_reducible apply Only.set); · simp))) (by simp; omega))
theorem specDec_8 (w : World) (A : Option Addr) (c : Nat) (b : List Int) (F : List Nat) (h : (Rep.int .u8).sl w A c b F) (hm : b.length ≤ 1048576) (t pv : Int)
    (hk : getNum (extB b 0 1) = 8) (ht : getNum (extB b 1 4) = t) (hp : getNum (extB b 5 8) = pv) (pg : Int) (im : List Int)
    (h4 : getNum (extB b 13 2) = pg) (h5 : extB b 15 4096 = im) :
    Calls Tryd.prog 45 #[.slice A b.length c] w (NewPost Rep.RecordResult (decR ⟨8, t, pv, pg, 0, ⟨false, []⟩, ⟨false, []⟩, 0, 0, [], [], im⟩ false b) w) := by
  by_cases hf0 : recFault ⟨8, t, pv, pg, 0, ⟨false, []⟩, ⟨false, []⟩, 0, 0, [], [], im⟩ = 0
  case neg =>
    rw [show decR _ _ _ = ⟨false, zeroRecD⟩ from if_neg (by rintro ⟨-, hq, -⟩; exact hf0 hq)]
    exact specDec_8_A w A c b F h hm t pv hk ht hp pg im h4 h5 hf0
  refine specDec_8_B w A c b F h hm t pv hk ht hp pg im h4 h5 hf0 _ ?_
  by_cases hqe : encRec ⟨8, t, pv, pg, 0, ⟨false, []⟩, ⟨false, []⟩, 0, 0, [], [], im⟩ = b
  · exact .inr ⟨hqe, if_pos ⟨rfl, hf0, hqe⟩⟩
  · exact .inl ⟨hqe, if_neg (by rintro ⟨-, -, hq⟩; exact hqe hq)⟩
end Go.Proofs.YtghgjddiheebeaaDoor
