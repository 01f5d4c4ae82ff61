/- DecodeRecord, the program's: kinds without a body. -/
import Derived.Test.YtghgjddiheebeaaDoorMG6
import Derived.Deep.RegionHeld3
import Derived.Deep.DeepCutAuto
import Derived.Deep.CutBlock
namespace Go.Proofs.YtghgjddiheebeaaDoor
open Go.RowKit
set_option linter.unusedSimpArgs false
set_option linter.unusedVariables false

theorem DS.more {w0 W W' : World} {sb rb rr n : Nat} {F : List Nat} {rest : List Int} {bad : Bool} {arr : Array Value} (h : DS (SC sb F rest bad) w0 rb rr n arr W) (hE : Ext W W') : DS (SC sb F rest bad) w0 rb rr n arr W' :=
  ⟨h.p.ext hE, hE.heap h.res (by simp), hE.heap h.row (by simp), h.ext.ext hE, Nat.le_trans h.le hE.size⟩
theorem sl0 {α : Type} (r : Rep α) (W : World) : r.sl W none 0 [] [] := Rep.sl_nil (by simp)
theorem NewIn.mono {n m : Nat} {W : World} {G : List Nat} (h : NewIn m W G) (hn : n ≤ m) : NewIn n W G := ⟨fun g hg => Nat.le_trans hn (h.ge g hg), h.lt, h.nodup, h.unfr⟩
theorem rdSlot_room {s : List Int × Bool} {x : DPageRecord} {r : List Int} {b : Bool} (h : rdSlot s = (x, (r, b))) (hb : isByte s.1) : isByte r ∧ r.length ≤ s.1.length := by
  have h1 : ∀ z ∈ (rdSlot s).2.1, z ∈ s.1 := by
    intro z hz
    unfold rdSlot at hz
    dsimp only at hz
    have k1 := rdNum_mem 1 s
    have k2 := rdNum_mem 2 (rdNum 1 s).2
    split at hz
    · exact k1 z hz
    split at hz
    · split at hz
      · exact k1 z (k2 z hz)
      · exact k1 z (k2 z (List.mem_of_mem_drop hz))
    · exact k1 z hz
  have h2 : (rdSlot s).2.1.length ≤ s.1.length := by
    unfold rdSlot
    dsimp only
    have k1 := rdNum_len 1 s
    have k2 := rdNum_len 2 (rdNum 1 s).2
    split
    · exact k1
    split
    · split
      · exact Nat.le_trans k2 k1
      · rw [List.length_drop]; omega
    · exact k1
  rw [h] at h1 h2
  exact ⟨fun z hz => hb z (h1 z hz), h2⟩

set_option maxRecDepth 100000 in
set_option maxHeartbeats 8000000 in
theorem implDec_plain_A (w : World) (A : Option Addr) (c : Nat) (b : List Int) (F : List Nat) (h : (Rep.int .u8).sl w A c b F) (hm : b.length ≤ 1048576) (k t pv : Int) (r1 r2 r3 : List Int) (b1 b2 b3 : Bool)
    (hk : rdNum 1 (b, false) = (k, (r1, b1))) (ht : rdNum 4 (r1, b1) = (t, (r2, b2))) (hp : rdNum 8 (r2, b2) = (pv, (r3, b3))) 
    (n1 : ¬ k = 1) (n2 : ¬ k = 2) (n7 : ¬ k = 7) (n8 : ¬ k = 8) (hA : b3 = true ∨ b3 = false ∧ recFault ⟨k, t, pv, 0, 0, ⟨false, []⟩, ⟨false, []⟩, 0, 0, [], [], []⟩ ≠ 0) :
    Calls Tryd.prog 46 #[.slice A b.length c] w (NewPost Rep.RecordResult ⟨false, zeroRecD⟩ w) := by
  have HA := Lib.hid hA
  clear hA
  have hby : isByte b := fun z hz => Lib.byte_of_wf (sl_wf h z hz)
  obtain ⟨wk, y1, l1⟩ := rdNum_room hk hby (by decide)
  try dsimp only at l1
  obtain ⟨wt, y2, l2⟩ := rdNum_room ht y1 (by decide)
  try dsimp only at l2
  obtain ⟨wp, y3, l3⟩ := rdNum_room hp y2 (by decide)
  try dsimp only at l3
  have hu := Tryd.underlying49
  have hu2 := Tryd.underlying65
  have hu3 := Tryd.underlying135
  have HFL := Lib.hid (Rep.sl_lt h)
  have HB0 := Lib.hid h
  have HK := Lib.hid hk; have HT := Lib.hid ht; have HP := Lib.hid hp
  have HSC := Lib.hid (show SC (w.heap.size + 1) F b false ((w.alloc (.cells res0 65)).alloc (.cells #[.slice A b.length c, .bool false] 135)) from
    ⟨⟨A, c, F, heap_at _ _ (by simp), Rep.sl_ext h ((alloc_ext _ _).ext (alloc_ext _ _)), fun g hg => hg⟩, fun hq => absurd (Rep.sl_lt h _ hq) (by omega)⟩)
  have HRB := Lib.hid ((alloc_ext (w.alloc (.cells res0 65)) (.cells #[.slice A b.length c, .bool false] 135)).heap (heap_alloc_new w (.cells res0 65)) (by simp))
  have HX0 := Lib.hid ((alloc_ext w (.cells res0 65)).ext (alloc_ext _ (.cells #[.slice A b.length c, .bool false] 135)))
  have hz0 : ((w.alloc (.cells res0 65)).alloc (.cells #[.slice A b.length c, .bool false] 135)).heap.size = w.heap.size + 2 := by simp
  have HZ0 := Lib.hid hz0
  clear h hk ht hp hz0
  go_enter Tryd.func46, Tryd.ntmps46
  go_wp2_with (first
    | (go_at_call 105; refine (HS2.out.numP 8 _ rfl (by decide) (by omega) _ _ _ HP.out).mono ?_; rintro e w3 ⟨rfl, h1, hO⟩; have HS3 := Lib.hid h1; have HO3 := Lib.hid (HO2.out.trans hO); clear h1 hO; refine Hid.out ?_)
    | (go_at_call 105; refine (HS1.out.numP 4 _ rfl (by decide) (by omega) _ _ _ HT.out).mono ?_; rintro e w2 ⟨rfl, h1, hO⟩; have HS2 := Lib.hid h1; have HO2 := Lib.hid (HO1.out.trans hO); clear h1 hO)
    | (go_at_call 105; refine (HSC.out.numP 1 _ rfl (by decide) hm _ _ _ HK.out).mono ?_; rintro e w1 ⟨rfl, h1, hO⟩; have HS1 := Lib.hid h1; have HO1 := Lib.hid hO; clear h1 hO))
  refine Lib.hid ?_
  have hw3 : w.heap.size + 2 ≤ w3.heap.size := by have h1 := HO3.out.size; have h2 := HZ0.out; omega
  have HG := Lib.hid (show Geo w (w.heap.size + 1) w.heap.size w3.heap.size (w3.heap.size + 1) F from ⟨by omega, by omega, by omega, by omega, HFL.out⟩)
  have HDS0 := Lib.hid (show DS (SC (w.heap.size + 1) F r3 b3) w w.heap.size w3.heap.size (w3.heap.size + 1) #[.int .i64 k, .int .i64 t, .int .i64 pv, .int .i64 0, .int .i64 0, .bool false, .slice none 0 0, .bool false, .slice none 0 0, .int .i64 0, .int .i64 0, .slice none 0 0, .slice none 0 0, .slice none 0 0] (w3.alloc (.cells #[.int .i64 k, .int .i64 t, .int .i64 pv, .int .i64 0, .int .i64 0, .bool false, .slice none 0 0, .bool false, .slice none 0 0, .int .i64 0, .int .i64 0, .slice none 0 0, .slice none 0 0, .slice none 0 0] 49)) from
    ⟨HS3.out.ext (alloc_ext _ _), (alloc_ext _ _).heap (HO3.out.heap HRB.out (by simp)) (by simp), heap_alloc_new _ _, (HX0.out.then_ HO3.out (fun g hg hl => by simp at hg; omega)).ext (alloc_ext _ _), by simp⟩)
  rcases HA.out with hbad | ⟨hb0, hf0⟩
  · subst hbad
    obtain ⟨As, cs, Gs, ms, fs, -, -⟩ := HDS0.out.p.cells
    have m := fun o => cell_of_row _ _ o _ _ _ HDS0.out.row
    have f := fun o => frozen_of_row _ _ o _ _ HDS0.out.row
    have mr := fun o => cell_of_row _ _ o _ _ _ HDS0.out.res
    unfold res0 at mr
    have fr := fun o => frozen_of_row _ _ o _ _ HDS0.out.res
    go_wp2
    refine bodyPost_ret (v := .agg res0) (by simp [results, Tryd.results46, go_sem, mr, res0]) rfl ?_
    exact decRes_zero (by repeat (first | with_reducible exact HDS0.out.ext | ((with_reducible apply Only.set); · exact fun hq => absurd hq (by dsimp only; omega))))
  · have HV := Lib.hid (show Rep.LogRecord.V (w3.alloc (.cells #[.int .i64 k, .int .i64 t, .int .i64 pv, .int .i64 0, .int .i64 0, .bool false, .slice none 0 0, .bool false, .slice none 0 0, .int .i64 0, .int .i64 0, .slice none 0 0, .slice none 0 0, .slice none 0 0] 49)) (.agg #[.int .i64 k, .int .i64 t, .int .i64 pv, .int .i64 0, .int .i64 0, .bool false, .slice none 0 0, .bool false, .slice none 0 0, .int .i64 0, .int .i64 0, .slice none 0 0, .slice none 0 0, .slice none 0 0]) ⟨k, t, pv, 0, 0, ⟨false, []⟩, ⟨false, []⟩, 0, 0, [], [], []⟩ [] from ⟨_, ⟨none, 0, [], none, 0, [], none, 0, [], none, 0, [], none, 0, [], rfl, rfl, ⟨wk, wt, wp, rfl, rfl, rfl, rfl⟩, sl0 _ _, sl0 _ _, sl0 _ _, sl0 _ _, sl0 _ _⟩, rfl⟩)
    subst hb0
    obtain ⟨fz, hfz⟩ : ∃ f, f = recFault ⟨k, t, pv, 0, 0, ⟨false, []⟩, ⟨false, []⟩, 0, 0, [], [], []⟩ := ⟨_, rfl⟩
    have HRF : Hid (∀ W, Ext (w3.alloc (.cells #[.int .i64 k, .int .i64 t, .int .i64 pv, .int .i64 0, .int .i64 0, .bool false, .slice none 0 0, .bool false, .slice none 0 0, .int .i64 0, .int .i64 0, .slice none 0 0, .slice none 0 0, .slice none 0 0] 49)) W → Calls Tryd.prog 29 #[.agg #[.int .i64 k, .int .i64 t, .int .i64 pv, .int .i64 0, .int .i64 0, .bool false, .slice none 0 0, .bool false, .slice none 0 0, .int .i64 0, .int .i64 0, .slice none 0 0, .slice none 0 0, .slice none 0 0]] W fun e w' => e = .returned (.int .i64 fz) ∧ Ext W w') := Lib.hid fun W hW => by rw [hfz]; exact implRecordFault_calls W _ ⟨k, t, pv, 0, 0, ⟨false, []⟩, ⟨false, []⟩, 0, 0, [], [], []⟩ _ (V_ext HV.out hW)
    rw [← hfz] at hf0
    clear hfz
    have hk1 : (fz != 0) = true := bne_iff_ne.2 hf0
    obtain ⟨As, cs, Gs, ms, fs, -, -⟩ := HDS0.out.p.cells
    have m := fun o => cell_of_row _ _ o _ _ _ HDS0.out.row
    have f := fun o => frozen_of_row _ _ o _ _ HDS0.out.row
    have mr := fun o => cell_of_row _ _ o _ _ _ HDS0.out.res
    unfold res0 at mr
    have fr := fun o => frozen_of_row _ _ o _ _ HDS0.out.res
    go_wp2_with (go_at_call 29; refine (HRF.out _ (Only.refl _ _)).mono ?_; rintro e wf ⟨rfl, hE⟩; have HDF := Lib.hid (HDS0.out.more hE); have HEF := Lib.hid hE; clear m f mr fr ms fs; have m := fun o => cell_of_row _ _ o _ _ _ HDF.out.row; have f := fun o => frozen_of_row _ _ o _ _ HDF.out.row; have mr := fun o => cell_of_row _ _ o _ _ _ HDF.out.res; unfold res0 at mr; have fr := fun o => frozen_of_row _ _ o _ _ HDF.out.res; clear hE)
    refine bodyPost_ret (v := .agg res0) (by simp [results, Tryd.results46, go_sem, mr, res0]) rfl ?_
    exact decRes_zero (by repeat (first | with_reducible exact HDF.out.ext | ((with_reducible apply Only.set); · exact fun hq => absurd hq (by dsimp only; omega))))
set_option maxRecDepth 100000 in
set_option maxHeartbeats 8000000 in
theorem implDec_plain_B (w : World) (A : Option Addr) (c : Nat) (b : List Int) (F : List Nat) (h : (Rep.int .u8).sl w A c b F) (hm : b.length ≤ 1048576) (k t pv : Int) (r1 r2 r3 : List Int) (b1 b2 b3 : Bool)
    (hk : rdNum 1 (b, false) = (k, (r1, b1))) (ht : rdNum 4 (r1, b1) = (t, (r2, b2))) (hp : rdNum 8 (r2, b2) = (pv, (r3, b3))) 
    (n1 : ¬ k = 1) (n2 : ¬ k = 2) (n7 : ¬ k = 7) (n8 : ¬ k = 8) (hb0 : b3 = false) (hf0 : recFault ⟨k, t, pv, 0, 0, ⟨false, []⟩, ⟨false, []⟩, 0, 0, [], [], []⟩ = 0) (R : DRecordResult) (hR : encRec ⟨k, t, pv, 0, 0, ⟨false, []⟩, ⟨false, []⟩, 0, 0, [], [], []⟩ ≠ b ∧ R = ⟨false, zeroRecD⟩ ∨ encRec ⟨k, t, pv, 0, 0, ⟨false, []⟩, ⟨false, []⟩, 0, 0, [], [], []⟩ = b ∧ R = ⟨true, ⟨k, t, pv, 0, 0, ⟨false, []⟩, ⟨false, []⟩, 0, 0, [], [], []⟩⟩) :
    Calls Tryd.prog 46 #[.slice A b.length c] w (NewPost Rep.RecordResult R w) := by
  have HR := Lib.hid hR
  clear hR
  have hby : isByte b := fun z hz => Lib.byte_of_wf (sl_wf h z hz)
  obtain ⟨wk, y1, l1⟩ := rdNum_room hk hby (by decide)
  try dsimp only at l1
  obtain ⟨wt, y2, l2⟩ := rdNum_room ht y1 (by decide)
  try dsimp only at l2
  obtain ⟨wp, y3, l3⟩ := rdNum_room hp y2 (by decide)
  try dsimp only at l3
  have hu := Tryd.underlying49
  have hu2 := Tryd.underlying65
  have hu3 := Tryd.underlying135
  have HFL := Lib.hid (Rep.sl_lt h)
  have HB0 := Lib.hid h
  have HK := Lib.hid hk; have HT := Lib.hid ht; have HP := Lib.hid hp
  have HSC := Lib.hid (show SC (w.heap.size + 1) F b false ((w.alloc (.cells res0 65)).alloc (.cells #[.slice A b.length c, .bool false] 135)) from
    ⟨⟨A, c, F, heap_at _ _ (by simp), Rep.sl_ext h ((alloc_ext _ _).ext (alloc_ext _ _)), fun g hg => hg⟩, fun hq => absurd (Rep.sl_lt h _ hq) (by omega)⟩)
  have HRB := Lib.hid ((alloc_ext (w.alloc (.cells res0 65)) (.cells #[.slice A b.length c, .bool false] 135)).heap (heap_alloc_new w (.cells res0 65)) (by simp))
  have HX0 := Lib.hid ((alloc_ext w (.cells res0 65)).ext (alloc_ext _ (.cells #[.slice A b.length c, .bool false] 135)))
  have hz0 : ((w.alloc (.cells res0 65)).alloc (.cells #[.slice A b.length c, .bool false] 135)).heap.size = w.heap.size + 2 := by simp
  have HZ0 := Lib.hid hz0
  clear h hk ht hp hz0
  go_enter Tryd.func46, Tryd.ntmps46
  go_wp2_with (first
    | (go_at_call 105; refine (HS2.out.numP 8 _ rfl (by decide) (by omega) _ _ _ HP.out).mono ?_; rintro e w3 ⟨rfl, h1, hO⟩; have HS3 := Lib.hid h1; have HO3 := Lib.hid (HO2.out.trans hO); clear h1 hO; refine Hid.out ?_)
    | (go_at_call 105; refine (HS1.out.numP 4 _ rfl (by decide) (by omega) _ _ _ HT.out).mono ?_; rintro e w2 ⟨rfl, h1, hO⟩; have HS2 := Lib.hid h1; have HO2 := Lib.hid (HO1.out.trans hO); clear h1 hO)
    | (go_at_call 105; refine (HSC.out.numP 1 _ rfl (by decide) hm _ _ _ HK.out).mono ?_; rintro e w1 ⟨rfl, h1, hO⟩; have HS1 := Lib.hid h1; have HO1 := Lib.hid hO; clear h1 hO))
  refine Lib.hid ?_
  have hw3 : w.heap.size + 2 ≤ w3.heap.size := by have h1 := HO3.out.size; have h2 := HZ0.out; omega
  have HG := Lib.hid (show Geo w (w.heap.size + 1) w.heap.size w3.heap.size (w3.heap.size + 1) F from ⟨by omega, by omega, by omega, by omega, HFL.out⟩)
  have HDS0 := Lib.hid (show DS (SC (w.heap.size + 1) F r3 b3) w w.heap.size w3.heap.size (w3.heap.size + 1) #[.int .i64 k, .int .i64 t, .int .i64 pv, .int .i64 0, .int .i64 0, .bool false, .slice none 0 0, .bool false, .slice none 0 0, .int .i64 0, .int .i64 0, .slice none 0 0, .slice none 0 0, .slice none 0 0] (w3.alloc (.cells #[.int .i64 k, .int .i64 t, .int .i64 pv, .int .i64 0, .int .i64 0, .bool false, .slice none 0 0, .bool false, .slice none 0 0, .int .i64 0, .int .i64 0, .slice none 0 0, .slice none 0 0, .slice none 0 0] 49)) from
    ⟨HS3.out.ext (alloc_ext _ _), (alloc_ext _ _).heap (HO3.out.heap HRB.out (by simp)) (by simp), heap_alloc_new _ _, (HX0.out.then_ HO3.out (fun g hg hl => by simp at hg; omega)).ext (alloc_ext _ _), by simp⟩)
  have HV := Lib.hid (show Rep.LogRecord.V (w3.alloc (.cells #[.int .i64 k, .int .i64 t, .int .i64 pv, .int .i64 0, .int .i64 0, .bool false, .slice none 0 0, .bool false, .slice none 0 0, .int .i64 0, .int .i64 0, .slice none 0 0, .slice none 0 0, .slice none 0 0] 49)) (.agg #[.int .i64 k, .int .i64 t, .int .i64 pv, .int .i64 0, .int .i64 0, .bool false, .slice none 0 0, .bool false, .slice none 0 0, .int .i64 0, .int .i64 0, .slice none 0 0, .slice none 0 0, .slice none 0 0]) ⟨k, t, pv, 0, 0, ⟨false, []⟩, ⟨false, []⟩, 0, 0, [], [], []⟩ [] from ⟨_, ⟨none, 0, [], none, 0, [], none, 0, [], none, 0, [], none, 0, [], rfl, rfl, ⟨wk, wt, wp, rfl, rfl, rfl, rfl⟩, sl0 _ _, sl0 _ _, sl0 _ _, sl0 _ _, sl0 _ _⟩, rfl⟩)
  subst hb0
  obtain ⟨fz, hfz⟩ : ∃ f, f = recFault ⟨k, t, pv, 0, 0, ⟨false, []⟩, ⟨false, []⟩, 0, 0, [], [], []⟩ := ⟨_, rfl⟩
  have HRF : Hid (∀ W, Ext (w3.alloc (.cells #[.int .i64 k, .int .i64 t, .int .i64 pv, .int .i64 0, .int .i64 0, .bool false, .slice none 0 0, .bool false, .slice none 0 0, .int .i64 0, .int .i64 0, .slice none 0 0, .slice none 0 0, .slice none 0 0] 49)) W → Calls Tryd.prog 29 #[.agg #[.int .i64 k, .int .i64 t, .int .i64 pv, .int .i64 0, .int .i64 0, .bool false, .slice none 0 0, .bool false, .slice none 0 0, .int .i64 0, .int .i64 0, .slice none 0 0, .slice none 0 0, .slice none 0 0]] W fun e w' => e = .returned (.int .i64 fz) ∧ Ext W w') := Lib.hid fun W hW => by rw [hfz]; exact implRecordFault_calls W _ ⟨k, t, pv, 0, 0, ⟨false, []⟩, ⟨false, []⟩, 0, 0, [], [], []⟩ _ (V_ext HV.out hW)
  rw [← hfz] at hf0
  clear hfz
  have HEN : Hid (∀ W, Ext (w3.alloc (.cells #[.int .i64 k, .int .i64 t, .int .i64 pv, .int .i64 0, .int .i64 0, .bool false, .slice none 0 0, .bool false, .slice none 0 0, .int .i64 0, .int .i64 0, .slice none 0 0, .slice none 0 0, .slice none 0 0] 49)) W → Calls Tryd.prog 38 #[.agg #[.int .i64 k, .int .i64 t, .int .i64 pv, .int .i64 0, .int .i64 0, .bool false, .slice none 0 0, .bool false, .slice none 0 0, .int .i64 0, .int .i64 0, .slice none 0 0, .slice none 0 0, .slice none 0 0]] W (NewPost (Rep.int .u8).slice (encRec ⟨k, t, pv, 0, 0, ⟨false, []⟩, ⟨false, []⟩, 0, 0, [], [], []⟩) W)) := Lib.hid fun W hW => implEncode_new W _ ⟨k, t, pv, 0, 0, ⟨false, []⟩, ⟨false, []⟩, 0, 0, [], [], []⟩ _ (V_ext HV.out hW)
  subst hf0
  obtain ⟨L, hL⟩ : ∃ l, l = encRec ⟨k, t, pv, 0, 0, ⟨false, []⟩, ⟨false, []⟩, 0, 0, [], [], []⟩ := ⟨_, rfl⟩
  have hLb := encRec_len ⟨k, t, pv, 0, 0, ⟨false, []⟩, ⟨false, []⟩, 0, 0, [], [], []⟩
  have hR := HR.out
  rw [← hL] at HEN hLb hR
  obtain ⟨q, hq⟩ : ∃ q, q = decide (L = b) := ⟨_, rfl⟩
  have HEQ : Hid (∀ W A' c' F', (Rep.int .u8).sl W A' c' L F' → (Rep.int .u8).sl W A c b F → Calls Tryd.prog 107 #[.slice A' L.length c', .slice A b.length c] W fun e w' => e = .returned (.bool q) ∧ Ext W w') := Lib.hid fun W A' c' F' h1 h2 => by rw [hq]; exact bytesEqual_calls W A' c' L F' A c b F h1 h2
  clear HR hL
  rcases hR with ⟨hqe, rfl⟩ | ⟨hqe, rfl⟩
  · obtain rfl : q = false := hq.trans (decide_eq_false hqe)
    clear hqe hq
    obtain ⟨As, cs, Gs, ms, fs, -, -⟩ := HDS0.out.p.cells
    have m := fun o => cell_of_row _ _ o _ _ _ HDS0.out.row
    have f := fun o => frozen_of_row _ _ o _ _ HDS0.out.row
    have mr := fun o => cell_of_row _ _ o _ _ _ HDS0.out.res
    unfold res0 at mr
    have fr := fun o => frozen_of_row _ _ o _ _ HDS0.out.res
    go_wp2_with (first
      | (go_at_call 107; refine (HEQ.out _ _ _ _ HQG.out (Rep.sl_ext HB0.out HDG.out.ext)).mono ?_; rintro e wh ⟨rfl, hE⟩; have HDH := Lib.hid (HDG.out.more hE); have HEH := Lib.hid (HEG.out.ext hE); clear m f mr fr; have m := fun o => cell_of_row _ _ o _ _ _ HDH.out.row; have f := fun o => frozen_of_row _ _ o _ _ HDH.out.row; have mr := fun o => cell_of_row _ _ o _ _ _ HDH.out.res; unfold res0 at mr; have fr := fun o => frozen_of_row _ _ o _ _ HDH.out.res; clear hE)
      | (go_at_call 38; refine (HEN.out _ HEF.out).mono ?_; rintro e wg ⟨vg, Gg, rfl, hVg, hNg⟩; obtain ⟨Ag, cg, rfl, qg⟩ := Rep.slice_V hVg; have HQG := Lib.hid qg; have HDG := Lib.hid (HDF.out.more hNg.ext); have HEG := Lib.hid (HEF.out.ext hNg.ext); clear hVg qg hNg)
      | (go_at_call 29; refine (HRF.out _ (Only.refl _ _)).mono ?_; rintro e wf ⟨rfl, hE⟩; have HDF := Lib.hid (HDS0.out.more hE); have HEF := Lib.hid hE; clear m f mr fr ms fs; have m := fun o => cell_of_row _ _ o _ _ _ HDF.out.row; have f := fun o => frozen_of_row _ _ o _ _ HDF.out.row; have mr := fun o => cell_of_row _ _ o _ _ _ HDF.out.res; unfold res0 at mr; have fr := fun o => frozen_of_row _ _ o _ _ HDF.out.res; clear hE))
    refine bodyPost_ret (v := .agg res0) (by simp [results, Tryd.results46, go_sem, mr, res0]) rfl ?_
    exact decRes_zero (by repeat (first | with_reducible exact HDH.out.ext | ((with_reducible apply Only.set); · exact fun hq => absurd hq (by dsimp only; omega))))
  · obtain rfl : q = true := hq.trans (decide_eq_true hqe)
    clear hqe hq
    obtain ⟨As, cs, Gs, ms, fs, -, -⟩ := HDS0.out.p.cells
    have m := fun o => cell_of_row _ _ o _ _ _ HDS0.out.row
    have f := fun o => frozen_of_row _ _ o _ _ HDS0.out.row
    have mr := fun o => cell_of_row _ _ o _ _ _ HDS0.out.res
    unfold res0 at mr
    have fr := fun o => frozen_of_row _ _ o _ _ HDS0.out.res
    go_wp2_with (first
      | (go_at_call 107; refine (HEQ.out _ _ _ _ HQG.out (Rep.sl_ext HB0.out HDG.out.ext)).mono ?_; rintro e wh ⟨rfl, hE⟩; have HDH := Lib.hid (HDG.out.more hE); have HEH := Lib.hid (HEG.out.ext hE); clear m f mr fr; have m := fun o => cell_of_row _ _ o _ _ _ HDH.out.row; have f := fun o => frozen_of_row _ _ o _ _ HDH.out.row; have mr := fun o => cell_of_row _ _ o _ _ _ HDH.out.res; unfold res0 at mr; have fr := fun o => frozen_of_row _ _ o _ _ HDH.out.res; clear hE)
      | (go_at_call 38; refine (HEN.out _ HEF.out).mono ?_; rintro e wg ⟨vg, Gg, rfl, hVg, hNg⟩; obtain ⟨Ag, cg, rfl, qg⟩ := Rep.slice_V hVg; have HQG := Lib.hid qg; have HDG := Lib.hid (HDF.out.more hNg.ext); have HEG := Lib.hid (HEF.out.ext hNg.ext); clear hVg qg hNg)
      | (go_at_call 29; refine (HRF.out _ (Only.refl _ _)).mono ?_; rintro e wf ⟨rfl, hE⟩; have HDF := Lib.hid (HDS0.out.more hE); have HEF := Lib.hid hE; clear m f mr fr ms fs; have m := fun o => cell_of_row _ _ o _ _ _ HDF.out.row; have f := fun o => frozen_of_row _ _ o _ _ HDF.out.row; have mr := fun o => cell_of_row _ _ o _ _ _ HDF.out.res; unfold res0 at mr; have fr := fun o => frozen_of_row _ _ o _ _ HDF.out.res; clear hE))
    refine bodyPost_ret (v := .agg #[.bool true, .int .i64 k, .int .i64 t, .int .i64 pv, .int .i64 0, .int .i64 0, .bool false, .slice none 0 0, .bool false, .slice none 0 0, .int .i64 0, .int .i64 0, .slice none 0 0, .slice none 0 0, .slice none 0 0]) (by simp [results, Tryd.results46, go_sem, m, mr]) rfl ?_
    exact decRes_good (W := wh) (x := ⟨k, t, pv, 0, 0, ⟨false, []⟩, ⟨false, []⟩, 0, 0, [], [], []⟩) ⟨wk, wt, wp, rfl, rfl, rfl, rfl⟩ (sl0 _ _) (sl0 _ _) (sl0 _ _) (sl0 _ _) (sl0 _ _) (NewIn.nil (w3.heap.size + 1) _) (by omega) (by repeat (first | with_reducible exact HDH.out.ext | ((with_reducible apply Only.set); · exact fun hq => absurd hq (by dsimp only; omega)))) (Up.only (H := [w.heap.size]) (by repeat (first | with_reducible exact Only.refl _ _ | ((with_reducible apply Only.set); · simp))) (by simp; omega))
theorem implDec_plain (w : World) (A : Option Addr) (c : Nat) (b : List Int) (F : List Nat) (h : (Rep.int .u8).sl w A c b F) (hm : b.length ≤ 1048576) (k t pv : Int) (r1 r2 r3 : List Int) (b1 b2 b3 : Bool)
    (hk : rdNum 1 (b, false) = (k, (r1, b1))) (ht : rdNum 4 (r1, b1) = (t, (r2, b2))) (hp : rdNum 8 (r2, b2) = (pv, (r3, b3))) 
    (n1 : ¬ k = 1) (n2 : ¬ k = 2) (n7 : ¬ k = 7) (n8 : ¬ k = 8) :
    Calls Tryd.prog 46 #[.slice A b.length c] w (NewPost Rep.RecordResult (decR ⟨k, t, pv, 0, 0, ⟨false, []⟩, ⟨false, []⟩, 0, 0, [], [], []⟩ b3 b) w) := by
  by_cases hbad : b3 = true
  · rw [show decR _ _ _ = ⟨false, zeroRecD⟩ from if_neg (by rw [hbad]; rintro ⟨hq, -⟩; cases hq)]
    exact implDec_plain_A w A c b F h hm k t pv r1 r2 r3 b1 b2 b3 hk ht hp n1 n2 n7 n8 (.inl hbad)
  have hb0 : b3 = false := by simpa using hbad
  by_cases hf0 : recFault ⟨k, t, pv, 0, 0, ⟨false, []⟩, ⟨false, []⟩, 0, 0, [], [], []⟩ = 0
  case neg =>
    rw [show decR _ _ _ = ⟨false, zeroRecD⟩ from if_neg (by rintro ⟨-, hq, -⟩; exact hf0 hq)]
    exact implDec_plain_A w A c b F h hm k t pv r1 r2 r3 b1 b2 b3 hk ht hp n1 n2 n7 n8 (.inr ⟨hb0, hf0⟩)
  refine implDec_plain_B w A c b F h hm k t pv r1 r2 r3 b1 b2 b3 hk ht hp n1 n2 n7 n8 hb0 hf0 _ ?_
  by_cases hqe : encRec ⟨k, t, pv, 0, 0, ⟨false, []⟩, ⟨false, []⟩, 0, 0, [], [], []⟩ = b
  · exact .inr ⟨hqe, if_pos ⟨hb0, hf0, hqe⟩⟩
  · exact .inl ⟨hqe, if_neg (by rintro ⟨-, -, hq⟩; exact hqe hq)⟩
end Go.Proofs.YtghgjddiheebeaaDoor
