/- DecodeRecord, the specification's: the tables, B. -/
import Derived.Test.YtghgjddiheebeaaDoorMT8
import Derived.Deep.RegionHeld3
import Derived.Deep.DeepCutAuto
import Derived.Deep.CutBlock
namespace Go.Proofs.YtghgjddiheebeaaDoor
open Go.RowKit
set_option linter.unusedSimpArgs false
set_option linter.unusedVariables false

set_option maxRecDepth 100000 in
set_option maxHeartbeats 8000000 in
theorem specDec_7_B (w : World) (A : Option Addr) (c : Nat) (b : List Int) (F : List Nat) (h : (Rep.int .u8).sl w A c b F) (hm : b.length ≤ 1048576) (t pv : Int)
    (hk : getNum (extB b 0 1) = 7) (ht : getNum (extB b 1 4) = t) (hp : getNum (extB b 5 8) = pv) (nt : Int) (nn mm o1 o2 : Nat) (ts : List DTxnEntry) (ds : List DDirtyEntry)
    (h4 : getNum (extB b 13 4) = nt) (h5 : getNum (extB b 17 1) = (nn : Int)) (h6 : rsTs b nn 18 = (ts, o1)) (h7 : getNum (extB b o1 1) = (mm : Int)) (h8 : rsDs b mm (o1 + 1) = (ds, o2)) (hf0 : recFault ⟨7, t, pv, 0, 0, ⟨false, []⟩, ⟨false, []⟩, 0, nt, ts, ds, []⟩ = 0) (R : DRecordResult) (hR : encRec ⟨7, t, pv, 0, 0, ⟨false, []⟩, ⟨false, []⟩, 0, nt, ts, ds, []⟩ ≠ b ∧ R = ⟨false, zeroRecD⟩ ∨ encRec ⟨7, t, pv, 0, 0, ⟨false, []⟩, ⟨false, []⟩, 0, nt, ts, ds, []⟩ = b ∧ R = ⟨true, ⟨7, t, pv, 0, 0, ⟨false, []⟩, ⟨false, []⟩, 0, nt, ts, ds, []⟩⟩) :
    Calls Tryd.prog 45 #[.slice A b.length c] w (NewPost Rep.RecordResult R w) := by
  have HR := Lib.hid hR
  clear hR
  have hby : isByte b := fun z hz => Lib.byte_of_wf (sl_wf h z hz)
  have wk : (Lit.int .i64 7).wf = true := hk ▸ num_wf hby 0 1 (by decide)
  have wt : (Lit.int .i64 t).wf = true := ht ▸ num_wf hby 1 4 (by decide)
  have wp : (Lit.int .i64 pv).wf = true := hp ▸ num_wf hby 5 8 (by decide)
  have hu := Tryd.underlying49
  have hu2 := Tryd.underlying65
  have hu3 := Tryd.underlying129
  have HFL := Lib.hid (Rep.sl_lt h)
  have HB0 := Lib.hid h
  have HBY := Lib.hid hby
  have HK := Lib.hid hk; have HT := Lib.hid ht; have HP := Lib.hid hp
  have HSC := Lib.hid (show SR (w.heap.size + 1) F b 0 ((w.alloc (.cells res0 65)).alloc (.cells #[.slice A b.length c, .int .i64 0] 129)) from
    ⟨⟨A, c, heap_at _ _ (by simp), Rep.sl_ext h ((alloc_ext _ _).ext (alloc_ext _ _))⟩, fun hq => absurd (Rep.sl_lt h _ hq) (by omega)⟩)
  have HRB := Lib.hid ((alloc_ext (w.alloc (.cells res0 65)) (.cells #[.slice A b.length c, .int .i64 0] 129)).heap (heap_alloc_new w (.cells res0 65)) (by simp))
  have HX0 := Lib.hid ((alloc_ext w (.cells res0 65)).ext (alloc_ext _ (.cells #[.slice A b.length c, .int .i64 0] 129)))
  have hz0 : ((w.alloc (.cells res0 65)).alloc (.cells #[.slice A b.length c, .int .i64 0] 129)).heap.size = w.heap.size + 2 := by simp
  have HZ0 := Lib.hid hz0
  clear h hk ht hp hz0
  have wnt : (Lit.int .i64 nt).wf = true := h4 ▸ num_wf hby 13 4 (by decide)
  have hnn : (nn : Int) ≤ 255 := h5 ▸ (num1_room hby 17).2
  have hmm : (mm : Int) ≤ 255 := h7 ▸ (num1_room hby o1).2
  have H4 := Lib.hid h4; have H5 := Lib.hid h5; have H6 := Lib.hid h6; have H7 := Lib.hid h7; have H8 := Lib.hid h8
  have HOB := Lib.hid (⟨by omega, by omega⟩ : nn ≤ 255 ∧ mm ≤ 255)
  clear h4 h5 h6 h7 h8
  go_enter Tryd.func45, Tryd.ntmps45
  go_wp2_with (first
    | (go_at_call 101; refine (HS2.out.num 8 _ rfl (by decide) (by decide) (by decide) hm).mono ?_; rintro e w3 ⟨rfl, h1, hO⟩; rw [HP.out]; have HS3 := Lib.hid h1; have HO3 := Lib.hid (HO2.out.trans hO); clear h1 hO; refine Hid.out ?_)
    | (go_at_call 101; refine (HS1.out.num 4 _ rfl (by decide) (by decide) (by decide) hm).mono ?_; rintro e w2 ⟨rfl, h1, hO⟩; rw [HT.out]; have HS2 := Lib.hid h1; have HO2 := Lib.hid (HO1.out.trans hO); clear h1 hO)
    | (go_at_call 101; refine (HSC.out.num 1 _ rfl (by decide) (by decide) (by decide) hm).mono ?_; rintro e w1 ⟨rfl, h1, hO⟩; rw [HK.out]; have HS1 := Lib.hid h1; have HO1 := Lib.hid hO; clear h1 hO))
  refine Lib.hid ?_
  have hw3 : w.heap.size + 2 ≤ w3.heap.size := by have h1 := HO3.out.size; have h2 := HZ0.out; omega
  have HG := Lib.hid (show Geo w (w.heap.size + 1) w.heap.size w3.heap.size (w3.heap.size + 1) F from ⟨by omega, by omega, by omega, by omega, HFL.out⟩)
  have HDS0 := Lib.hid (show DS (SR (w.heap.size + 1) F b 13) w w.heap.size w3.heap.size (w3.heap.size + 1) #[.int .i64 7, .int .i64 t, .int .i64 pv, .int .i64 0, .int .i64 0, .bool false, .slice none 0 0, .bool false, .slice none 0 0, .int .i64 0, .int .i64 0, .slice none 0 0, .slice none 0 0, .slice none 0 0] (w3.alloc (.cells #[.int .i64 7, .int .i64 t, .int .i64 pv, .int .i64 0, .int .i64 0, .bool false, .slice none 0 0, .bool false, .slice none 0 0, .int .i64 0, .int .i64 0, .slice none 0 0, .slice none 0 0, .slice none 0 0] 49)) from
    ⟨HS3.out.ext (alloc_ext _ _), (alloc_ext _ _).heap (HO3.out.heap HRB.out (by simp)) (by simp), heap_alloc_new _ _, (HX0.out.then_ HO3.out (fun g hg hl => by simp at hg; omega)).ext (alloc_ext _ _), by simp⟩)
  go_wp2_with (first
    | (go_at_call 101; refine (HDS1s.out.numR HG.out 1 _ rfl (by decide) (by decide) (by omega) hm _ 18 H5.out (by omega)).mono ?_; rintro e ww2 ⟨rfl, HDS2, HUP2⟩; have m := fun o => cell_of_row _ _ o _ _ _ HDS2.out.row; have f := fun o => frozen_of_row _ _ o _ _ HDS2.out.row; refine Hid.out ?_)
    | (go_at_call 101; refine (HDS0.out.numR HG.out 4 _ rfl (by decide) (by decide) (by omega) hm _ 17 H4.out (by omega)).mono ?_; rintro e ww1 ⟨rfl, HDS1, HUP1⟩; have m := fun o => cell_of_row _ _ o _ _ _ HDS1.out.row; have f := fun o => frozen_of_row _ _ o _ _ HDS1.out.row; have HDS1s := Lib.hid (show DS (SR (w.heap.size + 1) F b 17) w w.heap.size w3.heap.size (w3.heap.size + 1) #[.int .i64 7, .int .i64 t, .int .i64 pv, .int .i64 0, .int .i64 0, .bool false, .slice none 0 0, .bool false, .slice none 0 0, .int .i64 0, .int .i64 nt, .slice none 0 0, .slice none 0 0, .slice none 0 0] (ww1.setCell ⟨w3.heap.size, 10, none⟩ (.int .i64 nt)) from DS.conv ((HDS1.out).setR HG.out 10 (.int .i64 nt)) (by rfl)); have HUP1s := Lib.hid (show Up (w3.heap.size + 1) ww1 (ww1.setCell ⟨w3.heap.size, 10, none⟩ (.int .i64 nt)) from (by repeat (first | with_reducible exact Up.refl _ _ | (with_reducible refine Up.trans ?_ (Up.set HG.out _ _ _)))))))
  refine Lib.hid ?_
  go_wp2_with fail
  obtain ⟨W0, hW0⟩ : ∃ W0, W0 = ww2 := ⟨_, rfl⟩
  have HST := Lib.hid (show DS (SR (w.heap.size + 1) F b 18) w w.heap.size w3.heap.size (w3.heap.size + 1) #[.int .i64 7, .int .i64 t, .int .i64 pv, .int .i64 0, .int .i64 0, .bool false, .slice none 0 0, .bool false, .slice none 0 0, .int .i64 0, .int .i64 nt, .slice none 0 0, .slice none 0 0, .slice none 0 0] W0 from hW0 ▸ HDS2.out)
  rw [← hW0]
  have HW0 := Lib.hid hW0
  clear hW0
  obtain ⟨i0, hi, hz0, hz1, hz2⟩ := info_parts infoT
  go_loopg [5] nn (fun m i wr => ∃ (o : Nat) (acc : List DTxnEntry) (Ao : Option Addr) (co : Nat), i = .int .i64 m ∧ Hid (DS (SR (w.heap.size + 1) F b o) w w.heap.size w3.heap.size (w3.heap.size + 1) #[.int .i64 7, .int .i64 t, .int .i64 pv, .int .i64 0, .int .i64 0, .bool false, .slice none 0 0, .bool false, .slice none 0 0, .int .i64 0, .int .i64 nt, .slice Ao acc.length co, .slice none 0 0, .slice none 0 0] wr) ∧ Hid (Own Rep.TxnEntry 104 W0.heap.size wr (.slice Ao acc.length co) acc) ∧ Hid (rsTs b nn 18 = (acc ++ (rsTs b m o).1, (rsTs b m o).2)) ∧ Hid (o + 21 * m = 18 + 21 * nn ∧ acc.length + m = nn) ∧ Hid (Only [w.heap.size + 1, w3.heap.size] W0 wr))
  case atStart => exact ⟨18, [], none, 0, rfl, HST, Lib.hid (Own.nil (Nat.le_refl _)), Lib.hid (by simp), Lib.hid ⟨rfl, by simp⟩, Lib.hid (Only.refl _ _)⟩
  case round =>
    obtain ⟨o, acc, Ao, co, rfl, HDJ, HOJ, HEJ, HRJ, HNJ⟩ := hrel
    by_cases hgo : 0 < gk
    · obtain ⟨mq, rfl⟩ : ∃ m, gk = m + 1 := ⟨gk - 1, by omega⟩
      have hmq : mq ≤ 255 := by have := HRJ.out.2; omega
      have hoq : o ≤ 40000 := by have := HRJ.out; have := HOB.out; omega
      clear hgo
      obtain ⟨va, e0⟩ : ∃ v, getNum (extB b o 4) = v := ⟨_, rfl⟩
      have wq0 : (Lit.int .i64 va).wf = true := e0 ▸ num_wf HBY.out o 4 (by decide)
      have E0 := Lib.hid e0
      obtain ⟨vb, e1⟩ : ∃ v, getNum (extB b (o + 4) 1) = v := ⟨_, rfl⟩
      have wq1 : (Lit.int .i64 vb).wf = true := e1 ▸ num_wf HBY.out (o + 4) 1 (by decide)
      have E1 := Lib.hid e1
      obtain ⟨vc, e2⟩ : ∃ v, getNum (extB b (o + 5) 8) = v := ⟨_, rfl⟩
      have wq2 : (Lit.int .i64 vc).wf = true := e2 ▸ num_wf HBY.out (o + 5) 8 (by decide)
      have E2 := Lib.hid e2
      obtain ⟨vd, e3⟩ : ∃ v, getNum (extB b (o + 13) 8) = v := ⟨_, rfl⟩
      have wq3 : (Lit.int .i64 vd).wf = true := e3 ▸ num_wf HBY.out (o + 13) 8 (by decide)
      have E3 := Lib.hid e3
      have HNX := Lib.hid (show rsTs b (mq + 1) o = (⟨va, vb, vc, vd⟩ :: (rsTs b mq (o + 21)).1, (rsTs b mq (o + 21)).2) by rw [rsTs, e0, e1, e2, e3])
      clear e0 e1 e2 e3
      have HO0 := Lib.hid (Only.refl [w.heap.size + 1] wr)
      have hgs := HG.out.s
      go_wp2_with (first
        | (at_builtin; go_must (refine wpList_append_own_at _ rfl _ _ 46 rfl W0.heap.size 104 i0 _ 4 32 Tryd.underlying46 hi hz0 hz1 hz2 rfl (by decide) (.slice Ao acc.length co) acc.length cw rfl HOWN.out ⟨wl4.heap.size, 0, none⟩ 1 1 [.int .i64 va, .int .i64 vb, .int .i64 vc, .int .i64 vd] rfl rfl (cells_new' _ _ _ (by simp [World.setCell])) (by intro u hu; simp at hu; rcases hu with rfl | rfl | rfl | rfl <;> rfl) (by have := HRJ.out.2; unfold maxLen; omega) (by have := HRJ.out.2; omega) hle ?_); intro v' w' hown hgrow hnil hat; obtain ⟨Av, cv, rfl⟩ := ownsRow_form hown; have HDG := Lib.hid (HLK.out.belowR HG.out ((Below.refl (w3.heap.size + 1) _).grown hgrow HLK.out.le (fun g hg => by have h1 := HOWN.out.lt _ hg; have h2 := HST.out.le; omega))); obtain ⟨hr1, hr2⟩ := HAPP.out _ w' hown hgrow hat; have HR1 := Lib.hid hr1; have HR2 := Lib.hid (hr2 [w.heap.size + 1, w3.heap.size] W0 (HNJ.out.trans (HEW.out.more (by simp))) (Nat.le_refl _)); clear m f; have m := fun o => cell_of_row _ _ o _ _ _ HDG.out.row; have f := fun o => frozen_of_row _ _ o _ _ HDG.out.row; clear hown hgrow hnil hat hr1 hr2)
        | (go_at_call 101; refine (HL3s.out.numRO HG.out 8 _ rfl (by decide) (by decide) (by omega) hm vd (o + 21) E3.out (by omega)).mono ?_; rintro e wl4 ⟨rfl, HL4, HOl4⟩; have HO4 := Lib.hid (HO3s.out.trans HOl4.out); have hz4' := HO4.out.size; have HBX4 := Lib.hid (HOl4.out.heap HBX3s.out (by simp; omega)); clear mb fb; have mb := fun o => cell_of_row _ _ o _ _ _ HBX4.out; have fb := fun o => frozen_of_row _ _ o _ _ HBX4.out; have HBX4s := Lib.hid (show (wl4.setCell ⟨wl2.heap.size, 3, none⟩ (.int .i64 vd)).heap[wl2.heap.size]? = some (.cells #[.int .i64 va, .int .i64 vb, .int .i64 vc, .int .i64 vd] 104 (0, 0)) from heap_setCell_same _ _ 3 _ _ _ HBX4.out); have HL4s := Lib.hid (HL4.out.offR HG.out wl2.heap.size 3 (.int .i64 vd) (by omega)); have HO4s := Lib.hid (HO4.out.setCell (p := ⟨wl2.heap.size, 3, none⟩) (fun hq => absurd hq (by dsimp only; omega)) (.int .i64 vd)); have m := fun o => cell_of_row _ _ o _ _ _ HL4.out.row; have f := fun o => frozen_of_row _ _ o _ _ HL4.out.row; have hEW : Only [w.heap.size + 1] wr ((wl4.setCell ⟨wl2.heap.size, 3, none⟩ (.int .i64 vd)).alloc (.cells #[.int .i64 va, .int .i64 vb, .int .i64 vc, .int .i64 vd] 104)) := HO4s.out.alloc _; have HLK := Lib.hid (HL4s.out.moreR (alloc_ext (wl4.setCell ⟨wl2.heap.size, 3, none⟩ (.int .i64 vd)) (.cells #[.int .i64 va, .int .i64 vb, .int .i64 vc, .int .i64 vd] 104))); obtain ⟨cw, ho, hle, happ⟩ := Own.app HOJ.out hEW (fun g hg => .inl (by simp at hg; have := HST.out.le; omega)) (NewIn.nil _ _) (x := (⟨va, vb, vc, vd⟩ : DTxnEntry)) (c := [.int .i64 va, .int .i64 vb, .int .i64 vc, .int .i64 vd]) ⟨rfl, rfl, ⟨wq0, wq1, wq2, wq3⟩⟩; have HAPP := Lib.hid happ; have HOWN := Lib.hid ho; have HEW := Lib.hid hEW; clear happ ho hEW)
        | (go_at_call 101; refine (HL2a.out.numRO HG.out 8 _ rfl (by decide) (by decide) (by omega) hm vc (o + 13) E2.out (by omega)).mono ?_; rintro e wl3 ⟨rfl, HL3, HOl3⟩; have HO3 := Lib.hid (HO2a.out.trans HOl3.out); have hz3' := HO3.out.size; have HBX3 := Lib.hid (HOl3.out.heap HBX2.out (by simp; omega)); clear mb fb; have mb := fun o => cell_of_row _ _ o _ _ _ HBX3.out; have fb := fun o => frozen_of_row _ _ o _ _ HBX3.out; have HBX3s := Lib.hid (show (wl3.setCell ⟨wl2.heap.size, 2, none⟩ (.int .i64 vc)).heap[wl2.heap.size]? = some (.cells #[.int .i64 va, .int .i64 vb, .int .i64 vc, .int .i64 0] 104 (0, 0)) from heap_setCell_same _ _ 2 _ _ _ HBX3.out); have HL3s := Lib.hid (HL3.out.offR HG.out wl2.heap.size 2 (.int .i64 vc) (by omega)); have HO3s := Lib.hid (HO3.out.setCell (p := ⟨wl2.heap.size, 2, none⟩) (fun hq => absurd hq (by dsimp only; omega)) (.int .i64 vc)))
        | (go_at_call 101; refine (HL1.out.numRO HG.out 1 _ rfl (by decide) (by decide) (by omega) hm vb (o + 5) E1.out (by omega)).mono ?_; rintro e wl2 ⟨rfl, HL2, HOl2⟩; have HO2 := Lib.hid (HO1.out.trans HOl2.out); have hz2' := HO2.out.size; have hbx := HL2.out.le; have HL2a := Lib.hid (HL2.out.moreR (alloc_ext wl2 (.cells #[.int .i64 va, .int .i64 vb, .int .i64 0, .int .i64 0] 104))); have HO2a := Lib.hid (HO2.out.alloc (.cells #[.int .i64 va, .int .i64 vb, .int .i64 0, .int .i64 0] 104)); have HBX2 := Lib.hid (heap_alloc_new wl2 (.cells #[.int .i64 va, .int .i64 vb, .int .i64 0, .int .i64 0] 104)); have mb := fun o => cell_of_row _ _ o _ _ _ HBX2.out; have fb := fun o => frozen_of_row _ _ o _ _ HBX2.out)
        | (go_at_call 101; refine (HDJ.out.numRO HG.out 4 _ rfl (by decide) (by decide) (by omega) hm va (o + 4) E0.out (by omega)).mono ?_; rintro e wl1 ⟨rfl, HL1, HOl1⟩; have HO1 := Lib.hid (HO0.out.trans HOl1.out); have hz1' := HO1.out.size))
      go_roundg mq
      case measure => omega
      case rel =>
        have hl : (acc ++ [(⟨va, vb, vc, vd⟩ : DTxnEntry)]).length = acc.length + 1 := by simp
        refine ⟨o + 21, acc ++ [(⟨va, vb, vc, vd⟩ : DTxnEntry)], Av, cv, by go_num, Lib.hid ?_, Lib.hid ?_, Lib.hid ?_, Lib.hid ⟨by have := HRJ.out.1; omega, by have := HRJ.out.2; rw [hl]; omega⟩, Lib.hid (HR2.out.setCell (fun _ => by simp) _)⟩
        · rw [hl]; exact DS.conv (HDG.out.setR HG.out 11 _) (by rfl)
        · rw [hl]; exact HR1.out.keep ((Only.refl [w3.heap.size] _).setCell (by simp) _) (fun g hg => .inl (by simp at hg; have := HST.out.le; omega))
        · rw [HEJ.out, HNX.out]; simp
    · obtain rfl : gk = 0 := by omega
      clear hgo
      have heq := H6.out.symm.trans HEJ.out
      simp only [rsTs, List.append_nil] at heq
      obtain ⟨rfl, rfl⟩ : ts = acc ∧ o1 = o := by injection heq with h1 h2; exact ⟨h1, h2⟩
      clear heq
      have hob : o1 ≤ 20000 := by have := HRJ.out; have := HOB.out; omega
      obtain ⟨A3q, hA3q⟩ : ∃ A, A = Ao := ⟨_, rfl⟩
      obtain ⟨c3q, hc3q⟩ : ∃ c, c = co := ⟨_, rfl⟩
      subst hA3q; subst hc3q
      go_wp2_with (go_at_call 101; refine (HDJ.out.numRO HG.out 1 _ rfl (by decide) (by decide) (by omega) hm _ _ H7.out rfl).mono ?_; rintro e wt1 ⟨rfl, HDW, HOW⟩; refine Hid.out ?_)
      refine Lib.hid ?_
      obtain ⟨G3, hs3, hn3⟩ := (HOJ.out.keep HOW.out (fun g hg => .inl (by simp at hg; have := HST.out.le; omega))).sl
      have HS3 := Lib.hid hs3
      have HN3 := Lib.hid (hn3.mono HST.out.le)
      clear hs3 hn3 m f
      clear HST HW0 hi hz0 hz1 hz2 HEJ HRJ HNJ HOJ
      have HOB' := Lib.hid (⟨HOB.out.2, hob⟩ : mm ≤ 255 ∧ o1 ≤ 20000)
      clear HOB
      have HOB := HOB'
      go_wp2_with fail
      obtain ⟨W0, hW0⟩ : ∃ W0, W0 = wt1 := ⟨_, rfl⟩
      have HST := Lib.hid (show DS (SR (w.heap.size + 1) F b (o1 + 1)) w w.heap.size w3.heap.size (w3.heap.size + 1) #[.int .i64 7, .int .i64 t, .int .i64 pv, .int .i64 0, .int .i64 0, .bool false, .slice none 0 0, .bool false, .slice none 0 0, .int .i64 0, .int .i64 nt, .slice A3q ts.length c3q, .slice none 0 0, .slice none 0 0] W0 from hW0 ▸ HDW.out)
      rw [← hW0]
      have HW0 := Lib.hid hW0
      clear hW0
      obtain ⟨i0, hi, hz0, hz1, hz2⟩ := info_parts infoD
      go_loopg [7] mm (fun m i wr => ∃ (o : Nat) (acc : List DDirtyEntry) (Ao : Option Addr) (co : Nat), i = .int .i64 m ∧ Hid (DS (SR (w.heap.size + 1) F b o) w w.heap.size w3.heap.size (w3.heap.size + 1) #[.int .i64 7, .int .i64 t, .int .i64 pv, .int .i64 0, .int .i64 0, .bool false, .slice none 0 0, .bool false, .slice none 0 0, .int .i64 0, .int .i64 nt, .slice A3q ts.length c3q, .slice Ao acc.length co, .slice none 0 0] wr) ∧ Hid (Own Rep.DirtyEntry 106 W0.heap.size wr (.slice Ao acc.length co) acc) ∧ Hid (rsDs b mm (o1 + 1) = (acc ++ (rsDs b m o).1, (rsDs b m o).2)) ∧ Hid (o + 10 * m = (o1 + 1) + 10 * mm ∧ acc.length + m = mm) ∧ Hid (Only [w.heap.size + 1, w3.heap.size] W0 wr))
      case atStart => exact ⟨(o1 + 1), [], none, 0, rfl, HST, Lib.hid (Own.nil (Nat.le_refl _)), Lib.hid (by simp), Lib.hid ⟨rfl, by simp⟩, Lib.hid (Only.refl _ _)⟩
      case round =>
        obtain ⟨o, acc, Ao, co, rfl, HDJ, HOJ, HEJ, HRJ, HNJ⟩ := hrel
        by_cases hgo : 0 < gk
        · obtain ⟨mq, rfl⟩ : ∃ m, gk = m + 1 := ⟨gk - 1, by omega⟩
          have hmq : mq ≤ 255 := by have := HRJ.out.2; omega
          have hoq : o ≤ 40000 := by have := HRJ.out; have := HOB.out; omega
          clear hgo
          obtain ⟨va, e0⟩ : ∃ v, getNum (extB b o 2) = v := ⟨_, rfl⟩
          have wq0 : (Lit.int .i64 va).wf = true := e0 ▸ num_wf HBY.out o 2 (by decide)
          have E0 := Lib.hid e0
          obtain ⟨vb, e1⟩ : ∃ v, getNum (extB b (o + 2) 8) = v := ⟨_, rfl⟩
          have wq1 : (Lit.int .i64 vb).wf = true := e1 ▸ num_wf HBY.out (o + 2) 8 (by decide)
          have E1 := Lib.hid e1
          have HNX := Lib.hid (show rsDs b (mq + 1) o = (⟨va, vb⟩ :: (rsDs b mq (o + 10)).1, (rsDs b mq (o + 10)).2) by rw [rsDs, e0, e1])
          clear e0 e1
          have HO0 := Lib.hid (Only.refl [w.heap.size + 1] wr)
          have hgs := HG.out.s
          go_wp2_with (first
            | (at_builtin; go_must (refine wpList_append_own_at _ rfl _ _ 47 rfl W0.heap.size 106 i0 _ 2 16 Tryd.underlying47 hi hz0 hz1 hz2 rfl (by decide) (.slice Ao acc.length co) acc.length cw rfl HOWN.out ⟨wl2.heap.size, 0, none⟩ 1 1 [.int .i64 va, .int .i64 vb] rfl rfl (cells_new' _ _ _ (by simp [World.setCell])) (by intro u hu; simp at hu; rcases hu with rfl | rfl <;> rfl) (by have := HRJ.out.2; unfold maxLen; omega) (by have := HRJ.out.2; omega) hle ?_); intro v' w' hown hgrow hnil hat; obtain ⟨Av, cv, rfl⟩ := ownsRow_form hown; have HDG := Lib.hid (HLK.out.belowR HG.out ((Below.refl (w3.heap.size + 1) _).grown hgrow HLK.out.le (fun g hg => by have h1 := HOWN.out.lt _ hg; have h2 := HST.out.le; omega))); obtain ⟨hr1, hr2⟩ := HAPP.out _ w' hown hgrow hat; have HR1 := Lib.hid hr1; have HR2 := Lib.hid (hr2 [w.heap.size + 1, w3.heap.size] W0 (HNJ.out.trans (HEW.out.more (by simp))) (Nat.le_refl _)); clear m f; have m := fun o => cell_of_row _ _ o _ _ _ HDG.out.row; have f := fun o => frozen_of_row _ _ o _ _ HDG.out.row; clear hown hgrow hnil hat hr1 hr2)
            | (go_at_call 101; refine (HL1a.out.numRO HG.out 8 _ rfl (by decide) (by decide) (by omega) hm vb (o + 10) E1.out (by omega)).mono ?_; rintro e wl2 ⟨rfl, HL2, HOl2⟩; have HO2 := Lib.hid (HO1a.out.trans HOl2.out); have hz2' := HO2.out.size; have HBX2 := Lib.hid (HOl2.out.heap HBX1.out (by simp; omega)); clear mb fb; have mb := fun o => cell_of_row _ _ o _ _ _ HBX2.out; have fb := fun o => frozen_of_row _ _ o _ _ HBX2.out; have HBX2s := Lib.hid (show (wl2.setCell ⟨wl1.heap.size, 1, none⟩ (.int .i64 vb)).heap[wl1.heap.size]? = some (.cells #[.int .i64 va, .int .i64 vb] 106 (0, 0)) from heap_setCell_same _ _ 1 _ _ _ HBX2.out); have HL2s := Lib.hid (HL2.out.offR HG.out wl1.heap.size 1 (.int .i64 vb) (by omega)); have HO2s := Lib.hid (HO2.out.setCell (p := ⟨wl1.heap.size, 1, none⟩) (fun hq => absurd hq (by dsimp only; omega)) (.int .i64 vb)); have m := fun o => cell_of_row _ _ o _ _ _ HL2.out.row; have f := fun o => frozen_of_row _ _ o _ _ HL2.out.row; have hEW : Only [w.heap.size + 1] wr ((wl2.setCell ⟨wl1.heap.size, 1, none⟩ (.int .i64 vb)).alloc (.cells #[.int .i64 va, .int .i64 vb] 106)) := HO2s.out.alloc _; have HLK := Lib.hid (HL2s.out.moreR (alloc_ext (wl2.setCell ⟨wl1.heap.size, 1, none⟩ (.int .i64 vb)) (.cells #[.int .i64 va, .int .i64 vb] 106))); obtain ⟨cw, ho, hle, happ⟩ := Own.app HOJ.out hEW (fun g hg => .inl (by simp at hg; have := HST.out.le; omega)) (NewIn.nil _ _) (x := (⟨va, vb⟩ : DDirtyEntry)) (c := [.int .i64 va, .int .i64 vb]) ⟨rfl, rfl, ⟨wq0, wq1⟩⟩; have HAPP := Lib.hid happ; have HOWN := Lib.hid ho; have HEW := Lib.hid hEW; clear happ ho hEW)
            | (go_at_call 101; refine (HDJ.out.numRO HG.out 2 _ rfl (by decide) (by decide) (by omega) hm va (o + 2) E0.out (by omega)).mono ?_; rintro e wl1 ⟨rfl, HL1, HOl1⟩; have HO1 := Lib.hid (HO0.out.trans HOl1.out); have hz1' := HO1.out.size; have hbx := HL1.out.le; have HL1a := Lib.hid (HL1.out.moreR (alloc_ext wl1 (.cells #[.int .i64 va, .int .i64 0] 106))); have HO1a := Lib.hid (HO1.out.alloc (.cells #[.int .i64 va, .int .i64 0] 106)); have HBX1 := Lib.hid (heap_alloc_new wl1 (.cells #[.int .i64 va, .int .i64 0] 106)); have mb := fun o => cell_of_row _ _ o _ _ _ HBX1.out; have fb := fun o => frozen_of_row _ _ o _ _ HBX1.out))
          go_roundg mq
          case measure => omega
          case rel =>
            have hl : (acc ++ [(⟨va, vb⟩ : DDirtyEntry)]).length = acc.length + 1 := by simp
            refine ⟨o + 10, acc ++ [(⟨va, vb⟩ : DDirtyEntry)], Av, cv, by go_num, Lib.hid ?_, Lib.hid ?_, Lib.hid ?_, Lib.hid ⟨by have := HRJ.out.1; omega, by have := HRJ.out.2; rw [hl]; omega⟩, Lib.hid (HR2.out.setCell (fun _ => by simp) _)⟩
            · rw [hl]; exact DS.conv (HDG.out.setR HG.out 12 _) (by rfl)
            · rw [hl]; exact HR1.out.keep ((Only.refl [w3.heap.size] _).setCell (by simp) _) (fun g hg => .inl (by simp at hg; have := HST.out.le; omega))
            · rw [HEJ.out, HNX.out]; simp
        · obtain rfl : gk = 0 := by omega
          clear hgo
          have heq := H8.out.symm.trans HEJ.out
          simp only [rsDs, List.append_nil] at heq
          obtain ⟨rfl, rfl⟩ : ds = acc ∧ o2 = o := by injection heq with h1 h2; exact ⟨h1, h2⟩
          clear heq
          obtain ⟨G4, hs4, hn4⟩ := HOJ.out.sl
          have HS4 := Lib.hid hs4; have HN4 := Lib.hid hn4
          clear hs4 hn4
          have hWe := HW0.out
          subst hWe
          have HUF := Lib.hid (Up.two (n := w3.heap.size + 1) HNJ.out (by omega) (by omega))
          have HSA3 := Lib.hid (HUF.out.sl HS3.out HN3.out)
          have HNB3 := Lib.hid (HUF.out.newIn (Nat.le_refl _) HN3.out)
          have HNF := Lib.hid (show NewIn (w3.heap.size + 1) wr ([] ++ [] ++ G3 ++ G4 ++ []) by simpa using NewIn.join HNB3.out HN4.out HST.out.le (fun g hg => HN3.out.lt g hg))
          have HDE := HDJ
          have HV := Lib.hid (show Rep.LogRecord.V wr (.agg #[.int .i64 7, .int .i64 t, .int .i64 pv, .int .i64 0, .int .i64 0, .bool false, .slice none 0 0, .bool false, .slice none 0 0, .int .i64 0, .int .i64 nt, .slice A3q ts.length c3q, .slice Ao ds.length co, .slice none 0 0]) ⟨7, t, pv, 0, 0, ⟨false, []⟩, ⟨false, []⟩, 0, nt, ts, ds, []⟩ ([] ++ [] ++ G3 ++ G4 ++ []) from ⟨_, ⟨none, 0, [], none, 0, [], A3q, c3q, G3, Ao, co, G4, none, 0, [], rfl, rfl, ⟨rfl, wt, wp, rfl, rfl, rfl, wnt⟩, sl0 _ _, sl0 _ _, HSA3.out, HS4.out, sl0 _ _⟩, rfl⟩)
          obtain ⟨fz, hfz⟩ : ∃ f, f = recFault ⟨7, t, pv, 0, 0, ⟨false, []⟩, ⟨false, []⟩, 0, nt, ts, ds, []⟩ := ⟨_, rfl⟩
          have HRF : Hid (∀ W, Ext wr W → Calls Tryd.prog 27 #[.agg #[.int .i64 7, .int .i64 t, .int .i64 pv, .int .i64 0, .int .i64 0, .bool false, .slice none 0 0, .bool false, .slice none 0 0, .int .i64 0, .int .i64 nt, .slice A3q ts.length c3q, .slice Ao ds.length co, .slice none 0 0]] W fun e w' => e = .returned (.int .i64 fz) ∧ Ext W w') := Lib.hid fun W hW => by rw [hfz]; exact specRecordFault_calls W _ ⟨7, t, pv, 0, 0, ⟨false, []⟩, ⟨false, []⟩, 0, nt, ts, ds, []⟩ _ (V_ext HV.out hW)
          rw [← hfz] at hf0
          clear hfz
          have HEN : Hid (∀ W, Ext wr W → Calls Tryd.prog 37 #[.agg #[.int .i64 7, .int .i64 t, .int .i64 pv, .int .i64 0, .int .i64 0, .bool false, .slice none 0 0, .bool false, .slice none 0 0, .int .i64 0, .int .i64 nt, .slice A3q ts.length c3q, .slice Ao ds.length co, .slice none 0 0]] W (NewPost (Rep.int .u8).slice (encRec ⟨7, t, pv, 0, 0, ⟨false, []⟩, ⟨false, []⟩, 0, nt, ts, ds, []⟩) W)) := Lib.hid fun W hW => specEncode_new W _ ⟨7, t, pv, 0, 0, ⟨false, []⟩, ⟨false, []⟩, 0, nt, ts, ds, []⟩ _ (V_ext HV.out hW)
          subst hf0
          obtain ⟨L, hL⟩ : ∃ l, l = encRec ⟨7, t, pv, 0, 0, ⟨false, []⟩, ⟨false, []⟩, 0, nt, ts, ds, []⟩ := ⟨_, rfl⟩
          have hLb := encRec_len ⟨7, t, pv, 0, 0, ⟨false, []⟩, ⟨false, []⟩, 0, nt, ts, ds, []⟩
          have hR := HR.out
          rw [← hL] at HEN hLb hR
          obtain ⟨q, hq⟩ : ∃ q, q = decide (L = b) := ⟨_, rfl⟩
          have HEQ : Hid (∀ W A' c' F', (Rep.int .u8).sl W A' c' L F' → (Rep.int .u8).sl W A c b F → Calls Tryd.prog 104 #[.slice A' L.length c', .slice A b.length c] W fun e w' => e = .returned (.bool q) ∧ Ext W w') := Lib.hid fun W A' c' F' h1 h2 => by rw [hq]; exact l1Same_calls W A' c' L F' A c b F h1 h2
          clear HR hL
          rcases hR with ⟨hqe, rfl⟩ | ⟨hqe, rfl⟩
          · obtain rfl : q = false := hq.trans (decide_eq_false hqe)
            clear hqe hq
            have m := fun o => cell_of_row _ _ o _ _ _ HDE.out.row
            have f := fun o => frozen_of_row _ _ o _ _ HDE.out.row
            have mr := fun o => cell_of_row _ _ o _ _ _ HDE.out.res
            unfold res0 at mr
            have fr := fun o => frozen_of_row _ _ o _ _ HDE.out.res
            go_wp2_with (first
              | (go_at_call 104; refine (HEQ.out _ _ _ _ HQG.out (Rep.sl_ext HB0.out HDG.out.ext)).mono ?_; rintro e wh ⟨rfl, hE⟩; have HDH := Lib.hid (HDG.out.moreR hE); have HEH := Lib.hid (HEG.out.ext hE); clear m f mr fr; have m := fun o => cell_of_row _ _ o _ _ _ HDH.out.row; have f := fun o => frozen_of_row _ _ o _ _ HDH.out.row; have mr := fun o => cell_of_row _ _ o _ _ _ HDH.out.res; unfold res0 at mr; have fr := fun o => frozen_of_row _ _ o _ _ HDH.out.res; clear hE)
              | (go_at_call 37; refine (HEN.out _ HEF.out).mono ?_; rintro e wg ⟨vg, Gg, rfl, hVg, hNg⟩; obtain ⟨Ag, cg, rfl, qg⟩ := Rep.slice_V hVg; have HQG := Lib.hid qg; have HDG := Lib.hid (HDF.out.moreR hNg.ext); have HEG := Lib.hid (HEF.out.ext hNg.ext); clear hVg qg hNg)
              | (go_at_call 27; refine (HRF.out _ (Only.refl _ _)).mono ?_; rintro e wf ⟨rfl, hE⟩; have HDF := Lib.hid (HDE.out.moreR hE); have HEF := Lib.hid hE; clear m f mr fr; have m := fun o => cell_of_row _ _ o _ _ _ HDF.out.row; have f := fun o => frozen_of_row _ _ o _ _ HDF.out.row; have mr := fun o => cell_of_row _ _ o _ _ _ HDF.out.res; unfold res0 at mr; have fr := fun o => frozen_of_row _ _ o _ _ HDF.out.res; clear hE))
            refine bodyPost_ret (v := .agg res0) (by simp [results, Tryd.results45, go_sem, mr, res0]) rfl ?_
            exact decRes_zero (by repeat (first | with_reducible exact HDH.out.ext | ((with_reducible apply Only.set); · exact fun hq => absurd hq (by dsimp only; omega))))
          · obtain rfl : q = true := hq.trans (decide_eq_true hqe)
            clear hqe hq
            have m := fun o => cell_of_row _ _ o _ _ _ HDE.out.row
            have f := fun o => frozen_of_row _ _ o _ _ HDE.out.row
            have mr := fun o => cell_of_row _ _ o _ _ _ HDE.out.res
            unfold res0 at mr
            have fr := fun o => frozen_of_row _ _ o _ _ HDE.out.res
            go_wp2_with (first
              | (go_at_call 104; refine (HEQ.out _ _ _ _ HQG.out (Rep.sl_ext HB0.out HDG.out.ext)).mono ?_; rintro e wh ⟨rfl, hE⟩; have HDH := Lib.hid (HDG.out.moreR hE); have HEH := Lib.hid (HEG.out.ext hE); clear m f mr fr; have m := fun o => cell_of_row _ _ o _ _ _ HDH.out.row; have f := fun o => frozen_of_row _ _ o _ _ HDH.out.row; have mr := fun o => cell_of_row _ _ o _ _ _ HDH.out.res; unfold res0 at mr; have fr := fun o => frozen_of_row _ _ o _ _ HDH.out.res; clear hE)
              | (go_at_call 37; refine (HEN.out _ HEF.out).mono ?_; rintro e wg ⟨vg, Gg, rfl, hVg, hNg⟩; obtain ⟨Ag, cg, rfl, qg⟩ := Rep.slice_V hVg; have HQG := Lib.hid qg; have HDG := Lib.hid (HDF.out.moreR hNg.ext); have HEG := Lib.hid (HEF.out.ext hNg.ext); clear hVg qg hNg)
              | (go_at_call 27; refine (HRF.out _ (Only.refl _ _)).mono ?_; rintro e wf ⟨rfl, hE⟩; have HDF := Lib.hid (HDE.out.moreR hE); have HEF := Lib.hid hE; clear m f mr fr; have m := fun o => cell_of_row _ _ o _ _ _ HDF.out.row; have f := fun o => frozen_of_row _ _ o _ _ HDF.out.row; have mr := fun o => cell_of_row _ _ o _ _ _ HDF.out.res; unfold res0 at mr; have fr := fun o => frozen_of_row _ _ o _ _ HDF.out.res; clear hE))
            refine bodyPost_ret (v := .agg #[.bool true, .int .i64 7, .int .i64 t, .int .i64 pv, .int .i64 0, .int .i64 0, .bool false, .slice none 0 0, .bool false, .slice none 0 0, .int .i64 0, .int .i64 nt, .slice A3q ts.length c3q, .slice Ao ds.length co, .slice none 0 0]) (by simp [results, Tryd.results45, go_sem, m, mr]) rfl ?_
            exact decRes_good (W := wh) (x := ⟨7, t, pv, 0, 0, ⟨false, []⟩, ⟨false, []⟩, 0, nt, ts, ds, []⟩) ⟨rfl, wt, wp, rfl, rfl, rfl, wnt⟩ (sl0 _ _) (sl0 _ _) (Rep.sl_ext HSA3.out HEH.out) (Rep.sl_ext HS4.out HEH.out) (sl0 _ _) ((Up.only HEH.out (by simp)).newIn (Nat.le_refl _) HNF.out) (by omega) (by repeat (first | with_reducible exact HDH.out.ext | ((with_reducible apply Only.set); · exact fun hq => absurd hq (by dsimp only; omega)))) (Up.only (H := [w.heap.size]) (by repeat (first | with_reducible exact Only.refl _ _ | ((with_reducible apply Only.set); · simp))) (by simp; omega))
end Go.Proofs.YtghgjddiheebeaaDoor
