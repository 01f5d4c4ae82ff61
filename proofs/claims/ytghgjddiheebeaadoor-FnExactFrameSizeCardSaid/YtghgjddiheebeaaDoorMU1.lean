/- UndoOf: both packages. -/
import Derived.Test.YtghgjddiheebeaaDoorMX23
import Derived.Test.YtghgjddiheebeaaDoorMG2
import Derived.Deep.RegionHeld3
namespace Go.Proofs.YtghgjddiheebeaaDoor
open Go.RowKit
set_option linter.unusedSimpArgs false
set_option linter.unusedVariables false
def zeroRecD : DLogRecord := ⟨0, 0, 0, 0, 0, ⟨false, []⟩, ⟨false, []⟩, 0, 0, [], [], []⟩
open Classical in
noncomputable def undoOf (x : DLogRecord) : DLogRecord :=
  if recFault x ≠ 0 ∨ x.Kind ≠ 1 then zeroRecD else ⟨2, x.Txn, 0, x.Page, x.Slot, ⟨false, []⟩, ⟨x.Before.Used, x.Before.Data⟩, x.Prev, 0, [], [], []⟩
theorem undoRes_zero {w w' : World} (hO : Ext w w') : NewPost Rep.LogRecord zeroRecD w (.returned (.agg #[.int .i64 0, .int .i64 0, .int .i64 0, .int .i64 0, .int .i64 0, .bool false, .slice none 0 0, .bool false, .slice none 0 0, .int .i64 0, .int .i64 0, .slice none 0 0, .slice none 0 0, .slice none 0 0])) w' :=
  ⟨_, [], rfl, ⟨_, ⟨none, 0, [], none, 0, [], none, 0, [], none, 0, [], none, 0, [], rfl, rfl, ⟨rfl, rfl, rfl, rfl, rfl, rfl, rfl⟩, Rep.sl_nil (by simp), Rep.sl_nil (by simp), Rep.sl_nil (by simp), Rep.sl_nil (by simp), Rep.sl_nil (by simp)⟩, rfl⟩, hO, by simp, by simp, by simp [Unfr]⟩
theorem undoRes_new {w w1 w2 w3 : World} {A : Option Addr} {c : Nat} {t pg sl un : Int} {u : Bool} {bs : List Int} {F : List Nat} (hV : (Rep.int .u8).sl w2 A c bs F) (hN : New w1 w2 F) (hE : Ext w w1) (hb : w.heap.size + 1 < w1.heap.size) (hO : Only [w.heap.size + 1] w2 w3)
    (h1 : (Lit.int .i64 t).wf = true) (h2 : (Lit.int .i64 pg).wf = true) (h3 : (Lit.int .i64 sl).wf = true) (h4 : (Lit.int .i64 un).wf = true) :
    NewPost Rep.LogRecord ⟨2, t, 0, pg, sl, ⟨false, []⟩, ⟨u, bs⟩, un, 0, [], [], []⟩ w (.returned (.agg #[.int .i64 2, .int .i64 t, .int .i64 0, .int .i64 pg, .int .i64 sl, .bool false, .slice none 0 0, .bool u, .slice A bs.length c, .int .i64 un, .int .i64 0, .slice none 0 0, .slice none 0 0, .slice none 0 0])) w3 := by
  have hd : ∀ b ∈ F, b ∉ [w.heap.size + 1] := fun b hb' hm => by have := hN.new b hb'; simp at hm; omega
  refine ⟨_, F, rfl, ⟨_, ⟨none, 0, [], A, c, F, none, 0, [], none, 0, [], none, 0, [], rfl, by simp, ⟨rfl, h1, rfl, h2, h3, h4, rfl⟩, Rep.sl_nil (by simp), Rep.sl_only hV hO hd, Rep.sl_nil (by simp), Rep.sl_nil (by simp), Rep.sl_nil (by simp)⟩, rfl⟩, ?_, fun g hg => Nat.le_trans hE.size (hN.new g hg), hN.nodup, hN.unfr.only hO (Rep.sl_lt hV) hd⟩
  exact (hE.ext hN.ext).then_ hO (fun g hg hlt => by simp at hg; omega)

set_option maxRecDepth 100000 in
set_option maxHeartbeats 4000000 in
theorem l4CopySlot_calls (u : Bool) (A : Option Addr) (c : Nat) (bs : List Int) (F : List Nat) (w : World) (h : (Rep.int .u8).sl w A c bs F) (hn : bs.length ≤ 1048576) :
    Calls Tryd.prog 84 #[.agg #[.bool u, .slice A bs.length c]] w fun e w' => ∃ A' c' F', e = .returned (.agg #[.bool u, .slice A' bs.length c']) ∧ (Rep.int .u8).sl w' A' c' bs F' ∧ New w w' F' := by
  have hu := Tryd.underlying33
  have hE0 := (alloc_ext w (.cells #[.bool u, .slice A bs.length c] 33)).ext (alloc_ext _ (.cells #[.bool false, .slice none 0 0] 33))
  have HE0 := Lib.hid hE0
  have HS := Lib.hid h
  have c0 : ((w.alloc (.cells #[.bool u, .slice A bs.length c] 33)).alloc (.cells #[.bool false, .slice none 0 0] 33)).cell? ⟨w.heap.size, 0, none⟩ = some (.bool u) := (alloc_ext _ _).ecell (alloc_cell (Only.refl _ _) 0)
  have c1 : ((w.alloc (.cells #[.bool u, .slice A bs.length c] 33)).alloc (.cells #[.bool false, .slice none 0 0] 33)).cell? ⟨w.heap.size, 1, none⟩ = some (.slice A bs.length c) := (alloc_ext _ _).ecell (alloc_cell (Only.refl _ _) 1)
  have hB : ((w.alloc (.cells #[.bool u, .slice A bs.length c] 33)).alloc (.cells #[.bool false, .slice none 0 0] 33)).heap[w.heap.size + 1]? = some (.cells #[.bool false, .slice none 0 0] 33 (0, 0)) := heap_at _ _ (by simp)
  have hz : ((w.alloc (.cells #[.bool u, .slice A bs.length c] 33)).alloc (.cells #[.bool false, .slice none 0 0] 33)).heap.size = w.heap.size + 2 := by simp
  have HB := Lib.hid hB; have HZ := Lib.hid hz
  clear hE0 h hB hz
  go_enter Tryd.func84, Tryd.ntmps84
  go_wp2_with fail
  generalize ((w.alloc (.cells #[.bool u, .slice A bs.length c] 33)).alloc (.cells #[.bool false, .slice none 0 0] 33)) = W0 at *
  go_region_held3 (fun w' => w'.cell? ⟨w.heap.size, 0, none⟩ = some (.bool u) ∧ w'.cell? ⟨w.heap.size, 1, none⟩ = some (.slice A bs.length c))
    (first | go_keep | exact ⟨hN5.ext.ecell c0, hN5.ext.ecell c1⟩)
    (first
      | (go_at_call 51; refine (l1Copy_calls _ _ _ _ _ (Rep.sl_ext HS.out (HE0.out.drew)) (by omega)).mono ?_; rintro e w5 ⟨v5, G5, rfl, hV5, hN5⟩; obtain ⟨A5, c5, rfl, q5⟩ := Rep.slice_V hV5; have m := fun o => cell_of_row _ _ o _ _ _ (hN5.ext.heap HB.out (by simp)); have f := fun o => frozen_of_row _ _ o _ _ (hN5.ext.heap HB.out (by simp))))
  have HN := Lib.hid hN5; have HQ := Lib.hid q5
  clear hN5 q5 hV5
  go_wp2
  refine bodyPost_ret (v := .agg #[.bool u, .slice A5 bs.length c5]) (by simp [results, Tryd.results84, go_sem, m]) rfl ?_
  have hO : Only [w.heap.size + 1] w5 ((w5.setCell ⟨w.heap.size + 1, 0, none⟩ (.bool u)).setCell ⟨w.heap.size + 1, 1, none⟩ (.slice A5 bs.length c5)) := by repeat (first | with_reducible exact Only.refl _ _ | ((with_reducible apply Only.set); · first | (simp; done) | exact fun hq => absurd hq (by dsimp only; omega)))
  have hz := HZ.out; have hzz := HE0.out.size
  have hd : ∀ b ∈ G5, b ∉ [w.heap.size + 1] := fun b hb' hm => by have := HN.out.new b hb'; simp only [World.drew] at this; simp at hm; omega
  exact ⟨A5, c5, G5, rfl, Rep.sl_only HQ.out hO hd, ((HE0.out.drew).ext HN.out.ext).then_ hO (fun g hg hlt => by simp at hg; omega), fun g hg => Nat.le_trans (HE0.out.drew).size (HN.out.new g hg), HN.out.nodup, HN.out.unfr.only hO (Rep.sl_lt HQ.out) hd⟩

set_option maxRecDepth 100000 in
set_option maxHeartbeats 8000000 in
theorem specUndoOf_new (w : World) (v : Value) (x : DLogRecord) (F : List Nat) (h : Rep.LogRecord.V w v x F) (hs : wtLogRecord x ≤ 1048576) :
    Calls Tryd.prog 31 #[v] w (NewPost Rep.LogRecord (undoOf x) w) := by
  obtain ⟨_, ⟨A1, c1, F1, A2, c2, F2, A3, c3, F3, A4, c4, F4, A5, c5, F5, rfl, rfl, hw, s1, s2, s3, s4, s5⟩, rfl⟩ := h
  show Calls _ _ #[.agg #[_, _, _, _, _, _, _, _, _, _, _, _, _, _]] _ _
  obtain ⟨k, t, pv, pg, sl, ⟨u1, d1⟩, ⟨u2, d2⟩, un, nt, ts, ds, im⟩ := x
  obtain ⟨w0, w1, w2, w3, w4, w5, w6⟩ := hw
  have hl1 : d1.length ≤ 1048576 := by simp only [wtLogRecord, wtPageRecord] at hs; omega
  have hu := Tryd.underlying49
  have hu2 := Tryd.underlying33
  obtain ⟨fz, hfz⟩ : ∃ f, f = recFault ⟨k, t, pv, pg, sl, ⟨u1, d1⟩, ⟨u2, d2⟩, un, nt, ts, ds, im⟩ := ⟨_, rfl⟩
  have HC : Hid (∀ W, Ext w W → Calls Tryd.prog 27 #[.agg #[.int .i64 k, .int .i64 t, .int .i64 pv, .int .i64 pg, .int .i64 sl, .bool u1, .slice A1 d1.length c1, .bool u2, .slice A2 d2.length c2, .int .i64 un, .int .i64 nt, .slice A3 ts.length c3, .slice A4 ds.length c4, .slice A5 im.length c5]] W fun e w' => e = .returned (.int .i64 fz) ∧ Ext W w') := by
    intro W hW
    rw [hfz]
    exact specRecordFault_calls W _ ⟨k, t, pv, pg, sl, ⟨u1, d1⟩, ⟨u2, d2⟩, un, nt, ts, ds, im⟩ _ ⟨_, ⟨A1, c1, F1, A2, c2, F2, A3, c3, F3, A4, c4, F4, A5, c5, F5, rfl, rfl, ⟨w0, w1, w2, w3, w4, w5, w6⟩, Rep.sl_ext s1 hW, Rep.sl_ext s2 hW, Rep.sl_ext s3 hW, Rep.sl_ext s4 hW, Rep.sl_ext s5 hW⟩, rfl⟩
  have S1 := Lib.hid s1; have W1 := Lib.hid w1; have W2 := Lib.hid w2; have W3 := Lib.hid w3; have W4 := Lib.hid w4
  clear s1 s2 s3 s4 s5 w0 w1 w2 w3 w4 w5 w6 hs
  dsimp only
  by_cases hbad : fz ≠ 0 ∨ k ≠ 1
  · rw [show undoOf _ = zeroRecD from if_pos (by rw [← hfz]; exact hbad)]
    clear hfz
    have hB := heap_at (w.alloc (.cells #[.int .i64 k, .int .i64 t, .int .i64 pv, .int .i64 pg, .int .i64 sl, .bool u1, .slice A1 d1.length c1, .bool u2, .slice A2 d2.length c2, .int .i64 un, .int .i64 nt, .slice A3 ts.length c3, .slice A4 ds.length c4, .slice A5 im.length c5] 49)) (.cells #[.int .i64 0, .int .i64 0, .int .i64 0, .int .i64 0, .int .i64 0, .bool false, .slice none 0 0, .bool false, .slice none 0 0, .int .i64 0, .int .i64 0, .slice none 0 0, .slice none 0 0, .slice none 0 0] 49) (k := w.heap.size + 1) (by simp)
    have HB := Lib.hid hB
    have HEE := Lib.hid ((alloc_ext w (.cells #[.int .i64 k, .int .i64 t, .int .i64 pv, .int .i64 pg, .int .i64 sl, .bool u1, .slice A1 d1.length c1, .bool u2, .slice A2 d2.length c2, .int .i64 un, .int .i64 nt, .slice A3 ts.length c3, .slice A4 ds.length c4, .slice A5 im.length c5] 49)).ext (alloc_ext _ (.cells #[.int .i64 0, .int .i64 0, .int .i64 0, .int .i64 0, .int .i64 0, .bool false, .slice none 0 0, .bool false, .slice none 0 0, .int .i64 0, .int .i64 0, .slice none 0 0, .slice none 0 0, .slice none 0 0] 49)))
    clear hB
    have HB1 := Lib.hid ((alloc_ext (w.alloc (.cells #[.int .i64 k, .int .i64 t, .int .i64 pv, .int .i64 pg, .int .i64 sl, .bool u1, .slice A1 d1.length c1, .bool u2, .slice A2 d2.length c2, .int .i64 un, .int .i64 nt, .slice A3 ts.length c3, .slice A4 ds.length c4, .slice A5 im.length c5] 49)) (.cells #[.int .i64 0, .int .i64 0, .int .i64 0, .int .i64 0, .int .i64 0, .bool false, .slice none 0 0, .bool false, .slice none 0 0, .int .i64 0, .int .i64 0, .slice none 0 0, .slice none 0 0, .slice none 0 0] 49)).heap (heap_alloc_new w (.cells #[.int .i64 k, .int .i64 t, .int .i64 pv, .int .i64 pg, .int .i64 sl, .bool u1, .slice A1 d1.length c1, .bool u2, .slice A2 d2.length c2, .int .i64 un, .int .i64 nt, .slice A3 ts.length c3, .slice A4 ds.length c4, .slice A5 im.length c5] 49)) (by simp))
    by_cases hf0 : fz = 0
    · have hk1 : (k != 1) = true := bne_iff_ne.2 (fun h => hbad.elim (fun h' => h' hf0) (fun h' => h' h))
      subst hf0
      clear hbad
      go_enter Tryd.func31, Tryd.ntmps31
      go_wp2_with (go_at_call 27; refine (HC.out _ HEE.out).mono ?_; rintro e w5 ⟨rfl, hE⟩; have m := fun o => cell_of_row _ _ o _ _ _ (hE.heap HB.out (by simp)); have f := fun o => frozen_of_row _ _ o _ _ (hE.heap HB.out (by simp)); have m1 := fun o => cell_of_row _ _ o _ _ _ (hE.heap HB1.out (by simp)); have HE5 := Lib.hid (HEE.out.ext hE); clear hE)
      refine bodyPost_ret (v := .agg #[.int .i64 0, .int .i64 0, .int .i64 0, .int .i64 0, .int .i64 0, .bool false, .slice none 0 0, .bool false, .slice none 0 0, .int .i64 0, .int .i64 0, .slice none 0 0, .slice none 0 0, .slice none 0 0]) (by simp [results, Tryd.results31, go_sem, m]) rfl ?_
      exact undoRes_zero (by repeat (first | with_reducible exact HE5.out | ((with_reducible apply Only.set); · first | (simp; done) | exact fun hq => absurd hq (by dsimp only; omega))))
    · have hk1 : (fz != 0) = true := bne_iff_ne.2 hf0
      clear hbad
      go_enter Tryd.func31, Tryd.ntmps31
      go_wp2_with (go_at_call 27; refine (HC.out _ HEE.out).mono ?_; rintro e w5 ⟨rfl, hE⟩; have m := fun o => cell_of_row _ _ o _ _ _ (hE.heap HB.out (by simp)); have f := fun o => frozen_of_row _ _ o _ _ (hE.heap HB.out (by simp)); have m1 := fun o => cell_of_row _ _ o _ _ _ (hE.heap HB1.out (by simp)); have HE5 := Lib.hid (HEE.out.ext hE); clear hE)
      refine bodyPost_ret (v := .agg #[.int .i64 0, .int .i64 0, .int .i64 0, .int .i64 0, .int .i64 0, .bool false, .slice none 0 0, .bool false, .slice none 0 0, .int .i64 0, .int .i64 0, .slice none 0 0, .slice none 0 0, .slice none 0 0]) (by simp [results, Tryd.results31, go_sem, m]) rfl ?_
      exact undoRes_zero (by repeat (first | with_reducible exact HE5.out | ((with_reducible apply Only.set); · first | (simp; done) | exact fun hq => absurd hq (by dsimp only; omega))))
  have hf0 : fz = 0 := Classical.byContradiction fun h => hbad (.inl h)
  have hk1 : k = 1 := Classical.byContradiction fun h => hbad (.inr h)
  rw [show undoOf _ = _ from if_neg (by rw [← hfz]; exact hbad)]
  subst hk1
  clear hbad hfz
  subst hf0
  have hB1 := (alloc_ext (w.alloc (.cells #[.int .i64 1, .int .i64 t, .int .i64 pv, .int .i64 pg, .int .i64 sl, .bool u1, .slice A1 d1.length c1, .bool u2, .slice A2 d2.length c2, .int .i64 un, .int .i64 nt, .slice A3 ts.length c3, .slice A4 ds.length c4, .slice A5 im.length c5] 49)) (.cells #[.int .i64 0, .int .i64 0, .int .i64 0, .int .i64 0, .int .i64 0, .bool false, .slice none 0 0, .bool false, .slice none 0 0, .int .i64 0, .int .i64 0, .slice none 0 0, .slice none 0 0, .slice none 0 0] 49)).heap (heap_alloc_new w (.cells #[.int .i64 1, .int .i64 t, .int .i64 pv, .int .i64 pg, .int .i64 sl, .bool u1, .slice A1 d1.length c1, .bool u2, .slice A2 d2.length c2, .int .i64 un, .int .i64 nt, .slice A3 ts.length c3, .slice A4 ds.length c4, .slice A5 im.length c5] 49)) (by simp)
  have hB2 := heap_at (w.alloc (.cells #[.int .i64 1, .int .i64 t, .int .i64 pv, .int .i64 pg, .int .i64 sl, .bool u1, .slice A1 d1.length c1, .bool u2, .slice A2 d2.length c2, .int .i64 un, .int .i64 nt, .slice A3 ts.length c3, .slice A4 ds.length c4, .slice A5 im.length c5] 49)) (.cells #[.int .i64 0, .int .i64 0, .int .i64 0, .int .i64 0, .int .i64 0, .bool false, .slice none 0 0, .bool false, .slice none 0 0, .int .i64 0, .int .i64 0, .slice none 0 0, .slice none 0 0, .slice none 0 0] 49) (k := w.heap.size + 1) (by simp)
  have HEE := Lib.hid ((alloc_ext w (.cells #[.int .i64 1, .int .i64 t, .int .i64 pv, .int .i64 pg, .int .i64 sl, .bool u1, .slice A1 d1.length c1, .bool u2, .slice A2 d2.length c2, .int .i64 un, .int .i64 nt, .slice A3 ts.length c3, .slice A4 ds.length c4, .slice A5 im.length c5] 49)).ext (alloc_ext _ (.cells #[.int .i64 0, .int .i64 0, .int .i64 0, .int .i64 0, .int .i64 0, .bool false, .slice none 0 0, .bool false, .slice none 0 0, .int .i64 0, .int .i64 0, .slice none 0 0, .slice none 0 0, .slice none 0 0] 49)))
  have HB1 := Lib.hid hB1; have HB2 := Lib.hid hB2
  have hz : ((w.alloc (.cells #[.int .i64 1, .int .i64 t, .int .i64 pv, .int .i64 pg, .int .i64 sl, .bool u1, .slice A1 d1.length c1, .bool u2, .slice A2 d2.length c2, .int .i64 un, .int .i64 nt, .slice A3 ts.length c3, .slice A4 ds.length c4, .slice A5 im.length c5] 49)).alloc (.cells #[.int .i64 0, .int .i64 0, .int .i64 0, .int .i64 0, .int .i64 0, .bool false, .slice none 0 0, .bool false, .slice none 0 0, .int .i64 0, .int .i64 0, .slice none 0 0, .slice none 0 0, .slice none 0 0] 49)).heap.size = w.heap.size + 2 := by simp
  have HZ := Lib.hid hz
  clear hB1 hB2 hz
  go_enter Tryd.func31, Tryd.ntmps31
  go_wp2_with (go_at_call 27; refine (HC.out _ HEE.out).mono ?_; rintro e w3 ⟨rfl, hE⟩; have m := fun o => cell_of_row _ _ o _ _ _ (hE.heap HB1.out (by simp)); have HE3 := Lib.hid (HEE.out.ext hE); have HB3 := Lib.hid (hE.heap HB2.out (by simp)); have HZ3 := Lib.hid (show w.heap.size + 2 ≤ w3.heap.size from HZ.out ▸ hE.size); clear hE)
  have g1 := m 1; have g2 := m 2; have g3 := m 3; have g4 := m 4; have g5 := m 5; have g6 := m 6
  simp only [List.getElem?_toArray, List.getElem?_cons_succ, List.getElem?_cons_zero] at g1 g2 g3 g4 g5 g6
  clear m HB1 HB2 HC
  go_region_held3 (fun w' => w'.cell? ⟨w.heap.size, 1, none⟩ = some (.int .i64 t) ∧ w'.cell? ⟨w.heap.size, 2, none⟩ = some (.int .i64 pv) ∧ w'.cell? ⟨w.heap.size, 3, none⟩ = some (.int .i64 pg) ∧ w'.cell? ⟨w.heap.size, 4, none⟩ = some (.int .i64 sl) ∧ w'.cell? ⟨w.heap.size, 5, none⟩ = some (.bool u1) ∧ w'.cell? ⟨w.heap.size, 6, none⟩ = some (.slice A1 d1.length c1))
    (first | go_keep | exact ⟨hN5.ext.ecell g1, hN5.ext.ecell g2, hN5.ext.ecell g3, hN5.ext.ecell g4, hN5.ext.ecell g5, hN5.ext.ecell g6⟩)
    (first
      | (go_at_call 84; refine (l4CopySlot_calls _ _ _ _ _ _ (Rep.sl_ext S1.out (HE3.out.drew)) (by omega)).mono ?_; rintro e w5 ⟨A6, c6, G6, rfl, q6, hN5⟩; have m := fun o => cell_of_row _ _ o _ _ _ (hN5.ext.heap HB3.out (by simp)); have f := fun o => frozen_of_row _ _ o _ _ (hN5.ext.heap HB3.out (by simp))))
  have HN := Lib.hid hN5; have HQ := Lib.hid q6
  clear hN5 q6
  go_wp2
  refine bodyPost_ret (v := .agg #[.int .i64 2, .int .i64 t, .int .i64 0, .int .i64 pg, .int .i64 sl, .bool false, .slice none 0 0, .bool u1, .slice A6 d1.length c6, .int .i64 pv, .int .i64 0, .slice none 0 0, .slice none 0 0, .slice none 0 0]) (by simp [results, Tryd.results31, go_sem, m]) rfl ?_
  exact undoRes_new HQ.out HN.out (HE3.out.drew) (by have := HZ3.out; simp only [World.drew]; omega) (by repeat (first | with_reducible exact Only.refl _ _ | ((with_reducible apply Only.set); · first | (simp; done) | exact fun hq => absurd hq (by dsimp only; omega)))) W1.out W3.out W4.out W2.out

set_option maxRecDepth 100000 in
set_option maxHeartbeats 8000000 in
theorem implUndoOf_new (w : World) (v : Value) (x : DLogRecord) (F : List Nat) (h : Rep.LogRecord.V w v x F) (hs : wtLogRecord x ≤ 1048576) :
    Calls Tryd.prog 32 #[v] w (NewPost Rep.LogRecord (undoOf x) w) := by
  obtain ⟨_, ⟨A1, c1, F1, A2, c2, F2, A3, c3, F3, A4, c4, F4, A5, c5, F5, rfl, rfl, hw, s1, s2, s3, s4, s5⟩, rfl⟩ := h
  show Calls _ _ #[.agg #[_, _, _, _, _, _, _, _, _, _, _, _, _, _]] _ _
  obtain ⟨k, t, pv, pg, sl, ⟨u1, d1⟩, ⟨u2, d2⟩, un, nt, ts, ds, im⟩ := x
  obtain ⟨w0, w1, w2, w3, w4, w5, w6⟩ := hw
  have hl1 : d1.length ≤ 1048576 := by simp only [wtLogRecord, wtPageRecord] at hs; omega
  have hu := Tryd.underlying49
  have hu2 := Tryd.underlying33
  obtain ⟨fz, hfz⟩ : ∃ f, f = recFault ⟨k, t, pv, pg, sl, ⟨u1, d1⟩, ⟨u2, d2⟩, un, nt, ts, ds, im⟩ := ⟨_, rfl⟩
  have HC : Hid (∀ W, Ext w W → Calls Tryd.prog 29 #[.agg #[.int .i64 k, .int .i64 t, .int .i64 pv, .int .i64 pg, .int .i64 sl, .bool u1, .slice A1 d1.length c1, .bool u2, .slice A2 d2.length c2, .int .i64 un, .int .i64 nt, .slice A3 ts.length c3, .slice A4 ds.length c4, .slice A5 im.length c5]] W fun e w' => e = .returned (.int .i64 fz) ∧ Ext W w') := by
    intro W hW
    rw [hfz]
    exact implRecordFault_calls W _ ⟨k, t, pv, pg, sl, ⟨u1, d1⟩, ⟨u2, d2⟩, un, nt, ts, ds, im⟩ _ ⟨_, ⟨A1, c1, F1, A2, c2, F2, A3, c3, F3, A4, c4, F4, A5, c5, F5, rfl, rfl, ⟨w0, w1, w2, w3, w4, w5, w6⟩, Rep.sl_ext s1 hW, Rep.sl_ext s2 hW, Rep.sl_ext s3 hW, Rep.sl_ext s4 hW, Rep.sl_ext s5 hW⟩, rfl⟩
  have S1 := Lib.hid s1; have W1 := Lib.hid w1; have W2 := Lib.hid w2; have W3 := Lib.hid w3; have W4 := Lib.hid w4
  clear s1 s2 s3 s4 s5 w0 w1 w2 w3 w4 w5 w6 hs
  dsimp only
  by_cases hbad : fz ≠ 0 ∨ k ≠ 1
  · rw [show undoOf _ = zeroRecD from if_pos (by rw [← hfz]; exact hbad)]
    clear hfz
    have hB := heap_at (w.alloc (.cells #[.int .i64 k, .int .i64 t, .int .i64 pv, .int .i64 pg, .int .i64 sl, .bool u1, .slice A1 d1.length c1, .bool u2, .slice A2 d2.length c2, .int .i64 un, .int .i64 nt, .slice A3 ts.length c3, .slice A4 ds.length c4, .slice A5 im.length c5] 49)) (.cells #[.int .i64 0, .int .i64 0, .int .i64 0, .int .i64 0, .int .i64 0, .bool false, .slice none 0 0, .bool false, .slice none 0 0, .int .i64 0, .int .i64 0, .slice none 0 0, .slice none 0 0, .slice none 0 0] 49) (k := w.heap.size + 1) (by simp)
    have HB := Lib.hid hB
    have HEE := Lib.hid ((alloc_ext w (.cells #[.int .i64 k, .int .i64 t, .int .i64 pv, .int .i64 pg, .int .i64 sl, .bool u1, .slice A1 d1.length c1, .bool u2, .slice A2 d2.length c2, .int .i64 un, .int .i64 nt, .slice A3 ts.length c3, .slice A4 ds.length c4, .slice A5 im.length c5] 49)).ext (alloc_ext _ (.cells #[.int .i64 0, .int .i64 0, .int .i64 0, .int .i64 0, .int .i64 0, .bool false, .slice none 0 0, .bool false, .slice none 0 0, .int .i64 0, .int .i64 0, .slice none 0 0, .slice none 0 0, .slice none 0 0] 49)))
    clear hB
    have HB1 := Lib.hid ((alloc_ext (w.alloc (.cells #[.int .i64 k, .int .i64 t, .int .i64 pv, .int .i64 pg, .int .i64 sl, .bool u1, .slice A1 d1.length c1, .bool u2, .slice A2 d2.length c2, .int .i64 un, .int .i64 nt, .slice A3 ts.length c3, .slice A4 ds.length c4, .slice A5 im.length c5] 49)) (.cells #[.int .i64 0, .int .i64 0, .int .i64 0, .int .i64 0, .int .i64 0, .bool false, .slice none 0 0, .bool false, .slice none 0 0, .int .i64 0, .int .i64 0, .slice none 0 0, .slice none 0 0, .slice none 0 0] 49)).heap (heap_alloc_new w (.cells #[.int .i64 k, .int .i64 t, .int .i64 pv, .int .i64 pg, .int .i64 sl, .bool u1, .slice A1 d1.length c1, .bool u2, .slice A2 d2.length c2, .int .i64 un, .int .i64 nt, .slice A3 ts.length c3, .slice A4 ds.length c4, .slice A5 im.length c5] 49)) (by simp))
    by_cases hk1 : k = 1
    · have hf0 : (fz != 0) = true := bne_iff_ne.2 (fun h => hbad.elim (fun h' => h' h) (fun h' => h' hk1))
      subst hk1
      clear hbad
      go_enter Tryd.func32, Tryd.ntmps32
      go_wp2_with (go_at_call 29; refine (HC.out _ HEE.out).mono ?_; rintro e w5 ⟨rfl, hE⟩; have m := fun o => cell_of_row _ _ o _ _ _ (hE.heap HB.out (by simp)); have f := fun o => frozen_of_row _ _ o _ _ (hE.heap HB.out (by simp)); have m1 := fun o => cell_of_row _ _ o _ _ _ (hE.heap HB1.out (by simp)); have HE5 := Lib.hid (HEE.out.ext hE); clear hE)
      refine bodyPost_ret (v := .agg #[.int .i64 0, .int .i64 0, .int .i64 0, .int .i64 0, .int .i64 0, .bool false, .slice none 0 0, .bool false, .slice none 0 0, .int .i64 0, .int .i64 0, .slice none 0 0, .slice none 0 0, .slice none 0 0]) (by simp [results, Tryd.results32, go_sem, m]) rfl ?_
      exact undoRes_zero (by repeat (first | with_reducible exact HE5.out | ((with_reducible apply Only.set); · first | (simp; done) | exact fun hq => absurd hq (by dsimp only; omega))))
    · have hk2 : (k != 1) = true := bne_iff_ne.2 hk1
      clear hbad
      go_enter Tryd.func32, Tryd.ntmps32
      go_wp2
      refine bodyPost_ret (v := .agg #[.int .i64 0, .int .i64 0, .int .i64 0, .int .i64 0, .int .i64 0, .bool false, .slice none 0 0, .bool false, .slice none 0 0, .int .i64 0, .int .i64 0, .slice none 0 0, .slice none 0 0, .slice none 0 0]) (by simp [results, Tryd.results32, go_sem]) rfl ?_
      exact undoRes_zero (by repeat (first | with_reducible exact HEE.out | ((with_reducible apply Only.set); · first | (simp; done) | exact fun hq => absurd hq (by dsimp only; omega))))
  have hf0 : fz = 0 := Classical.byContradiction fun h => hbad (.inl h)
  have hk1 : k = 1 := Classical.byContradiction fun h => hbad (.inr h)
  rw [show undoOf _ = _ from if_neg (by rw [← hfz]; exact hbad)]
  subst hk1
  clear hbad hfz
  subst hf0
  have hB1 := (alloc_ext (w.alloc (.cells #[.int .i64 1, .int .i64 t, .int .i64 pv, .int .i64 pg, .int .i64 sl, .bool u1, .slice A1 d1.length c1, .bool u2, .slice A2 d2.length c2, .int .i64 un, .int .i64 nt, .slice A3 ts.length c3, .slice A4 ds.length c4, .slice A5 im.length c5] 49)) (.cells #[.int .i64 0, .int .i64 0, .int .i64 0, .int .i64 0, .int .i64 0, .bool false, .slice none 0 0, .bool false, .slice none 0 0, .int .i64 0, .int .i64 0, .slice none 0 0, .slice none 0 0, .slice none 0 0] 49)).heap (heap_alloc_new w (.cells #[.int .i64 1, .int .i64 t, .int .i64 pv, .int .i64 pg, .int .i64 sl, .bool u1, .slice A1 d1.length c1, .bool u2, .slice A2 d2.length c2, .int .i64 un, .int .i64 nt, .slice A3 ts.length c3, .slice A4 ds.length c4, .slice A5 im.length c5] 49)) (by simp)
  have hB2 := heap_at (w.alloc (.cells #[.int .i64 1, .int .i64 t, .int .i64 pv, .int .i64 pg, .int .i64 sl, .bool u1, .slice A1 d1.length c1, .bool u2, .slice A2 d2.length c2, .int .i64 un, .int .i64 nt, .slice A3 ts.length c3, .slice A4 ds.length c4, .slice A5 im.length c5] 49)) (.cells #[.int .i64 0, .int .i64 0, .int .i64 0, .int .i64 0, .int .i64 0, .bool false, .slice none 0 0, .bool false, .slice none 0 0, .int .i64 0, .int .i64 0, .slice none 0 0, .slice none 0 0, .slice none 0 0] 49) (k := w.heap.size + 1) (by simp)
  have HEE := Lib.hid ((alloc_ext w (.cells #[.int .i64 1, .int .i64 t, .int .i64 pv, .int .i64 pg, .int .i64 sl, .bool u1, .slice A1 d1.length c1, .bool u2, .slice A2 d2.length c2, .int .i64 un, .int .i64 nt, .slice A3 ts.length c3, .slice A4 ds.length c4, .slice A5 im.length c5] 49)).ext (alloc_ext _ (.cells #[.int .i64 0, .int .i64 0, .int .i64 0, .int .i64 0, .int .i64 0, .bool false, .slice none 0 0, .bool false, .slice none 0 0, .int .i64 0, .int .i64 0, .slice none 0 0, .slice none 0 0, .slice none 0 0] 49)))
  have HB1 := Lib.hid hB1; have HB2 := Lib.hid hB2
  have hz : ((w.alloc (.cells #[.int .i64 1, .int .i64 t, .int .i64 pv, .int .i64 pg, .int .i64 sl, .bool u1, .slice A1 d1.length c1, .bool u2, .slice A2 d2.length c2, .int .i64 un, .int .i64 nt, .slice A3 ts.length c3, .slice A4 ds.length c4, .slice A5 im.length c5] 49)).alloc (.cells #[.int .i64 0, .int .i64 0, .int .i64 0, .int .i64 0, .int .i64 0, .bool false, .slice none 0 0, .bool false, .slice none 0 0, .int .i64 0, .int .i64 0, .slice none 0 0, .slice none 0 0, .slice none 0 0] 49)).heap.size = w.heap.size + 2 := by simp
  have HZ := Lib.hid hz
  clear hB1 hB2 hz
  go_enter Tryd.func32, Tryd.ntmps32
  go_wp2_with (go_at_call 29; refine (HC.out _ HEE.out).mono ?_; rintro e w3 ⟨rfl, hE⟩; have m := fun o => cell_of_row _ _ o _ _ _ (hE.heap HB1.out (by simp)); have HE3 := Lib.hid (HEE.out.ext hE); have HB3 := Lib.hid (hE.heap HB2.out (by simp)); have HZ3 := Lib.hid (show w.heap.size + 2 ≤ w3.heap.size from HZ.out ▸ hE.size); clear hE)
  have g1 := m 1; have g2 := m 2; have g3 := m 3; have g4 := m 4; have g5 := m 5; have g6 := m 6
  simp only [List.getElem?_toArray, List.getElem?_cons_succ, List.getElem?_cons_zero] at g1 g2 g3 g4 g5 g6
  clear m HB1 HB2 HC
  go_region_held3 (fun w' => w'.cell? ⟨w.heap.size, 1, none⟩ = some (.int .i64 t) ∧ w'.cell? ⟨w.heap.size, 2, none⟩ = some (.int .i64 pv) ∧ w'.cell? ⟨w.heap.size, 3, none⟩ = some (.int .i64 pg) ∧ w'.cell? ⟨w.heap.size, 4, none⟩ = some (.int .i64 sl) ∧ w'.cell? ⟨w.heap.size, 5, none⟩ = some (.bool u1) ∧ w'.cell? ⟨w.heap.size, 6, none⟩ = some (.slice A1 d1.length c1))
    (first | go_keep | exact ⟨hN5.ext.ecell g1, hN5.ext.ecell g2, hN5.ext.ecell g3, hN5.ext.ecell g4, hN5.ext.ecell g5, hN5.ext.ecell g6⟩)
    (first
      | (go_at_call 63; refine (Clone_calls _ _ _ _ _ (Rep.sl_ext S1.out (HE3.out.drew)) (by omega)).mono ?_; rintro e w5 ⟨v5, G6, rfl, hV5, hN5⟩; obtain ⟨A6, c6, rfl, q6⟩ := Rep.slice_V hV5; have m := fun o => cell_of_row _ _ o _ _ _ (hN5.ext.heap HB3.out (by simp)); have f := fun o => frozen_of_row _ _ o _ _ (hN5.ext.heap HB3.out (by simp))))
  have HN := Lib.hid hN5; have HQ := Lib.hid q6
  clear hN5 q6
  go_wp2
  refine bodyPost_ret (v := .agg #[.int .i64 2, .int .i64 t, .int .i64 0, .int .i64 pg, .int .i64 sl, .bool false, .slice none 0 0, .bool u1, .slice A6 d1.length c6, .int .i64 pv, .int .i64 0, .slice none 0 0, .slice none 0 0, .slice none 0 0]) (by simp [results, Tryd.results32, go_sem, m]) rfl ?_
  exact undoRes_new HQ.out HN.out (HE3.out.drew) (by have := HZ3.out; simp only [World.drew]; omega) (by repeat (first | with_reducible exact Only.refl _ _ | ((with_reducible apply Only.set); · first | (simp; done) | exact fun hq => absurd hq (by dsimp only; omega)))) W1.out W3.out W4.out W2.out
end Go.Proofs.YtghgjddiheebeaaDoor
