/- LogFrame: the data, how they lie in cells, and the laws' own functions over them. Printed by gen_fam.py, a program of this session. -/
import Derived.Test.YtghgjddiheebeaaDoorMFLogRecord
import Derived.StillTailTactics
namespace Go.Proofs.YtghgjddiheebeaaDoor
open Go.RowKit
set_option linter.unusedSimpArgs false
set_option linter.unusedVariables false
set_option maxRecDepth 100000
set_option maxHeartbeats 8000000

structure DLogFrame where
  LSN : Int
  Epoch : Int
  Record : DLogRecord
  deriving DecidableEq

def wfLogFrame (x : DLogFrame) : Prop := (Lit.int .i64 x.LSN).wf = true ∧ (Lit.int .i64 x.Epoch).wf = true ∧ (Lit.int .i64 x.Record.Kind).wf = true ∧ (Lit.int .i64 x.Record.Txn).wf = true ∧ (Lit.int .i64 x.Record.Prev).wf = true ∧ (Lit.int .i64 x.Record.Page).wf = true ∧ (Lit.int .i64 x.Record.Slot).wf = true ∧ (Lit.int .i64 x.Record.UndoNext).wf = true ∧ (Lit.int .i64 x.Record.NextTxn).wf = true

def Rep.LogFrame : Rep DLogFrame where
  sz := 16
  R := fun w x cs F => ∃ (A1 : Option Addr) (c1 : Nat) (F1 : List Nat), ∃ (A2 : Option Addr) (c2 : Nat) (F2 : List Nat), ∃ (A3 : Option Addr) (c3 : Nat) (F3 : List Nat), ∃ (A4 : Option Addr) (c4 : Nat) (F4 : List Nat), ∃ (A5 : Option Addr) (c5 : Nat) (F5 : List Nat), cs = [.int .i64 x.LSN, .int .i64 x.Epoch, .int .i64 x.Record.Kind, .int .i64 x.Record.Txn, .int .i64 x.Record.Prev, .int .i64 x.Record.Page, .int .i64 x.Record.Slot, .bool x.Record.Before.Used, .slice A1 x.Record.Before.Data.length c1, .bool x.Record.After.Used, .slice A2 x.Record.After.Data.length c2, .int .i64 x.Record.UndoNext, .int .i64 x.Record.NextTxn, .slice A3 x.Record.Txns.length c3, .slice A4 x.Record.Dirty.length c4, .slice A5 x.Record.Image.length c5] ∧ F = F1 ++ F2 ++ F3 ++ F4 ++ F5 ∧ wfLogFrame x ∧ (Rep.int .u8).sl w A1 c1 x.Record.Before.Data F1 ∧ (Rep.int .u8).sl w A2 c2 x.Record.After.Data F2 ∧ Rep.TxnEntry.sl w A3 c3 x.Record.Txns F3 ∧ Rep.DirtyEntry.sl w A4 c4 x.Record.Dirty F4 ∧ (Rep.int .u8).sl w A5 c5 x.Record.Image F5
  val := fun | [a0, a1, a2, a3, a4, a5, a6, a7, a8, a9, a10, a11, a12, a13, a14, a15] => .agg #[a0, a1, a2, a3, a4, a5, a6, a7, a8, a9, a10, a11, a12, a13, a14, a15] | _ => undef
  len := by rintro w x cs F ⟨A1, c1, F1, A2, c2, F2, A3, c3, F3, A4, c4, F4, A5, c5, F5, rfl, -⟩; rfl
  lt := by
    rintro w x cs F ⟨A1, c1, F1, A2, c2, F2, A3, c3, F3, A4, c4, F4, A5, c5, F5, -, rfl, -, s1, s2, s3, s4, s5⟩ g hg
    simp only [List.mem_append] at hg
    rcases hg with ((((hg | hg) | hg) | hg) | hg)
    · exact Rep.sl_lt s1 g hg
    · exact Rep.sl_lt s2 g hg
    · exact Rep.sl_lt s3 g hg
    · exact Rep.sl_lt s4 g hg
    · exact Rep.sl_lt s5 g hg
  keep := by
    rintro w w' x cs F ⟨A1, c1, F1, A2, c2, F2, A3, c3, F3, A4, c4, F4, A5, c5, F5, rfl, rfl, hw, s1, s2, s3, s4, s5⟩ hk
    exact ⟨A1, c1, _, A2, c2, _, A3, c3, _, A4, c4, _, A5, c5, _, rfl, rfl, hw, Rep.sl_keep s1 (fun b hb => hk b (by simp [hb])), Rep.sl_keep s2 (fun b hb => hk b (by simp [hb])), Rep.sl_keep s3 (fun b hb => hk b (by simp [hb])), Rep.sl_keep s4 (fun b hb => hk b (by simp [hb])), Rep.sl_keep s5 (fun b hb => hk b (by simp [hb]))⟩

theorem val_LogFrame : ∀ (l : List Value), l.length = 16 → Rep.LogFrame.val l = .agg ⟨l⟩
  | [_, _, _, _, _, _, _, _, _, _, _, _, _, _, _, _], _ => rfl

theorem sl_LogFrame {w : World} {A : Option Addr} {c : Nat} {xs : List DLogFrame} {F : List Nat} (h : Rep.LogFrame.sl w A c xs F) (i : Nat) (hi : i < xs.length) :
    ∃ (g off : Nat) (A1 : Option Addr) (c1 : Nat) (F1 : List Nat) (A2 : Option Addr) (c2 : Nat) (F2 : List Nat) (A3 : Option Addr) (c3 : Nat) (F3 : List Nat) (A4 : Option Addr) (c4 : Nat) (F4 : List Nat) (A5 : Option Addr) (c5 : Nat) (F5 : List Nat), A = some ⟨g, off, none⟩ ∧ g < w.heap.size ∧ wfLogFrame (xs[i]) ∧ (Rep.int .u8).sl w A1 c1 (xs[i]).Record.Before.Data F1 ∧ (Rep.int .u8).sl w A2 c2 (xs[i]).Record.After.Data F2 ∧ Rep.TxnEntry.sl w A3 c3 (xs[i]).Record.Txns F3 ∧ Rep.DirtyEntry.sl w A4 c4 (xs[i]).Record.Dirty F4 ∧ (Rep.int .u8).sl w A5 c5 (xs[i]).Record.Image F5 ∧
      w.cell? ⟨g, off + i * 16, none⟩ = some (.int .i64 (xs[i]).LSN) ∧ w.cell? ⟨g, off + i * 16 + 1, none⟩ = some (.int .i64 (xs[i]).Epoch) ∧ w.cell? ⟨g, off + i * 16 + 2, none⟩ = some (.int .i64 (xs[i]).Record.Kind) ∧ w.cell? ⟨g, off + i * 16 + 3, none⟩ = some (.int .i64 (xs[i]).Record.Txn) ∧ w.cell? ⟨g, off + i * 16 + 4, none⟩ = some (.int .i64 (xs[i]).Record.Prev) ∧ w.cell? ⟨g, off + i * 16 + 5, none⟩ = some (.int .i64 (xs[i]).Record.Page) ∧ w.cell? ⟨g, off + i * 16 + 6, none⟩ = some (.int .i64 (xs[i]).Record.Slot) ∧ w.cell? ⟨g, off + i * 16 + 7, none⟩ = some (.bool (xs[i]).Record.Before.Used) ∧ w.cell? ⟨g, off + i * 16 + 8, none⟩ = some (.slice A1 (xs[i]).Record.Before.Data.length c1) ∧ w.cell? ⟨g, off + i * 16 + 9, none⟩ = some (.bool (xs[i]).Record.After.Used) ∧ w.cell? ⟨g, off + i * 16 + 10, none⟩ = some (.slice A2 (xs[i]).Record.After.Data.length c2) ∧ w.cell? ⟨g, off + i * 16 + 11, none⟩ = some (.int .i64 (xs[i]).Record.UndoNext) ∧ w.cell? ⟨g, off + i * 16 + 12, none⟩ = some (.int .i64 (xs[i]).Record.NextTxn) ∧ w.cell? ⟨g, off + i * 16 + 13, none⟩ = some (.slice A3 (xs[i]).Record.Txns.length c3) ∧ w.cell? ⟨g, off + i * 16 + 14, none⟩ = some (.slice A4 (xs[i]).Record.Dirty.length c4) ∧ w.cell? ⟨g, off + i * 16 + 15, none⟩ = some (.slice A5 (xs[i]).Record.Image.length c5) := by
  obtain ⟨g, off, d, G, e, hg, _, ⟨A1, c1, F1, A2, c2, F2, A3, c3, F3, A4, c4, F4, A5, c5, F5, rfl, rfl, hw, s1, s2, s3, s4, s5⟩, _, hc⟩ := Rep.sl_at h i hi
  exact ⟨g, off, A1, c1, _, A2, c2, _, A3, c3, _, A4, c4, _, A5, c5, _, e, hg, hw, s1, s2, s3, s4, s5, hc 0 _ rfl, hc 1 _ rfl, hc 2 _ rfl, hc 3 _ rfl, hc 4 _ rfl, hc 5 _ rfl, hc 6 _ rfl, hc 7 _ rfl, hc 8 _ rfl, hc 9 _ rfl, hc 10 _ rfl, hc 11 _ rfl, hc 12 _ rfl, hc 13 _ rfl, hc 14 _ rfl, hc 15 _ rfl⟩

def wtLogFrame (x : DLogFrame) : Nat := wtLogRecord x.Record
def wtLogFrameS (xs : List DLogFrame) : Nat := xs.length + (xs.map wtLogFrame).sum

theorem cells_LogFrame (w : World) (g o : Nat) (v0 v1 v2 v3 v4 v5 v6 v7 v8 v9 v10 v11 v12 v13 v14 v15 : Value) : ((((((((((((((((w.setCell ⟨g, o, none⟩ v0).setCell ⟨g, o + 1, none⟩ v1).setCell ⟨g, o + 2, none⟩ v2).setCell ⟨g, o + 3, none⟩ v3).setCell ⟨g, o + 4, none⟩ v4).setCell ⟨g, o + 5, none⟩ v5).setCell ⟨g, o + 6, none⟩ v6).setCell ⟨g, o + 7, none⟩ v7).setCell ⟨g, o + 8, none⟩ v8).setCell ⟨g, o + 9, none⟩ v9).setCell ⟨g, o + 10, none⟩ v10).setCell ⟨g, o + 11, none⟩ v11).setCell ⟨g, o + 12, none⟩ v12).setCell ⟨g, o + 13, none⟩ v13).setCell ⟨g, o + 14, none⟩ v14).setCell ⟨g, o + 15, none⟩ v15) = w.setCells g o [v0, v1, v2, v3, v4, v5, v6, v7, v8, v9, v10, v11, v12, v13, v14, v15] := rfl

theorem szLogFrame_calls (v : Value) (x : DLogFrame) (F : List Nat) (left : Int) (w : World) (h : Rep.LogFrame.V w v x F) (h0 : 0 ≤ left) (h1 : left ≤ 4611686018427387904) :
    Calls Tryd.prog 96 #[v, .int .i64 left] w (SzPost left (wtLogFrame x) w) := by
  obtain ⟨_, ⟨A1, c1, F1, A2, c2, F2, A3, c3, F3, A4, c4, F4, A5, c5, F5, rfl, rfl, hw, s1, s2, s3, s4, s5⟩, rfl⟩ := h
  have hu_laws_LogFrame := Tryd.underlying122
  have hu_laws_LogRecord := Tryd.underlying43
  have hu_laws_PageRecord := Tryd.underlying28
  show Calls _ _ #[.agg #[_, _, _, _, _, _, _, _, _, _, _, _, _, _, _, _], _] _ _
  go_enter Tryd.func96, Tryd.ntmps96
  go_wp2_with fail
  refine (szLogRecord_calls _ _ _ _ _ ⟨_, ⟨A1, c1, _, A2, c2, _, A3, c3, _, A4, c4, _, A5, c5, _, rfl, rfl, (by first | trivial | (have := hw; simp only [wfLogFrame, wfLogRecord] at this ⊢; simp only [this, and_self])), (Rep.sl_ext s1 (alloc_ext _ _)), (Rep.sl_ext s2 (alloc_ext _ _)), (Rep.sl_ext s3 (alloc_ext _ _)), (Rep.sl_ext s4 (alloc_ext _ _)), (Rep.sl_ext s5 (alloc_ext _ _))⟩, rfl⟩ h0 h1).mono ?_
  rintro e w1 ⟨⟨r1, rfl, hr1⟩, hO1⟩
  have HE1 := Lib.hid (Only.ext (alloc_ext w _) hO1)
  have HX1 := Lib.hid (hO1)
  obtain ⟨hc1, hf1⟩ := bcell HX1.out
  clear hO1
  rcases hr1 with rfl | ⟨ha1, hb1⟩
  · go_wp2
    go_ret
    exact ⟨⟨-1, rfl, .inl rfl⟩, HE1.out⟩
  have hl1 : r1 ≤ 4611686018427387904 := by omega
  have HB1 := Lib.hid hb1
  clear hb1
  go_wp2
  go_ret
  refine ⟨⟨r1, rfl, .inr ⟨ha1, ?_⟩⟩, HE1.out⟩
  have q1 := HB1.out
  unfold wtLogFrame
  omega

theorem szLogFrameS_calls (A : Option Addr) (c : Nat) (xs : List DLogFrame) (F : List Nat) (left : Int) (w : World) (h : Rep.LogFrame.sl w A c xs F) (h0 : 0 ≤ left) (h1 : left ≤ 4611686018427387904) :
    Calls Tryd.prog 39 #[.slice A xs.length c, .int .i64 left] w (SzPost left (wtLogFrameS xs) w) := by
  have hu_laws_LogFrame := Tryd.underlying122
  have hu_laws_LogRecord := Tryd.underlying43
  have hu_laws_PageRecord := Tryd.underlying28
  have hm := Nat.le_trans h.1 h.2.1
  unfold maxLen at hm
  by_cases hlt0 : left - xs.length < 0
  · go_enter Tryd.func39, Tryd.ntmps39
    go_wp2
    go_ret
    exact ⟨⟨-1, rfl, .inl rfl⟩, Only.refl _ _⟩
  · go_enter Tryd.func39, Tryd.ntmps39
    go_wp2
    go_loopg [5, 1] (xs.length) (fun m i q wr => ∃ (j : Nat) (r : Int), m + j = xs.length ∧ i = .int .i64 j ∧ q = .int .i64 r ∧ 0 ≤ r ∧ r + ((xs.length + ((xs.take j).map wtLogFrame).sum : Nat) : Int) = left ∧ Ext w wr)
    case atStart => exact ⟨0, _, by simp, rfl, rfl, by omega, by simp, Only.refl _ _⟩
    case round =>
      obtain ⟨j, r, hj, rfl, rfl, hr0, hr1, hO⟩ := hrel
      have hr2 : r ≤ left := by omega
      have HO := Lib.hid hO; have HR := Lib.hid hr1; have HJ := Lib.hid hj
      clear hO hr1 hj
      by_cases hlt : j < xs.length
      · obtain ⟨g, off, A1, c1, F1, A2, c2, F2, A3, c3, F3, A4, c4, F4, A5, c5, F5, rfl, hg, hw, s1, s2, s3, s4, s5, k0, k1, k2, k3, k4, k5, k6, k7, k8, k9, k10, k11, k12, k13, k14, k15⟩ := sl_LogFrame (Rep.sl_ext h HO.out) j hlt
        clear h
        go_wp2_with fail
        refine (szLogFrame_calls _ xs[j] _ _ _ ⟨_, ⟨A1, c1, F1, A2, c2, F2, A3, c3, F3, A4, c4, F4, A5, c5, F5, rfl, rfl, hw, s1, s2, s3, s4, s5⟩, rfl⟩ hr0 (by omega)).mono ?_
        rintro e w1 ⟨⟨q, rfl, hq⟩, hO1⟩
        have HO1 := Lib.hid (HO.out.ext hO1)
        clear hO1 k0 k1 k2 k3 k4 k5 k6 k7 k8 k9 k10 k11 k12 k13 k14 k15 s1 s2 s3 s4 s5
        rcases hq with rfl | ⟨hq0, hq1⟩
        · go_wp2
          go_ret
          exact ⟨⟨-1, rfl, .inl rfl⟩, HO1.out⟩
        · have HQ := Lib.hid hq1
          clear hq1
          go_wp2
          go_roundg (xs.length - (j + 1))
          case measure => have := HJ.out; omega
          case rel =>
            refine ⟨j + 1, q, by omega, by go_num, rfl, hq0, ?_, HO1.out⟩
            have := HQ.out
            have := HR.out
            rw [map_sum_take _ _ _ hlt]
            omega
      · go_wp2
        go_ret
        have hj := HJ.out
        have hr := HR.out
        rw [List.take_of_length_le (by omega)] at hr
        exact ⟨⟨r, rfl, .inr ⟨hr0, hr⟩⟩, HO.out⟩

theorem toLogFrame_calls (v : Value) (x : DLogFrame) (F : List Nat) (w : World) (h : Rep.LogFrame.V w v x F) (hs : wtLogFrame x ≤ 1048576) :
    Calls Tryd.prog 98 #[v] w (NewPost Rep.LogFrame x w) := by
  obtain ⟨_, ⟨A1, c1, F1, A2, c2, F2, A3, c3, F3, A4, c4, F4, A5, c5, F5, rfl, rfl, hw, s1, s2, s3, s4, s5⟩, rfl⟩ := h
  have hu_laws_LogFrame := Tryd.underlying122
  have hu_laws_LogRecord := Tryd.underlying43
  have hu_laws_PageRecord := Tryd.underlying28
  have hu_impl_LogFrame := Tryd.underlying124
  have hu_impl_LogRecord := Tryd.underlying49
  have hu_impl_PageRecord := Tryd.underlying33
  simp only [wtLogFrame] at hs
  show Calls _ _ #[.agg #[_, _, _, _, _, _, _, _, _, _, _, _, _, _, _, _]] _ _
  go_enter Tryd.func98, Tryd.ntmps98
  go_wp2_with fail
  refine (toLogRecord_calls _ _ _ _ ⟨_, ⟨A1, c1, _, A2, c2, _, A3, c3, _, A4, c4, _, A5, c5, _, rfl, rfl, (by first | trivial | (have := hw; simp only [wfLogFrame, wfLogRecord] at this ⊢; simp only [this, and_self])), (Rep.sl_ext s1 (((alloc_ext _ _).alloc _).alloc _)), (Rep.sl_ext s2 (((alloc_ext _ _).alloc _).alloc _)), (Rep.sl_ext s3 (((alloc_ext _ _).alloc _).alloc _)), (Rep.sl_ext s4 (((alloc_ext _ _).alloc _).alloc _)), (Rep.sl_ext s5 (((alloc_ext _ _).alloc _).alloc _))⟩, rfl⟩ (by omega)).mono ?_
  rintro e w1 ⟨v1, _, rfl, ⟨_, ⟨B1, d1, G1, B2, d2, G2, B3, d3, G3, B4, d4, G4, B5, d5, G5, rfl, rfl, hw1, q1, q2, q3, q4, q5⟩, hv1⟩, hN1⟩
  replace hv1 : v1 = .agg #[_, _, _, _, _, _, _, _, _, _, _, _, _, _] := hv1
  subst hv1
  have HE1 := Lib.hid (Only.ext (F := []) (w := w) (((alloc_ext w _).alloc _).alloc _) hN1.ext)
  have HI1 : NewIn (w.heap.size + 3) w1 _ := NewIn.one hN1 (fun b hb => Rep.LogRecord.lt ⟨B1, d1, _, B2, d2, _, B3, d3, _, B4, d4, _, B5, d5, _, rfl, rfl, hw1, q1, q2, q3, q4, q5⟩ b hb) (by simp)
  obtain ⟨hc1, hf1⟩ := bcell hN1.ext
  have hz1 : w.heap.size + 3 ≤ w1.heap.size := by have := hN1.ext.size; simp at this; omega
  clear hN1
  go_wp2
  refine bodyPost_ret (v := .agg #[.int .i64 x.LSN, .int .i64 x.Epoch, .int .i64 x.Record.Kind, .int .i64 x.Record.Txn, .int .i64 x.Record.Prev, .int .i64 x.Record.Page, .int .i64 x.Record.Slot, .bool x.Record.Before.Used, .slice B1 x.Record.Before.Data.length d1, .bool x.Record.After.Used, .slice B2 x.Record.After.Data.length d2, .int .i64 x.Record.UndoNext, .int .i64 x.Record.NextTxn, .slice B3 x.Record.Txns.length d3, .slice B4 x.Record.Dirty.length d4, .slice B5 x.Record.Image.length d5]) (by simp [results, Tryd.results98, go_sem, hc1]) rfl ?_
  exact ⟨_, _, rfl, ⟨_, ⟨B1, d1, _, B2, d2, _, B3, d3, _, B4, d4, _, B5, d5, _, rfl, rfl, hw, Rep.sl_far q1 (n := w.heap.size + 3) (G := [w.heap.size + 1, w.heap.size + 2]) (by repeat (first | ((with_reducible apply Only.set); · simp) | with_reducible exact Only.refl _ _)) (fun b hb => HI1.ge b (by simp [hb])) (by simp), Rep.sl_far q2 (n := w.heap.size + 3) (G := [w.heap.size + 1, w.heap.size + 2]) (by repeat (first | ((with_reducible apply Only.set); · simp) | with_reducible exact Only.refl _ _)) (fun b hb => HI1.ge b (by simp [hb])) (by simp), Rep.sl_far q3 (n := w.heap.size + 3) (G := [w.heap.size + 1, w.heap.size + 2]) (by repeat (first | ((with_reducible apply Only.set); · simp) | with_reducible exact Only.refl _ _)) (fun b hb => HI1.ge b (by simp [hb])) (by simp), Rep.sl_far q4 (n := w.heap.size + 3) (G := [w.heap.size + 1, w.heap.size + 2]) (by repeat (first | ((with_reducible apply Only.set); · simp) | with_reducible exact Only.refl _ _)) (fun b hb => HI1.ge b (by simp [hb])) (by simp), Rep.sl_far q5 (n := w.heap.size + 3) (G := [w.heap.size + 1, w.heap.size + 2]) (by repeat (first | ((with_reducible apply Only.set); · simp) | with_reducible exact Only.refl _ _)) (fun b hb => HI1.ge b (by simp [hb])) (by simp)⟩, rfl⟩, NewIn.mk_ (NewIn.more (HI1.step (G := [w.heap.size + 1, w.heap.size + 2]) (by repeat (first | ((with_reducible apply Only.set); · simp) | with_reducible exact Only.refl _ _)) (by simp)) (by omega)) (by repeat (first | ((with_reducible apply Only.set); · exact fun h => absurd h (by dsimp only; omega)) | (with_reducible apply Only.alloc) | with_reducible exact HE1.out | with_reducible exact Only.refl _ _))⟩

theorem mem_wtLogFrameS {xs : List DLogFrame} (i : Nat) (hi : i < xs.length) : wtLogFrame xs[i] ≤ wtLogFrameS xs := by
  have := map_sum_mem wtLogFrame xs i hi
  unfold wtLogFrameS
  omega

theorem info124 : (Tryd.prog.info? 124).map (fun i => (i.zero, i.size, i.bytes)) = some (some (.agg #[.int .i64 0, .int .i64 0, .int .i64 0, .int .i64 0, .int .i64 0, .int .i64 0, .int .i64 0, .bool false, .slice none 0 0, .bool false, .slice none 0 0, .int .i64 0, .int .i64 0, .slice none 0 0, .slice none 0 0, .slice none 0 0]), 16, 208) := by kernel_rfl
theorem toLogFrameS_calls (A : Option Addr) (c : Nat) (xs : List DLogFrame) (F : List Nat) (w : World) (h : Rep.LogFrame.sl w A c xs F) (hs : wtLogFrameS xs ≤ 1048576) :
    Calls Tryd.prog 41 #[.slice A xs.length c] w (NewPost Rep.LogFrame.slice xs w) := by
  have hu_laws_LogFrame := Tryd.underlying122
  have hu_laws_LogRecord := Tryd.underlying43
  have hu_laws_PageRecord := Tryd.underlying28
  have hu_impl_LogFrame := Tryd.underlying124
  have hu_impl_LogRecord := Tryd.underlying49
  have hu_impl_PageRecord := Tryd.underlying33
  have hn : xs.length ≤ 1048576 := by unfold wtLogFrameS at hs; omega
  obtain ⟨i0, hi, hz0, hz1, hz2⟩ := info_parts info124
  have hmk := fun (W : World) => run_make (P := Tryd.prog) W 59 124 i0 _ Tryd.underlying59 hi hz0 .i64 .i64 xs.length xs.length (by omega) (by omega) (by rw [hz2]; omega) (by omega)
  rw [hz1] at hmk
  clear hz1 hz2 hz0
  go_enter Tryd.func41, Tryd.ntmps41
  go_wp2
  clear hmk
  go_loopg [4] (xs.length) (fun m i wr => ∃ (k : Nat) (G : List Nat), m + k = xs.length ∧ i = .int .i64 k ∧ Ext w wr ∧ Fill Rep.LogFrame 124 wr w.heap.size xs.length (xs.take k) G ∧ (∀ b ∈ G, w.heap.size ≤ b) ∧ G.Nodup ∧ Unfr wr G)
  case atStart => exact ⟨0, [], by simp, rfl, alloc_ext _ _, Fill.made _ _ (by simp [size_madeCells, Rep.LogFrame]), by simp, by simp, by simp [Unfr]⟩
  case round =>
    obtain ⟨k, G, hk, rfl, hO, hF, hG, hGn, hGu⟩ := hrel
    have HO := Lib.hid hO; have HF := Lib.hid hF; have HG := Lib.hid hG; have HN := Lib.hid hGn; have HU := Lib.hid hGu; have HK := Lib.hid hk
    clear hO hF hG hGn hGu hk
    by_cases hlt : k < xs.length
    · have hw0 := mem_wtLogFrameS k hlt
      obtain ⟨g, off, A1, c1, F1, A2, c2, F2, A3, c3, F3, A4, c4, F4, A5, c5, F5, rfl, hg, hw, s1, s2, s3, s4, s5, k0, k1, k2, k3, k4, k5, k6, k7, k8, k9, k10, k11, k12, k13, k14, k15⟩ := sl_LogFrame (Rep.sl_ext h HO.out) k hlt
      clear h
      go_wp2_with fail
      refine (toLogFrame_calls _ xs[k] _ _ ⟨_, ⟨A1, c1, F1, A2, c2, F2, A3, c3, F3, A4, c4, F4, A5, c5, F5, rfl, rfl, hw, s1, s2, s3, s4, s5⟩, rfl⟩ (by omega)).mono ?_
      clear k0 k1 k2 k3 k4 k5 k6 k7 k8 k9 k10 k11 k12 k13 k14 k15 s1 s2 s3 s4 s5
      rintro e w1 ⟨v, G1, rfl, ⟨cs, hR, hv⟩, hN⟩
      obtain ⟨A1', c1', F1', A2', c2', F2', A3', c3', F3', A4', c4', F4', A5', c5', F5', rfl, rfl, -⟩ := id hR
      replace hv : v = .agg #[_, _, _, _, _, _, _, _, _, _, _, _, _, _, _, _] := hv
      subst hv
      have hF1 := HF.out.ext hN.ext
      obtain ⟨u0, q0⟩ := hF1.cell (j := k * 16) (by simp only [Rep.LogFrame]; omega)
      obtain ⟨u1, q1⟩ := hF1.cell (j := k * 16 + 1) (by simp only [Rep.LogFrame]; omega)
      obtain ⟨u2, q2⟩ := hF1.cell (j := k * 16 + 2) (by simp only [Rep.LogFrame]; omega)
      obtain ⟨u3, q3⟩ := hF1.cell (j := k * 16 + 3) (by simp only [Rep.LogFrame]; omega)
      obtain ⟨u4, q4⟩ := hF1.cell (j := k * 16 + 4) (by simp only [Rep.LogFrame]; omega)
      obtain ⟨u5, q5⟩ := hF1.cell (j := k * 16 + 5) (by simp only [Rep.LogFrame]; omega)
      obtain ⟨u6, q6⟩ := hF1.cell (j := k * 16 + 6) (by simp only [Rep.LogFrame]; omega)
      obtain ⟨u7, q7⟩ := hF1.cell (j := k * 16 + 7) (by simp only [Rep.LogFrame]; omega)
      obtain ⟨u8, q8⟩ := hF1.cell (j := k * 16 + 8) (by simp only [Rep.LogFrame]; omega)
      obtain ⟨u9, q9⟩ := hF1.cell (j := k * 16 + 9) (by simp only [Rep.LogFrame]; omega)
      obtain ⟨u10, q10⟩ := hF1.cell (j := k * 16 + 10) (by simp only [Rep.LogFrame]; omega)
      obtain ⟨u11, q11⟩ := hF1.cell (j := k * 16 + 11) (by simp only [Rep.LogFrame]; omega)
      obtain ⟨u12, q12⟩ := hF1.cell (j := k * 16 + 12) (by simp only [Rep.LogFrame]; omega)
      obtain ⟨u13, q13⟩ := hF1.cell (j := k * 16 + 13) (by simp only [Rep.LogFrame]; omega)
      obtain ⟨u14, q14⟩ := hF1.cell (j := k * 16 + 14) (by simp only [Rep.LogFrame]; omega)
      obtain ⟨u15, q15⟩ := hF1.cell (j := k * 16 + 15) (by simp only [Rep.LogFrame]; omega)
      have hfz := hF1.frozen
      have HF1 := Lib.hid hF1; have HR := Lib.hid hR; have HNN := Lib.hid hN
      clear hF1 hR hN
      go_wp2
      go_roundg (xs.length - (k + 1))
      case measure => have := HK.out; omega
      case rel =>
        have hl : (xs.take k).length = k := by simp; omega
        have hst := HF1.out.step HR.out (fun hb => by have := HNN.out.new _ hb; have := HF.out.lt; omega) (by rw [hl]; exact hlt)
        rw [hl, ← List.take_succ_eq_append_getElem hlt] at hst
        have hN := HNN.out
        rw [cells_LogFrame]
        refine ⟨k + 1, _, by omega, by go_num, (HO.out.ext HNN.out.ext).cells (fun h => absurd h (Nat.lt_irrefl _)) (k * 16) _, hst, fun b hb => ?_, ?_, ?_⟩
        · rcases List.mem_append.1 hb with hb | hb
          · exact HG.out b hb
          · exact Nat.le_trans HO.out.size (hN.new b hb)
        · refine List.nodup_append.2 ⟨HN.out, HNN.out.nodup, fun a ha b hb e => ?_⟩
          subst e
          have := hN.new a hb
          have := HF.out.glt a ha
          omega
        · refine Unfr.cells (fun b hb => ?_) _ (k * 16) _
          rcases List.mem_append.1 hb with hb | hb
          · exact HU.out.ext HNN.out.ext HF.out.glt b hb
          · exact HNN.out.unfr b hb
    · have hk := HK.out
      go_wp2
      go_ret
      have hf := HF.out
      have hg := HG.out
      have hu := HU.out
      have hn := HN.out
      rw [List.take_of_length_le (by omega)] at hf
      refine ⟨_, _, rfl, hf.done (by unfold maxLen; omega), HO.out, fun b hb => ?_, hf.nodup hn, hf.unfr hu⟩
      rcases List.mem_cons.1 hb with rfl | hb
      · exact Nat.le_refl _
      · exact hg b hb

theorem eqLogFrame_calls (v : Value) (x : DLogFrame) (F : List Nat) (u : Value) (y : DLogFrame) (G : List Nat) (w : World) (h : Rep.LogFrame.V w v x F) (k : Rep.LogFrame.V w u y G) :
    Calls Tryd.prog 100 #[v, u] w fun e w' => e = .returned (.bool (decide (x = y))) ∧ Ext w w' := by
  obtain ⟨_, ⟨A1, c1, F1, A2, c2, F2, A3, c3, F3, A4, c4, F4, A5, c5, F5, rfl, rfl, hw, s1, s2, s3, s4, s5⟩, rfl⟩ := h
  obtain ⟨_, ⟨B1, d1, G1, B2, d2, G2, B3, d3, G3, B4, d4, G4, B5, d5, G5, rfl, rfl, hv, t1, t2, t3, t4, t5⟩, rfl⟩ := k
  have hu_impl_LogFrame := Tryd.underlying124
  have hu_impl_LogRecord := Tryd.underlying49
  have hu_impl_PageRecord := Tryd.underlying33
  show Calls _ _ #[.agg #[_, _, _, _, _, _, _, _, _, _, _, _, _, _, _, _], .agg #[_, _, _, _, _, _, _, _, _, _, _, _, _, _, _, _]] _ _
  go_enter Tryd.func100, Tryd.ntmps100
  go_wp2_with fail
  all_goals try (go_ret; exact ⟨ret_bool (by symm; rw [decide_eq_false_iff_not]; rintro rfl; exact absurd ‹(_ != _) = true› (by simp)), ((alloc_ext _ _).alloc _)⟩)
  have E_LSN := Lib.hid (WalkArith.int_eq' (by assumption : (x.LSN != y.LSN) = false))
  have E_Epoch := Lib.hid (WalkArith.int_eq' (by assumption : (x.Epoch != y.Epoch) = false))
  refine (eqLogRecord_calls _ _ _ _ _ _ _ ⟨_, ⟨A1, c1, _, A2, c2, _, A3, c3, _, A4, c4, _, A5, c5, _, rfl, rfl, (by first | trivial | (have := hw; simp only [wfLogFrame, wfLogRecord] at this ⊢; simp only [this, and_self])), (Rep.sl_ext s1 ((alloc_ext _ _).alloc _)), (Rep.sl_ext s2 ((alloc_ext _ _).alloc _)), (Rep.sl_ext s3 ((alloc_ext _ _).alloc _)), (Rep.sl_ext s4 ((alloc_ext _ _).alloc _)), (Rep.sl_ext s5 ((alloc_ext _ _).alloc _))⟩, rfl⟩ ⟨_, ⟨B1, d1, _, B2, d2, _, B3, d3, _, B4, d4, _, B5, d5, _, rfl, rfl, (by first | trivial | (have := hv; simp only [wfLogFrame, wfLogRecord] at this ⊢; simp only [this, and_self])), (Rep.sl_ext t1 ((alloc_ext _ _).alloc _)), (Rep.sl_ext t2 ((alloc_ext _ _).alloc _)), (Rep.sl_ext t3 ((alloc_ext _ _).alloc _)), (Rep.sl_ext t4 ((alloc_ext _ _).alloc _)), (Rep.sl_ext t5 ((alloc_ext _ _).alloc _))⟩, rfl⟩).mono ?_
  rintro e w1 ⟨rfl, hO1⟩
  have HE1 := Lib.hid (Only.ext ((alloc_ext w _).alloc _) hO1)
  have HX1 := Lib.hid (hO1)
  obtain ⟨hc1, hf1⟩ := bcell HX1.out
  clear hO1
  by_cases q1 : x.Record = y.Record
  rotate_left
  · have b1 : decide (x.Record = y.Record) = false := by simp [q1]
    have Q1 := Lib.hid q1
    clear q1
    go_wp2_with fail
    go_ret
    exact ⟨ret_bool (by symm; rw [decide_eq_false_iff_not]; rintro rfl; exact Q1.out rfl), HE1.out⟩
  have b1 : decide (x.Record = y.Record) = true := by simp [q1]
  have E_Record := Lib.hid q1
  clear q1
  go_wp2_with fail
  go_ret
  exact ⟨ret_bool (by symm; rw [decide_eq_true_iff]; cases x; cases y; simp only [DLogFrame.mk.injEq]; exact ⟨E_LSN.out, E_Epoch.out, E_Record.out⟩), HE1.out⟩

theorem eqLogFrameS_calls (A : Option Addr) (c : Nat) (xs : List DLogFrame) (F : List Nat) (B : Option Addr) (d : Nat) (ys : List DLogFrame) (G : List Nat) (w : World) (h : Rep.LogFrame.sl w A c xs F) (k : Rep.LogFrame.sl w B d ys G) :
    Calls Tryd.prog 43 #[.slice A xs.length c, .slice B ys.length d] w fun e w' => e = .returned (.bool (decide (xs = ys))) ∧ Ext w w' := by
  have hu_impl_LogFrame := Tryd.underlying124
  have hu_impl_LogRecord := Tryd.underlying49
  have hu_impl_PageRecord := Tryd.underlying33
  have hm1 := h.1; have hm2 := h.2.1; have hm3 := k.1; have hm4 := k.2.1
  unfold maxLen at hm2 hm4
  by_cases hl : xs.length = ys.length
  · have hb : ((xs.length : Int) != ys.length) = false := by simp [hl]
    have HL := Lib.hid hl
    clear hl
    go_enter Tryd.func43, Tryd.ntmps43
    go_wp2
    go_loopg [5] (xs.length) (fun m i wr => ∃ j : Nat, m + j = xs.length ∧ i = .int .i64 j ∧ Ext w wr ∧ Hid (xs.take j = ys.take j))
    case atStart => exact ⟨0, by simp, rfl, Only.refl _ _, by simp [Hid]⟩
    case round =>
      obtain ⟨j, hj, rfl, hO, HT⟩ := hrel
      have HO := Lib.hid hO; have HJ := Lib.hid hj
      clear hO hj
      by_cases hlt : j < xs.length
      · have hlt2 : j < ys.length := by have := HL.out; omega
        obtain ⟨g1, o1, A1, c1, F1, A2, c2, F2, A3, c3, F3, A4, c4, F4, A5, c5, F5, rfl, hg1, hw, s1, s2, s3, s4, s5, k0, k1, k2, k3, k4, k5, k6, k7, k8, k9, k10, k11, k12, k13, k14, k15⟩ := sl_LogFrame (Rep.sl_ext h HO.out) j hlt
        obtain ⟨g2, o2, B1, d1, G1, B2, d2, G2, B3, d3, G3, B4, d4, G4, B5, d5, G5, rfl, hg2, hv, t1, t2, t3, t4, t5, l0, l1, l2, l3, l4, l5, l6, l7, l8, l9, l10, l11, l12, l13, l14, l15⟩ := sl_LogFrame (Rep.sl_ext k HO.out) j hlt2
        clear h k
        go_wp2_with fail
        go_still_tail 8, (by kernel_rfl)
        change wpList _ _ _ _ _ wr.drew
        go_wp2_with fail
        refine (eqLogFrame_calls _ xs[j] _ _ ys[j] _ _ ⟨_, ⟨A1, c1, F1, A2, c2, F2, A3, c3, F3, A4, c4, F4, A5, c5, F5, rfl, rfl, hw, Rep.sl_ext s1 (Only.refl [] _).drew, Rep.sl_ext s2 (Only.refl [] _).drew, Rep.sl_ext s3 (Only.refl [] _).drew, Rep.sl_ext s4 (Only.refl [] _).drew, Rep.sl_ext s5 (Only.refl [] _).drew⟩, rfl⟩ ⟨_, ⟨B1, d1, G1, B2, d2, G2, B3, d3, G3, B4, d4, G4, B5, d5, G5, rfl, rfl, hv, Rep.sl_ext t1 (Only.refl [] _).drew, Rep.sl_ext t2 (Only.refl [] _).drew, Rep.sl_ext t3 (Only.refl [] _).drew, Rep.sl_ext t4 (Only.refl [] _).drew, Rep.sl_ext t5 (Only.refl [] _).drew⟩, rfl⟩).mono ?_
        rintro e w1 ⟨rfl, hO1⟩
        have HO1 := Lib.hid ((HO.out.drew).ext hO1)
        clear hO1 k0 l0 k1 l1 k2 l2 k3 l3 k4 l4 k5 l5 k6 l6 k7 l7 k8 l8 k9 l9 k10 l10 k11 l11 k12 l12 k13 l13 k14 l14 k15 l15 s1 t1 s2 t2 s3 t3 s4 t4 s5 t5
        by_cases he : xs[j] = ys[j]
        · have hb2 : decide (xs[j] = ys[j]) = true := by simp [he]
          have HE := Lib.hid he
          clear he
          go_wp2
          go_roundg (xs.length - (j + 1))
          case measure => have := HJ.out; omega
          case rel =>
            refine ⟨j + 1, by omega, by go_num, HO1.out, ?_⟩
            show _ = _
            rw [List.take_succ_eq_append_getElem hlt, List.take_succ_eq_append_getElem hlt2, HT.out, HE.out]
        · have hb2 : decide (xs[j] = ys[j]) = false := by simp [he]
          have HE := Lib.hid he
          clear he
          go_wp2
          go_ret
          exact ⟨ret_bool (by symm; rw [decide_eq_false_iff_not]; rintro rfl; exact HE.out rfl), HO1.out⟩
      · have hj := HJ.out
        have hj2 := HL.out
        have ht := HT.out
        clear HJ HL HT
        rw [List.take_of_length_le (by omega), List.take_of_length_le (by omega)] at ht
        clear hj2
        have HT := Lib.hid ht
        clear ht
        go_wp2
        go_ret
        exact ⟨ret_bool (by simp [HT.out]), HO.out⟩
  · have hb : ((xs.length : Int) != ys.length) = true := by simp; omega
    go_enter Tryd.func43, Tryd.ntmps43
    go_wp2
    go_ret
    exact ⟨ret_bool (by symm; rw [decide_eq_false_iff_not]; rintro rfl; exact hl rfl), Only.refl _ _⟩

def ctLogFrame (x : DLogFrame) : Nat := x.Record.Before.Data.length + x.Record.After.Data.length + ctTxnEntryS x.Record.Txns + ctDirtyEntryS x.Record.Dirty + x.Record.Image.length + 11
def mkLogFrame (k : Int) (x : DLogFrame) : DLogFrame := ⟨k, k + 1, ⟨k + 1 + 1, k + 1 + 1 + 1, k + 1 + 1 + 1 + 1, k + 1 + 1 + 1 + 1 + 1, k + 1 + 1 + 1 + 1 + 1 + 1, ⟨((k + 1 + 1 + 1 + 1 + 1 + 1 + 1) % 3 == 0), mkB (k + 1 + 1 + 1 + 1 + 1 + 1 + 1 + 1) x.Record.Before.Data⟩, ⟨((k + 1 + 1 + 1 + 1 + 1 + 1 + 1 + 1 + x.Record.Before.Data.length) % 3 == 0), mkB (k + 1 + 1 + 1 + 1 + 1 + 1 + 1 + 1 + x.Record.Before.Data.length + 1) x.Record.After.Data⟩, k + 1 + 1 + 1 + 1 + 1 + 1 + 1 + 1 + x.Record.Before.Data.length + 1 + x.Record.After.Data.length, k + 1 + 1 + 1 + 1 + 1 + 1 + 1 + 1 + x.Record.Before.Data.length + 1 + x.Record.After.Data.length + 1, mkTxnEntryS (k + 1 + 1 + 1 + 1 + 1 + 1 + 1 + 1 + x.Record.Before.Data.length + 1 + x.Record.After.Data.length + 1 + 1) x.Record.Txns, mkDirtyEntryS (k + 1 + 1 + 1 + 1 + 1 + 1 + 1 + 1 + x.Record.Before.Data.length + 1 + x.Record.After.Data.length + 1 + 1 + ctTxnEntryS x.Record.Txns) x.Record.Dirty, mkB (k + 1 + 1 + 1 + 1 + 1 + 1 + 1 + 1 + x.Record.Before.Data.length + 1 + x.Record.After.Data.length + 1 + 1 + ctTxnEntryS x.Record.Txns + ctDirtyEntryS x.Record.Dirty) x.Record.Image⟩⟩
def ctLogFrameS (xs : List DLogFrame) : Nat := (xs.map ctLogFrame).sum
def mkLogFrameS : Int → List DLogFrame → List DLogFrame
  | _, [] => []
  | k, x :: xs => mkLogFrame k x :: mkLogFrameS (k + ctLogFrame x) xs
theorem mkLogFrameS_len : ∀ (k : Int) (xs : List DLogFrame), (mkLogFrameS k xs).length = xs.length
  | _, [] => rfl
  | k, x :: xs => by simp [mkLogFrameS, mkLogFrameS_len]
theorem ctLogFrameS_take (xs : List DLogFrame) (j : Nat) (h : j < xs.length) : ctLogFrameS (xs.take (j + 1)) = ctLogFrameS (xs.take j) + ctLogFrame xs[j] := map_sum_take _ _ _ h
theorem mkLogFrameS_at : ∀ (k : Int) (xs : List DLogFrame) (j : Nat) (h : j < (mkLogFrameS k xs).length), (mkLogFrameS k xs)[j] = mkLogFrame (k + ctLogFrameS (xs.take j)) (xs[j]'(by rw [mkLogFrameS_len] at h; exact h))
  | k, x :: xs, 0, _ => by simp [mkLogFrameS, ctLogFrameS]
  | k, x :: xs, j + 1, h => by
    simp only [mkLogFrameS, List.getElem_cons_succ, mkLogFrameS_at, List.take_succ_cons]
    congr 1
    simp [ctLogFrameS]
    omega
theorem mkLogFrameS_step (k : Int) (xs : List DLogFrame) (j : Nat) (h : j < xs.length) :
    ((mkLogFrameS k xs).take j ++ xs.drop j).set j (mkLogFrame (k + ctLogFrameS (xs.take j)) xs[j]) = (mkLogFrameS k xs).take (j + 1) ++ xs.drop (j + 1) := by
  have hl : ((mkLogFrameS k xs).take j).length = j := by simp [mkLogFrameS_len]; omega
  rw [List.set_append_right _ _ (by omega), hl, Nat.sub_self, List.drop_eq_getElem_cons h, List.set_cons_zero, List.take_succ_eq_append_getElem (by rw [mkLogFrameS_len]; exact h), mkLogFrameS_at]
  simp
theorem ctLogFrameS_mem (xs : List DLogFrame) (j : Nat) (h : j < xs.length) : ctLogFrameS (xs.take j) + ctLogFrame xs[j] ≤ ctLogFrameS xs := map_sum_mem _ _ _ h

theorem ctLogFrame_wt (x : DLogFrame) : ctLogFrame x ≤ 64 + 64 * wtLogFrame x := by
  have := ctTxnEntryS_wt (x.Record.Txns)
  have := ctDirtyEntryS_wt (x.Record.Dirty)
  simp only [ctLogFrame, wtLogFrame, wtLogRecord, wtPageRecord, wtPageRecord]
  omega
theorem ctLogFrameS_wt (xs : List DLogFrame) : ctLogFrameS xs ≤ 64 * wtLogFrameS xs := by
  unfold ctLogFrameS wtLogFrameS
  induction xs with
  | nil => simp
  | cons x xs ih => have := ctLogFrame_wt x; simp only [List.map_cons, List.sum_cons, List.length_cons] at *; omega

theorem markLogFrameS_calls (A : Option Addr) (c : Nat) (xs : List DLogFrame) (F : List Nat) (k : Int) (w : World) (h : Rep.LogFrame.sl w A c xs F) (hn : F.Nodup) (hu : Unfr w F)
    (h0 : 0 ≤ k) (hk : k + ctLogFrameS xs ≤ 4611686018427387904) :
    Calls Tryd.prog 44 #[.slice A xs.length c, .int .i64 k] w (MarkPost Rep.LogFrame A c (mkLogFrameS k xs) F (k + ctLogFrameS xs) w) := by
  have hu_impl_LogFrame := Tryd.underlying124
  have hu_impl_LogRecord := Tryd.underlying49
  have hu_impl_PageRecord := Tryd.underlying33
  have hm := Nat.le_trans h.1 h.2.1
  unfold maxLen at hm
  go_enter Tryd.func44, Tryd.ntmps44
  go_wp2
  go_loopg [5, 1] (xs.length) (fun m i q wr => ∃ (j : Nat) (p : Int), m + j = xs.length ∧ i = .int .i64 j ∧ q = .int .i64 p ∧ p = k + ctLogFrameS (xs.take j) ∧ Only F w wr ∧ Unfr wr F ∧ Rep.LogFrame.sl wr A c ((mkLogFrameS k xs).take j ++ xs.drop j) F)
  case atStart => exact ⟨0, _, by simp, rfl, rfl, by simp [ctLogFrameS], Only.refl _ _, hu, by simpa using h⟩
  case round =>
    obtain ⟨j, p, hj, rfl, rfl, hp, hO, hU, hS⟩ := hrel
    have HO := Lib.hid hO; have HU := Lib.hid hU; have HS := Lib.hid hS; have HJ := Lib.hid hj; have HP := Lib.hid hp
    clear hO hU hS hj hp
    by_cases hlt : j < xs.length
    · have hlen : j < ((mkLogFrameS k xs).take j ++ xs.drop j).length := by simp [mkLogFrameS_len]; omega
      have hct := ctLogFrameS_mem xs j hlt
      have hp0 : 0 ≤ p := by have := HP.out; omega
      have hp1 : p + ctLogFrame xs[j] ≤ 4611686018427387904 := by have := HP.out; omega
      obtain ⟨g, off, d, G, rfl, hgF, hgG, hGF, hGn, hR, hf, hdone⟩ := Rep.sl_foc HS.out hn HU.out j hlen
      rw [mid_at (mkLogFrameS_len k xs) hlt] at hR
      obtain ⟨A1, c1, F1, A2, c2, F2, A3, c3, F3, A4, c4, F4, A5, c5, F5, rfl, rfl, hw, s1, s2, s3, s4, s5⟩ := hR
      have hst := mkLogFrameS_step k xs j hlt
      rw [← HP.out] at hst
      generalize hx : xs[j] = x at *
      have HST := Lib.hid hst
      have HX := Lib.hid hx
      clear hst hx hlen hct
      unfold ctLogFrame at hp1
      obtain ⟨N4, n5, D5⟩ := List.nodup_append.1 hGn
      obtain ⟨N3, n4, D4⟩ := List.nodup_append.1 N4
      obtain ⟨N2, n3, D3⟩ := List.nodup_append.1 N3
      obtain ⟨n1, n2, D2⟩ := List.nodup_append.1 N2
      replace hf : Foc wr wr g (off + j * 16) 16 F _ _ := hf
      have k0 : wr.cell? ⟨g, off + j * 16, none⟩ = some _ := hf.cell 0 _ rfl
      have k1 := hf.cell 1 _ rfl
      have k2 := hf.cell 2 _ rfl
      have k3 := hf.cell 3 _ rfl
      have k4 := hf.cell 4 _ rfl
      have k5 := hf.cell 5 _ rfl
      have k6 := hf.cell 6 _ rfl
      have k7 := hf.cell 7 _ rfl
      have k8 := hf.cell 8 _ rfl
      have k9 := hf.cell 9 _ rfl
      have k10 := hf.cell 10 _ rfl
      have k11 := hf.cell 11 _ rfl
      have k12 := hf.cell 12 _ rfl
      have k13 := hf.cell 13 _ rfl
      have k14 := hf.cell 14 _ rfl
      have k15 := hf.cell 15 _ rfl
      have kf := fun o => hf.unfr g hgF o
      have HF0 := Lib.hid hf
      have HD := Lib.hid hdone
      clear hf hdone
      have hlF := fun b hb => Rep.sl_lt HS.out b hb
      go_wp2_with fail
      have hf1 := ((((((((HF0.out.set hgF 0 (by omega) (.int .i64 (p))).set hgF 1 (by omega) (.int .i64 (p + 1))).set hgF 2 (by omega) (.int .i64 (p + 1 + 1))).set hgF 3 (by omega) (.int .i64 (p + 1 + 1 + 1))).set hgF 4 (by omega) (.int .i64 (p + 1 + 1 + 1 + 1))).set hgF 5 (by omega) (.int .i64 (p + 1 + 1 + 1 + 1 + 1))).set hgF 6 (by omega) (.int .i64 (p + 1 + 1 + 1 + 1 + 1 + 1))).set hgF 7 (by omega) (.bool ((p + 1 + 1 + 1 + 1 + 1 + 1 + 1) % 3 == 0)))
      replace s1 := Rep.sl_only s1 (G := [g]) (((((((((Only.refl _ wr).setCell (p := ⟨g, off + j * 16 + 0, none⟩) (fun _ => by simp) (.int .i64 (p))).setCell (p := ⟨g, off + j * 16 + 1, none⟩) (fun _ => by simp) (.int .i64 (p + 1))).setCell (p := ⟨g, off + j * 16 + 2, none⟩) (fun _ => by simp) (.int .i64 (p + 1 + 1))).setCell (p := ⟨g, off + j * 16 + 3, none⟩) (fun _ => by simp) (.int .i64 (p + 1 + 1 + 1))).setCell (p := ⟨g, off + j * 16 + 4, none⟩) (fun _ => by simp) (.int .i64 (p + 1 + 1 + 1 + 1))).setCell (p := ⟨g, off + j * 16 + 5, none⟩) (fun _ => by simp) (.int .i64 (p + 1 + 1 + 1 + 1 + 1))).setCell (p := ⟨g, off + j * 16 + 6, none⟩) (fun _ => by simp) (.int .i64 (p + 1 + 1 + 1 + 1 + 1 + 1))).setCell (p := ⟨g, off + j * 16 + 7, none⟩) (fun _ => by simp) (.bool ((p + 1 + 1 + 1 + 1 + 1 + 1 + 1) % 3 == 0))) (fun b hb h => hgG (by have := List.mem_singleton.1 h; subst this; simp [hb]))
      replace s2 := Rep.sl_only s2 (G := [g]) (((((((((Only.refl _ wr).setCell (p := ⟨g, off + j * 16 + 0, none⟩) (fun _ => by simp) (.int .i64 (p))).setCell (p := ⟨g, off + j * 16 + 1, none⟩) (fun _ => by simp) (.int .i64 (p + 1))).setCell (p := ⟨g, off + j * 16 + 2, none⟩) (fun _ => by simp) (.int .i64 (p + 1 + 1))).setCell (p := ⟨g, off + j * 16 + 3, none⟩) (fun _ => by simp) (.int .i64 (p + 1 + 1 + 1))).setCell (p := ⟨g, off + j * 16 + 4, none⟩) (fun _ => by simp) (.int .i64 (p + 1 + 1 + 1 + 1))).setCell (p := ⟨g, off + j * 16 + 5, none⟩) (fun _ => by simp) (.int .i64 (p + 1 + 1 + 1 + 1 + 1))).setCell (p := ⟨g, off + j * 16 + 6, none⟩) (fun _ => by simp) (.int .i64 (p + 1 + 1 + 1 + 1 + 1 + 1))).setCell (p := ⟨g, off + j * 16 + 7, none⟩) (fun _ => by simp) (.bool ((p + 1 + 1 + 1 + 1 + 1 + 1 + 1) % 3 == 0))) (fun b hb h => hgG (by have := List.mem_singleton.1 h; subst this; simp [hb]))
      replace s3 := Rep.sl_only s3 (G := [g]) (((((((((Only.refl _ wr).setCell (p := ⟨g, off + j * 16 + 0, none⟩) (fun _ => by simp) (.int .i64 (p))).setCell (p := ⟨g, off + j * 16 + 1, none⟩) (fun _ => by simp) (.int .i64 (p + 1))).setCell (p := ⟨g, off + j * 16 + 2, none⟩) (fun _ => by simp) (.int .i64 (p + 1 + 1))).setCell (p := ⟨g, off + j * 16 + 3, none⟩) (fun _ => by simp) (.int .i64 (p + 1 + 1 + 1))).setCell (p := ⟨g, off + j * 16 + 4, none⟩) (fun _ => by simp) (.int .i64 (p + 1 + 1 + 1 + 1))).setCell (p := ⟨g, off + j * 16 + 5, none⟩) (fun _ => by simp) (.int .i64 (p + 1 + 1 + 1 + 1 + 1))).setCell (p := ⟨g, off + j * 16 + 6, none⟩) (fun _ => by simp) (.int .i64 (p + 1 + 1 + 1 + 1 + 1 + 1))).setCell (p := ⟨g, off + j * 16 + 7, none⟩) (fun _ => by simp) (.bool ((p + 1 + 1 + 1 + 1 + 1 + 1 + 1) % 3 == 0))) (fun b hb h => hgG (by have := List.mem_singleton.1 h; subst this; simp [hb]))
      replace s4 := Rep.sl_only s4 (G := [g]) (((((((((Only.refl _ wr).setCell (p := ⟨g, off + j * 16 + 0, none⟩) (fun _ => by simp) (.int .i64 (p))).setCell (p := ⟨g, off + j * 16 + 1, none⟩) (fun _ => by simp) (.int .i64 (p + 1))).setCell (p := ⟨g, off + j * 16 + 2, none⟩) (fun _ => by simp) (.int .i64 (p + 1 + 1))).setCell (p := ⟨g, off + j * 16 + 3, none⟩) (fun _ => by simp) (.int .i64 (p + 1 + 1 + 1))).setCell (p := ⟨g, off + j * 16 + 4, none⟩) (fun _ => by simp) (.int .i64 (p + 1 + 1 + 1 + 1))).setCell (p := ⟨g, off + j * 16 + 5, none⟩) (fun _ => by simp) (.int .i64 (p + 1 + 1 + 1 + 1 + 1))).setCell (p := ⟨g, off + j * 16 + 6, none⟩) (fun _ => by simp) (.int .i64 (p + 1 + 1 + 1 + 1 + 1 + 1))).setCell (p := ⟨g, off + j * 16 + 7, none⟩) (fun _ => by simp) (.bool ((p + 1 + 1 + 1 + 1 + 1 + 1 + 1) % 3 == 0))) (fun b hb h => hgG (by have := List.mem_singleton.1 h; subst this; simp [hb]))
      replace s5 := Rep.sl_only s5 (G := [g]) (((((((((Only.refl _ wr).setCell (p := ⟨g, off + j * 16 + 0, none⟩) (fun _ => by simp) (.int .i64 (p))).setCell (p := ⟨g, off + j * 16 + 1, none⟩) (fun _ => by simp) (.int .i64 (p + 1))).setCell (p := ⟨g, off + j * 16 + 2, none⟩) (fun _ => by simp) (.int .i64 (p + 1 + 1))).setCell (p := ⟨g, off + j * 16 + 3, none⟩) (fun _ => by simp) (.int .i64 (p + 1 + 1 + 1))).setCell (p := ⟨g, off + j * 16 + 4, none⟩) (fun _ => by simp) (.int .i64 (p + 1 + 1 + 1 + 1))).setCell (p := ⟨g, off + j * 16 + 5, none⟩) (fun _ => by simp) (.int .i64 (p + 1 + 1 + 1 + 1 + 1))).setCell (p := ⟨g, off + j * 16 + 6, none⟩) (fun _ => by simp) (.int .i64 (p + 1 + 1 + 1 + 1 + 1 + 1))).setCell (p := ⟨g, off + j * 16 + 7, none⟩) (fun _ => by simp) (.bool ((p + 1 + 1 + 1 + 1 + 1 + 1 + 1) % 3 == 0))) (fun b hb h => hgG (by have := List.mem_singleton.1 h; subst this; simp [hb]))
      refine (markByteS_calls _ _ _ _ _ _ s1 n1 (fun b hb o => hf1.unfr b (hGF b (by simp [hb])) o) (by omega) (by omega)).mono ?_
      rintro e w1 ⟨rfl, s1', hO, hu1⟩
      replace hf1 := hf1.call hO (fun b hb => by simp [hb]) hGF hgG hu1 hlF
      replace s2 := Rep.sl_only s2 hO (fun b hb hb' => D2 b (by simp [hb']) b hb rfl)
      replace s3 := Rep.sl_only s3 hO (fun b hb hb' => D3 b (by simp [hb']) b hb rfl)
      replace s4 := Rep.sl_only s4 hO (fun b hb hb' => D4 b (by simp [hb']) b hb rfl)
      replace s5 := Rep.sl_only s5 hO (fun b hb hb' => D5 b (by simp [hb']) b hb rfl)
      clear hO hu1 s1 k0 k1 k2 k3 k4 k5 k6 k7 k8 k9 k10 k11 k12 k13 k14 k15 kf
      have s1 := s1'
      clear s1'
      have k0 : w1.cell? ⟨g, off + j * 16, none⟩ = some _ := hf1.cell 0 _ rfl
      have k1 := hf1.cell 1 _ rfl
      have k2 := hf1.cell 2 _ rfl
      have k3 := hf1.cell 3 _ rfl
      have k4 := hf1.cell 4 _ rfl
      have k5 := hf1.cell 5 _ rfl
      have k6 := hf1.cell 6 _ rfl
      have k7 := hf1.cell 7 _ rfl
      have k8 := hf1.cell 8 _ rfl
      have k9 := hf1.cell 9 _ rfl
      have k10 := hf1.cell 10 _ rfl
      have k11 := hf1.cell 11 _ rfl
      have k12 := hf1.cell 12 _ rfl
      have k13 := hf1.cell 13 _ rfl
      have k14 := hf1.cell 14 _ rfl
      have k15 := hf1.cell 15 _ rfl
      have kf := fun o => hf1.unfr g hgF o
      have HF1 := Lib.hid hf1
      clear hf1
      go_wp2_with fail
      have hf2 := (HF1.out.set hgF 9 (by omega) (.bool ((p + 1 + 1 + 1 + 1 + 1 + 1 + 1 + 1 + x.Record.Before.Data.length) % 3 == 0)))
      replace s1 := Rep.sl_only s1 (G := [g]) ((Only.refl _ w1).setCell (p := ⟨g, off + j * 16 + 9, none⟩) (fun _ => by simp) (.bool ((p + 1 + 1 + 1 + 1 + 1 + 1 + 1 + 1 + x.Record.Before.Data.length) % 3 == 0))) (fun b hb h => hgG (by have := List.mem_singleton.1 h; subst this; simp [hb]))
      replace s2 := Rep.sl_only s2 (G := [g]) ((Only.refl _ w1).setCell (p := ⟨g, off + j * 16 + 9, none⟩) (fun _ => by simp) (.bool ((p + 1 + 1 + 1 + 1 + 1 + 1 + 1 + 1 + x.Record.Before.Data.length) % 3 == 0))) (fun b hb h => hgG (by have := List.mem_singleton.1 h; subst this; simp [hb]))
      replace s3 := Rep.sl_only s3 (G := [g]) ((Only.refl _ w1).setCell (p := ⟨g, off + j * 16 + 9, none⟩) (fun _ => by simp) (.bool ((p + 1 + 1 + 1 + 1 + 1 + 1 + 1 + 1 + x.Record.Before.Data.length) % 3 == 0))) (fun b hb h => hgG (by have := List.mem_singleton.1 h; subst this; simp [hb]))
      replace s4 := Rep.sl_only s4 (G := [g]) ((Only.refl _ w1).setCell (p := ⟨g, off + j * 16 + 9, none⟩) (fun _ => by simp) (.bool ((p + 1 + 1 + 1 + 1 + 1 + 1 + 1 + 1 + x.Record.Before.Data.length) % 3 == 0))) (fun b hb h => hgG (by have := List.mem_singleton.1 h; subst this; simp [hb]))
      replace s5 := Rep.sl_only s5 (G := [g]) ((Only.refl _ w1).setCell (p := ⟨g, off + j * 16 + 9, none⟩) (fun _ => by simp) (.bool ((p + 1 + 1 + 1 + 1 + 1 + 1 + 1 + 1 + x.Record.Before.Data.length) % 3 == 0))) (fun b hb h => hgG (by have := List.mem_singleton.1 h; subst this; simp [hb]))
      refine (markByteS_calls _ _ _ _ _ _ s2 n2 (fun b hb o => hf2.unfr b (hGF b (by simp [hb])) o) (by omega) (by omega)).mono ?_
      rintro e w2 ⟨rfl, s2', hO, hu2⟩
      replace hf2 := hf2.call hO (fun b hb => by simp [hb]) hGF hgG hu2 hlF
      replace s1 := Rep.sl_only s1 hO (fun b hb hb' => D2 b (by simp [hb]) b hb' rfl)
      replace s3 := Rep.sl_only s3 hO (fun b hb hb' => D3 b (by simp [hb']) b hb rfl)
      replace s4 := Rep.sl_only s4 hO (fun b hb hb' => D4 b (by simp [hb']) b hb rfl)
      replace s5 := Rep.sl_only s5 hO (fun b hb hb' => D5 b (by simp [hb']) b hb rfl)
      clear hO hu2 s2 k0 k1 k2 k3 k4 k5 k6 k7 k8 k9 k10 k11 k12 k13 k14 k15 kf
      have s2 := s2'
      clear s2'
      have k0 : w2.cell? ⟨g, off + j * 16, none⟩ = some _ := hf2.cell 0 _ rfl
      have k1 := hf2.cell 1 _ rfl
      have k2 := hf2.cell 2 _ rfl
      have k3 := hf2.cell 3 _ rfl
      have k4 := hf2.cell 4 _ rfl
      have k5 := hf2.cell 5 _ rfl
      have k6 := hf2.cell 6 _ rfl
      have k7 := hf2.cell 7 _ rfl
      have k8 := hf2.cell 8 _ rfl
      have k9 := hf2.cell 9 _ rfl
      have k10 := hf2.cell 10 _ rfl
      have k11 := hf2.cell 11 _ rfl
      have k12 := hf2.cell 12 _ rfl
      have k13 := hf2.cell 13 _ rfl
      have k14 := hf2.cell 14 _ rfl
      have k15 := hf2.cell 15 _ rfl
      have kf := fun o => hf2.unfr g hgF o
      have HF2 := Lib.hid hf2
      clear hf2
      go_wp2_with fail
      have hf3 := ((HF2.out.set hgF 11 (by omega) (.int .i64 (p + 1 + 1 + 1 + 1 + 1 + 1 + 1 + 1 + x.Record.Before.Data.length + 1 + x.Record.After.Data.length))).set hgF 12 (by omega) (.int .i64 (p + 1 + 1 + 1 + 1 + 1 + 1 + 1 + 1 + x.Record.Before.Data.length + 1 + x.Record.After.Data.length + 1)))
      replace s1 := Rep.sl_only s1 (G := [g]) (((Only.refl _ w2).setCell (p := ⟨g, off + j * 16 + 11, none⟩) (fun _ => by simp) (.int .i64 (p + 1 + 1 + 1 + 1 + 1 + 1 + 1 + 1 + x.Record.Before.Data.length + 1 + x.Record.After.Data.length))).setCell (p := ⟨g, off + j * 16 + 12, none⟩) (fun _ => by simp) (.int .i64 (p + 1 + 1 + 1 + 1 + 1 + 1 + 1 + 1 + x.Record.Before.Data.length + 1 + x.Record.After.Data.length + 1))) (fun b hb h => hgG (by have := List.mem_singleton.1 h; subst this; simp [hb]))
      replace s2 := Rep.sl_only s2 (G := [g]) (((Only.refl _ w2).setCell (p := ⟨g, off + j * 16 + 11, none⟩) (fun _ => by simp) (.int .i64 (p + 1 + 1 + 1 + 1 + 1 + 1 + 1 + 1 + x.Record.Before.Data.length + 1 + x.Record.After.Data.length))).setCell (p := ⟨g, off + j * 16 + 12, none⟩) (fun _ => by simp) (.int .i64 (p + 1 + 1 + 1 + 1 + 1 + 1 + 1 + 1 + x.Record.Before.Data.length + 1 + x.Record.After.Data.length + 1))) (fun b hb h => hgG (by have := List.mem_singleton.1 h; subst this; simp [hb]))
      replace s3 := Rep.sl_only s3 (G := [g]) (((Only.refl _ w2).setCell (p := ⟨g, off + j * 16 + 11, none⟩) (fun _ => by simp) (.int .i64 (p + 1 + 1 + 1 + 1 + 1 + 1 + 1 + 1 + x.Record.Before.Data.length + 1 + x.Record.After.Data.length))).setCell (p := ⟨g, off + j * 16 + 12, none⟩) (fun _ => by simp) (.int .i64 (p + 1 + 1 + 1 + 1 + 1 + 1 + 1 + 1 + x.Record.Before.Data.length + 1 + x.Record.After.Data.length + 1))) (fun b hb h => hgG (by have := List.mem_singleton.1 h; subst this; simp [hb]))
      replace s4 := Rep.sl_only s4 (G := [g]) (((Only.refl _ w2).setCell (p := ⟨g, off + j * 16 + 11, none⟩) (fun _ => by simp) (.int .i64 (p + 1 + 1 + 1 + 1 + 1 + 1 + 1 + 1 + x.Record.Before.Data.length + 1 + x.Record.After.Data.length))).setCell (p := ⟨g, off + j * 16 + 12, none⟩) (fun _ => by simp) (.int .i64 (p + 1 + 1 + 1 + 1 + 1 + 1 + 1 + 1 + x.Record.Before.Data.length + 1 + x.Record.After.Data.length + 1))) (fun b hb h => hgG (by have := List.mem_singleton.1 h; subst this; simp [hb]))
      replace s5 := Rep.sl_only s5 (G := [g]) (((Only.refl _ w2).setCell (p := ⟨g, off + j * 16 + 11, none⟩) (fun _ => by simp) (.int .i64 (p + 1 + 1 + 1 + 1 + 1 + 1 + 1 + 1 + x.Record.Before.Data.length + 1 + x.Record.After.Data.length))).setCell (p := ⟨g, off + j * 16 + 12, none⟩) (fun _ => by simp) (.int .i64 (p + 1 + 1 + 1 + 1 + 1 + 1 + 1 + 1 + x.Record.Before.Data.length + 1 + x.Record.After.Data.length + 1))) (fun b hb h => hgG (by have := List.mem_singleton.1 h; subst this; simp [hb]))
      refine (markTxnEntryS_calls _ _ _ _ _ _ s3 n3 (fun b hb o => hf3.unfr b (hGF b (by simp [hb])) o) (by omega) (by omega)).mono ?_
      rintro e w3 ⟨rfl, s3', hO, hu3⟩
      replace hf3 := hf3.call hO (fun b hb => by simp [hb]) hGF hgG hu3 hlF
      replace s1 := Rep.sl_only s1 hO (fun b hb hb' => D3 b (by simp [hb]) b hb' rfl)
      replace s2 := Rep.sl_only s2 hO (fun b hb hb' => D3 b (by simp [hb]) b hb' rfl)
      replace s4 := Rep.sl_only s4 hO (fun b hb hb' => D4 b (by simp [hb']) b hb rfl)
      replace s5 := Rep.sl_only s5 hO (fun b hb hb' => D5 b (by simp [hb']) b hb rfl)
      clear hO hu3 s3 k0 k1 k2 k3 k4 k5 k6 k7 k8 k9 k10 k11 k12 k13 k14 k15 kf
      have s3 := s3'
      clear s3'
      have k0 : w3.cell? ⟨g, off + j * 16, none⟩ = some _ := hf3.cell 0 _ rfl
      have k1 := hf3.cell 1 _ rfl
      have k2 := hf3.cell 2 _ rfl
      have k3 := hf3.cell 3 _ rfl
      have k4 := hf3.cell 4 _ rfl
      have k5 := hf3.cell 5 _ rfl
      have k6 := hf3.cell 6 _ rfl
      have k7 := hf3.cell 7 _ rfl
      have k8 := hf3.cell 8 _ rfl
      have k9 := hf3.cell 9 _ rfl
      have k10 := hf3.cell 10 _ rfl
      have k11 := hf3.cell 11 _ rfl
      have k12 := hf3.cell 12 _ rfl
      have k13 := hf3.cell 13 _ rfl
      have k14 := hf3.cell 14 _ rfl
      have k15 := hf3.cell 15 _ rfl
      have kf := fun o => hf3.unfr g hgF o
      have HF3 := Lib.hid hf3
      clear hf3
      go_wp2_with fail
      have hf4 := HF3.out





      refine (markDirtyEntryS_calls _ _ _ _ _ _ s4 n4 (fun b hb o => hf4.unfr b (hGF b (by simp [hb])) o) (by omega) (by omega)).mono ?_
      rintro e w4 ⟨rfl, s4', hO, hu4⟩
      replace hf4 := hf4.call hO (fun b hb => by simp [hb]) hGF hgG hu4 hlF
      replace s1 := Rep.sl_only s1 hO (fun b hb hb' => D4 b (by simp [hb]) b hb' rfl)
      replace s2 := Rep.sl_only s2 hO (fun b hb hb' => D4 b (by simp [hb]) b hb' rfl)
      replace s3 := Rep.sl_only s3 hO (fun b hb hb' => D4 b (by simp [hb]) b hb' rfl)
      replace s5 := Rep.sl_only s5 hO (fun b hb hb' => D5 b (by simp [hb']) b hb rfl)
      clear hO hu4 s4 k0 k1 k2 k3 k4 k5 k6 k7 k8 k9 k10 k11 k12 k13 k14 k15 kf
      have s4 := s4'
      clear s4'
      have k0 : w4.cell? ⟨g, off + j * 16, none⟩ = some _ := hf4.cell 0 _ rfl
      have k1 := hf4.cell 1 _ rfl
      have k2 := hf4.cell 2 _ rfl
      have k3 := hf4.cell 3 _ rfl
      have k4 := hf4.cell 4 _ rfl
      have k5 := hf4.cell 5 _ rfl
      have k6 := hf4.cell 6 _ rfl
      have k7 := hf4.cell 7 _ rfl
      have k8 := hf4.cell 8 _ rfl
      have k9 := hf4.cell 9 _ rfl
      have k10 := hf4.cell 10 _ rfl
      have k11 := hf4.cell 11 _ rfl
      have k12 := hf4.cell 12 _ rfl
      have k13 := hf4.cell 13 _ rfl
      have k14 := hf4.cell 14 _ rfl
      have k15 := hf4.cell 15 _ rfl
      have kf := fun o => hf4.unfr g hgF o
      have HF4 := Lib.hid hf4
      clear hf4
      go_wp2_with fail
      have hf5 := HF4.out





      refine (markByteS_calls _ _ _ _ _ _ s5 n5 (fun b hb o => hf5.unfr b (hGF b (by simp [hb])) o) (by omega) (by omega)).mono ?_
      rintro e w5 ⟨rfl, s5', hO, hu5⟩
      replace hf5 := hf5.call hO (fun b hb => by simp [hb]) hGF hgG hu5 hlF
      replace s1 := Rep.sl_only s1 hO (fun b hb hb' => D5 b (by simp [hb]) b hb' rfl)
      replace s2 := Rep.sl_only s2 hO (fun b hb hb' => D5 b (by simp [hb]) b hb' rfl)
      replace s3 := Rep.sl_only s3 hO (fun b hb hb' => D5 b (by simp [hb]) b hb' rfl)
      replace s4 := Rep.sl_only s4 hO (fun b hb hb' => D5 b (by simp [hb]) b hb' rfl)
      clear hO hu5 s5 k0 k1 k2 k3 k4 k5 k6 k7 k8 k9 k10 k11 k12 k13 k14 k15 kf
      have s5 := s5'
      clear s5'
      have k0 : w5.cell? ⟨g, off + j * 16, none⟩ = some _ := hf5.cell 0 _ rfl
      have k1 := hf5.cell 1 _ rfl
      have k2 := hf5.cell 2 _ rfl
      have k3 := hf5.cell 3 _ rfl
      have k4 := hf5.cell 4 _ rfl
      have k5 := hf5.cell 5 _ rfl
      have k6 := hf5.cell 6 _ rfl
      have k7 := hf5.cell 7 _ rfl
      have k8 := hf5.cell 8 _ rfl
      have k9 := hf5.cell 9 _ rfl
      have k10 := hf5.cell 10 _ rfl
      have k11 := hf5.cell 11 _ rfl
      have k12 := hf5.cell 12 _ rfl
      have k13 := hf5.cell 13 _ rfl
      have k14 := hf5.cell 14 _ rfl
      have k15 := hf5.cell 15 _ rfl
      have kf := fun o => hf5.unfr g hgF o
      have HF5 := Lib.hid hf5
      clear hf5
      go_wp2
      go_roundg (xs.length - (j + 1))
      case measure => have := HJ.out; omega
      case rel =>
        have hfe := HF5.out
        have hr := HD.out _ (mkLogFrame p x) _ hfe ⟨A1, c1, _, A2, c2, _, A3, c3, _, A4, c4, _, A5, c5, _, (by simp [mkLogFrame, mkB_len, mkDirtyEntryS_len, mkTxnEntryS_len]), rfl, (by simp only [wfLogFrame, mkLogFrame]; (repeat' apply And.intro) <;> exact WalkArith.wf_i64 (by omega)), s1, s2, s3, s4, s5⟩
        rw [HST.out] at hr
        refine ⟨j + 1, _, by omega, by go_num, rfl, ?_, (HO.out.trans hfe.only), hfe.unfr, hr⟩
        have := HP.out
        rw [ctLogFrameS_take xs j hlt, HX.out]
        unfold ctLogFrame
        omega
    · have hj := HJ.out
      have hs := HS.out
      have hp := HP.out
      rw [List.take_of_length_le (by rw [mkLogFrameS_len]; omega), List.drop_of_length_le (by omega), List.append_nil] at hs
      rw [List.take_of_length_le (by omega)] at hp
      have HP2 := Lib.hid hp
      clear hp HP
      go_wp2
      go_ret
      exact ⟨ret_int HP2.out, hs, HO.out, HU.out⟩

end Go.Proofs.YtghgjddiheebeaaDoor
