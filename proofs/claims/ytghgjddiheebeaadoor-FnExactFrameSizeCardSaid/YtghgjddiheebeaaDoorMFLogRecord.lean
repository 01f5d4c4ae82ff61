/- LogRecord: the data, how they lie in cells, and the laws' own functions over them. Printed by gen_fam.py, a program of this session. -/
import Derived.Test.YtghgjddiheebeaaDoorMFPageRecord
import Derived.Test.YtghgjddiheebeaaDoorMFTxnEntry
import Derived.Test.YtghgjddiheebeaaDoorMFDirtyEntry
import Derived.StillTailTactics
namespace Go.Proofs.YtghgjddiheebeaaDoor
open Go.RowKit
set_option linter.unusedSimpArgs false
set_option linter.unusedVariables false
set_option maxRecDepth 100000
set_option maxHeartbeats 8000000

structure DLogRecord where
  Kind : Int
  Txn : Int
  Prev : Int
  Page : Int
  Slot : Int
  Before : DPageRecord
  After : DPageRecord
  UndoNext : Int
  NextTxn : Int
  Txns : List DTxnEntry
  Dirty : List DDirtyEntry
  Image : List Int
  deriving DecidableEq

def wfLogRecord (x : DLogRecord) : Prop := (Lit.int .i64 x.Kind).wf = true ∧ (Lit.int .i64 x.Txn).wf = true ∧ (Lit.int .i64 x.Prev).wf = true ∧ (Lit.int .i64 x.Page).wf = true ∧ (Lit.int .i64 x.Slot).wf = true ∧ (Lit.int .i64 x.UndoNext).wf = true ∧ (Lit.int .i64 x.NextTxn).wf = true

def Rep.LogRecord : Rep DLogRecord where
  sz := 14
  R := fun w x cs F => ∃ (A1 : Option Addr) (c1 : Nat) (F1 : List Nat), ∃ (A2 : Option Addr) (c2 : Nat) (F2 : List Nat), ∃ (A3 : Option Addr) (c3 : Nat) (F3 : List Nat), ∃ (A4 : Option Addr) (c4 : Nat) (F4 : List Nat), ∃ (A5 : Option Addr) (c5 : Nat) (F5 : List Nat), cs = [.int .i64 x.Kind, .int .i64 x.Txn, .int .i64 x.Prev, .int .i64 x.Page, .int .i64 x.Slot, .bool x.Before.Used, .slice A1 x.Before.Data.length c1, .bool x.After.Used, .slice A2 x.After.Data.length c2, .int .i64 x.UndoNext, .int .i64 x.NextTxn, .slice A3 x.Txns.length c3, .slice A4 x.Dirty.length c4, .slice A5 x.Image.length c5] ∧ F = F1 ++ F2 ++ F3 ++ F4 ++ F5 ∧ wfLogRecord x ∧ (Rep.int .u8).sl w A1 c1 x.Before.Data F1 ∧ (Rep.int .u8).sl w A2 c2 x.After.Data F2 ∧ Rep.TxnEntry.sl w A3 c3 x.Txns F3 ∧ Rep.DirtyEntry.sl w A4 c4 x.Dirty F4 ∧ (Rep.int .u8).sl w A5 c5 x.Image F5
  val := fun | [a0, a1, a2, a3, a4, a5, a6, a7, a8, a9, a10, a11, a12, a13] => .agg #[a0, a1, a2, a3, a4, a5, a6, a7, a8, a9, a10, a11, a12, a13] | _ => undef
  len := by rintro w x cs F ⟨A1, c1, F1, A2, c2, F2, A3, c3, F3, A4, c4, F4, A5, c5, F5, rfl, -⟩; rfl
  lt := by
    rintro w x cs F ⟨A1, c1, F1, A2, c2, F2, A3, c3, F3, A4, c4, F4, A5, c5, F5, -, rfl, -, s1, s2, s3, s4, s5⟩ g hg
    simp only [List.mem_append] at hg
    rcases hg with ((((hg | hg) | hg) | hg) | hg)
    · exact Rep.sl_lt s1 g hg
    · exact Rep.sl_lt s2 g hg
    · exact Rep.sl_lt s3 g hg
    · exact Rep.sl_lt s4 g hg
    · exact Rep.sl_lt s5 g hg
  keep := by
    rintro w w' x cs F ⟨A1, c1, F1, A2, c2, F2, A3, c3, F3, A4, c4, F4, A5, c5, F5, rfl, rfl, hw, s1, s2, s3, s4, s5⟩ hk
    exact ⟨A1, c1, _, A2, c2, _, A3, c3, _, A4, c4, _, A5, c5, _, rfl, rfl, hw, Rep.sl_keep s1 (fun b hb => hk b (by simp [hb])), Rep.sl_keep s2 (fun b hb => hk b (by simp [hb])), Rep.sl_keep s3 (fun b hb => hk b (by simp [hb])), Rep.sl_keep s4 (fun b hb => hk b (by simp [hb])), Rep.sl_keep s5 (fun b hb => hk b (by simp [hb]))⟩

theorem val_LogRecord : ∀ (l : List Value), l.length = 14 → Rep.LogRecord.val l = .agg ⟨l⟩
  | [_, _, _, _, _, _, _, _, _, _, _, _, _, _], _ => rfl

theorem sl_LogRecord {w : World} {A : Option Addr} {c : Nat} {xs : List DLogRecord} {F : List Nat} (h : Rep.LogRecord.sl w A c xs F) (i : Nat) (hi : i < xs.length) :
    ∃ (g off : Nat) (A1 : Option Addr) (c1 : Nat) (F1 : List Nat) (A2 : Option Addr) (c2 : Nat) (F2 : List Nat) (A3 : Option Addr) (c3 : Nat) (F3 : List Nat) (A4 : Option Addr) (c4 : Nat) (F4 : List Nat) (A5 : Option Addr) (c5 : Nat) (F5 : List Nat), A = some ⟨g, off, none⟩ ∧ g < w.heap.size ∧ wfLogRecord (xs[i]) ∧ (Rep.int .u8).sl w A1 c1 (xs[i]).Before.Data F1 ∧ (Rep.int .u8).sl w A2 c2 (xs[i]).After.Data F2 ∧ Rep.TxnEntry.sl w A3 c3 (xs[i]).Txns F3 ∧ Rep.DirtyEntry.sl w A4 c4 (xs[i]).Dirty F4 ∧ (Rep.int .u8).sl w A5 c5 (xs[i]).Image F5 ∧
      w.cell? ⟨g, off + i * 14, none⟩ = some (.int .i64 (xs[i]).Kind) ∧ w.cell? ⟨g, off + i * 14 + 1, none⟩ = some (.int .i64 (xs[i]).Txn) ∧ w.cell? ⟨g, off + i * 14 + 2, none⟩ = some (.int .i64 (xs[i]).Prev) ∧ w.cell? ⟨g, off + i * 14 + 3, none⟩ = some (.int .i64 (xs[i]).Page) ∧ w.cell? ⟨g, off + i * 14 + 4, none⟩ = some (.int .i64 (xs[i]).Slot) ∧ w.cell? ⟨g, off + i * 14 + 5, none⟩ = some (.bool (xs[i]).Before.Used) ∧ w.cell? ⟨g, off + i * 14 + 6, none⟩ = some (.slice A1 (xs[i]).Before.Data.length c1) ∧ w.cell? ⟨g, off + i * 14 + 7, none⟩ = some (.bool (xs[i]).After.Used) ∧ w.cell? ⟨g, off + i * 14 + 8, none⟩ = some (.slice A2 (xs[i]).After.Data.length c2) ∧ w.cell? ⟨g, off + i * 14 + 9, none⟩ = some (.int .i64 (xs[i]).UndoNext) ∧ w.cell? ⟨g, off + i * 14 + 10, none⟩ = some (.int .i64 (xs[i]).NextTxn) ∧ w.cell? ⟨g, off + i * 14 + 11, none⟩ = some (.slice A3 (xs[i]).Txns.length c3) ∧ w.cell? ⟨g, off + i * 14 + 12, none⟩ = some (.slice A4 (xs[i]).Dirty.length c4) ∧ w.cell? ⟨g, off + i * 14 + 13, none⟩ = some (.slice A5 (xs[i]).Image.length c5) := by
  obtain ⟨g, off, d, G, e, hg, _, ⟨A1, c1, F1, A2, c2, F2, A3, c3, F3, A4, c4, F4, A5, c5, F5, rfl, rfl, hw, s1, s2, s3, s4, s5⟩, _, hc⟩ := Rep.sl_at h i hi
  exact ⟨g, off, A1, c1, _, A2, c2, _, A3, c3, _, A4, c4, _, A5, c5, _, e, hg, hw, s1, s2, s3, s4, s5, hc 0 _ rfl, hc 1 _ rfl, hc 2 _ rfl, hc 3 _ rfl, hc 4 _ rfl, hc 5 _ rfl, hc 6 _ rfl, hc 7 _ rfl, hc 8 _ rfl, hc 9 _ rfl, hc 10 _ rfl, hc 11 _ rfl, hc 12 _ rfl, hc 13 _ rfl⟩

def wtLogRecord (x : DLogRecord) : Nat := wtPageRecord x.Before + wtPageRecord x.After + x.Txns.length + x.Dirty.length + x.Image.length
def wtLogRecordS (xs : List DLogRecord) : Nat := xs.length + (xs.map wtLogRecord).sum

theorem cells_LogRecord (w : World) (g o : Nat) (v0 v1 v2 v3 v4 v5 v6 v7 v8 v9 v10 v11 v12 v13 : Value) : ((((((((((((((w.setCell ⟨g, o, none⟩ v0).setCell ⟨g, o + 1, none⟩ v1).setCell ⟨g, o + 2, none⟩ v2).setCell ⟨g, o + 3, none⟩ v3).setCell ⟨g, o + 4, none⟩ v4).setCell ⟨g, o + 5, none⟩ v5).setCell ⟨g, o + 6, none⟩ v6).setCell ⟨g, o + 7, none⟩ v7).setCell ⟨g, o + 8, none⟩ v8).setCell ⟨g, o + 9, none⟩ v9).setCell ⟨g, o + 10, none⟩ v10).setCell ⟨g, o + 11, none⟩ v11).setCell ⟨g, o + 12, none⟩ v12).setCell ⟨g, o + 13, none⟩ v13) = w.setCells g o [v0, v1, v2, v3, v4, v5, v6, v7, v8, v9, v10, v11, v12, v13] := rfl

theorem szLogRecord_calls (v : Value) (x : DLogRecord) (F : List Nat) (left : Int) (w : World) (h : Rep.LogRecord.V w v x F) (h0 : 0 ≤ left) (h1 : left ≤ 4611686018427387904) :
    Calls Tryd.prog 26 #[v, .int .i64 left] w (SzPost left (wtLogRecord x) w) := by
  obtain ⟨_, ⟨A1, c1, F1, A2, c2, F2, A3, c3, F3, A4, c4, F4, A5, c5, F5, rfl, rfl, hw, s1, s2, s3, s4, s5⟩, rfl⟩ := h
  have hu_laws_LogRecord := Tryd.underlying43
  have hu_laws_PageRecord := Tryd.underlying28
  show Calls _ _ #[.agg #[_, _, _, _, _, _, _, _, _, _, _, _, _, _], _] _ _
  go_enter Tryd.func26, Tryd.ntmps26
  go_wp2_with fail
  refine (szPageRecord_calls _ _ _ _ _ ⟨_, ⟨A1, c1, _, rfl, rfl, (by first | trivial | (have := hw; simp only [wfLogRecord, wfPageRecord] at this ⊢; simp only [this, and_self])), (Rep.sl_ext s1 (alloc_ext _ _))⟩, rfl⟩ h0 h1).mono ?_
  rintro e w1 ⟨⟨r1, rfl, hr1⟩, hO1⟩
  have HE1 := Lib.hid (Only.ext (alloc_ext w _) hO1)
  have HX1 := Lib.hid (hO1)
  obtain ⟨hc1, hf1⟩ := bcell HX1.out
  clear hO1
  rcases hr1 with rfl | ⟨ha1, hb1⟩
  · go_wp2
    go_ret
    exact ⟨⟨-1, rfl, .inl rfl⟩, HE1.out⟩
  have hl1 : r1 ≤ 4611686018427387904 := by omega
  have HB1 := Lib.hid hb1
  clear hb1
  go_wp2_with fail
  refine (szPageRecord_calls _ _ _ _ _ ⟨_, ⟨A2, c2, _, rfl, rfl, (by first | trivial | (have := hw; simp only [wfLogRecord, wfPageRecord] at this ⊢; simp only [this, and_self])), (Rep.sl_ext s2 HE1.out)⟩, rfl⟩ ha1 hl1).mono ?_
  rintro e w2 ⟨⟨r2, rfl, hr2⟩, hO2⟩
  have HE2 := Lib.hid (Only.ext HE1.out hO2)
  have HX2 := Lib.hid (Only.ext HX1.out hO2)
  obtain ⟨hc2, hf2⟩ := bcell HX2.out
  clear hc1 hf1
  clear hO2
  rcases hr2 with rfl | ⟨ha2, hb2⟩
  · go_wp2
    go_ret
    exact ⟨⟨-1, rfl, .inl rfl⟩, HE2.out⟩
  have hl2 : r2 ≤ 4611686018427387904 := by omega
  have HB2 := Lib.hid hb2
  clear hb2
  go_wp2_with fail
  refine (szTxnEntryS_calls _ _ _ _ _ ha2 hl2 (Nat.le_trans s3.1 s3.2.1)).mono ?_
  rintro e w3 ⟨⟨r3, rfl, hr3⟩, hO3⟩
  have HE3 := Lib.hid (Only.ext HE2.out hO3)
  have HX3 := Lib.hid (Only.ext HX2.out hO3)
  obtain ⟨hc3, hf3⟩ := bcell HX3.out
  clear hc2 hf2
  clear hO3
  rcases hr3 with rfl | ⟨ha3, hb3⟩
  · go_wp2
    go_ret
    exact ⟨⟨-1, rfl, .inl rfl⟩, HE3.out⟩
  have hl3 : r3 ≤ 4611686018427387904 := by omega
  have HB3 := Lib.hid hb3
  clear hb3
  go_wp2_with fail
  refine (szDirtyEntryS_calls _ _ _ _ _ ha3 hl3 (Nat.le_trans s4.1 s4.2.1)).mono ?_
  rintro e w4 ⟨⟨r4, rfl, hr4⟩, hO4⟩
  have HE4 := Lib.hid (Only.ext HE3.out hO4)
  have HX4 := Lib.hid (Only.ext HX3.out hO4)
  obtain ⟨hc4, hf4⟩ := bcell HX4.out
  clear hc3 hf3
  clear hO4
  rcases hr4 with rfl | ⟨ha4, hb4⟩
  · go_wp2
    go_ret
    exact ⟨⟨-1, rfl, .inl rfl⟩, HE4.out⟩
  have hl4 : r4 ≤ 4611686018427387904 := by omega
  have HB4 := Lib.hid hb4
  clear hb4
  go_wp2_with fail
  refine (szByteS_calls _ _ _ _ _ ha4 hl4 (Nat.le_trans s5.1 s5.2.1)).mono ?_
  rintro e w5 ⟨⟨r5, rfl, hr5⟩, hO5⟩
  have HE5 := Lib.hid (Only.ext HE4.out hO5)
  have HX5 := Lib.hid (Only.ext HX4.out hO5)
  obtain ⟨hc5, hf5⟩ := bcell HX5.out
  clear hc4 hf4
  clear hO5
  rcases hr5 with rfl | ⟨ha5, hb5⟩
  · go_wp2
    go_ret
    exact ⟨⟨-1, rfl, .inl rfl⟩, HE5.out⟩
  have hl5 : r5 ≤ 4611686018427387904 := by omega
  have HB5 := Lib.hid hb5
  clear hb5
  go_wp2
  go_ret
  refine ⟨⟨r5, rfl, .inr ⟨ha5, ?_⟩⟩, HE5.out⟩
  have q1 := HB1.out
  have q2 := HB2.out
  have q3 := HB3.out
  have q4 := HB4.out
  have q5 := HB5.out
  unfold wtLogRecord
  omega

theorem toLogRecord_calls (v : Value) (x : DLogRecord) (F : List Nat) (w : World) (h : Rep.LogRecord.V w v x F) (hs : wtLogRecord x ≤ 1048576) :
    Calls Tryd.prog 28 #[v] w (NewPost Rep.LogRecord x w) := by
  obtain ⟨_, ⟨A1, c1, F1, A2, c2, F2, A3, c3, F3, A4, c4, F4, A5, c5, F5, rfl, rfl, hw, s1, s2, s3, s4, s5⟩, rfl⟩ := h
  have hu_laws_LogRecord := Tryd.underlying43
  have hu_laws_PageRecord := Tryd.underlying28
  have hu_impl_LogRecord := Tryd.underlying49
  have hu_impl_PageRecord := Tryd.underlying33
  simp only [wtLogRecord] at hs
  show Calls _ _ #[.agg #[_, _, _, _, _, _, _, _, _, _, _, _, _, _]] _ _
  go_enter Tryd.func28, Tryd.ntmps28
  go_wp2_with fail
  refine (toPageRecord_calls _ _ _ _ ⟨_, ⟨A1, c1, _, rfl, rfl, (by first | trivial | (have := hw; simp only [wfLogRecord, wfPageRecord] at this ⊢; simp only [this, and_self])), (Rep.sl_ext s1 (((alloc_ext _ _).alloc _).alloc _))⟩, rfl⟩ (by omega)).mono ?_
  rintro e w1 ⟨v1, _, rfl, ⟨_, ⟨B1, d1, G1, rfl, rfl, hw1, q1⟩, hv1⟩, hN1⟩
  replace hv1 : v1 = .agg #[_, _] := hv1
  subst hv1
  have HE1 := Lib.hid (Only.ext (F := []) (w := w) (((alloc_ext w _).alloc _).alloc _) hN1.ext)
  have HI1 : NewIn (w.heap.size + 3) w1 _ := NewIn.one hN1 (fun b hb => Rep.PageRecord.lt ⟨B1, d1, _, rfl, rfl, hw1, q1⟩ b hb) (by simp)
  obtain ⟨hc1, hf1⟩ := bcell hN1.ext
  have hz1 : w.heap.size + 3 ≤ w1.heap.size := by have := hN1.ext.size; simp at this; omega
  clear hN1
  go_wp2_with fail
  refine (toPageRecord_calls _ _ _ _ ⟨_, ⟨A2, c2, _, rfl, rfl, (by first | trivial | (have := hw; simp only [wfLogRecord, wfPageRecord] at this ⊢; simp only [this, and_self])), (Rep.sl_ext s2 ((by repeat (first | ((with_reducible apply Only.set); · exact fun h => absurd h (by dsimp only; omega)) | (with_reducible apply Only.alloc) | with_reducible exact HE1.out | with_reducible exact Only.refl _ _))))⟩, rfl⟩ (by omega)).mono ?_
  rintro e w2 ⟨v2, _, rfl, ⟨_, ⟨B2, d2, G2, rfl, rfl, hw2, q2⟩, hv2⟩, hN2⟩
  replace hv2 : v2 = .agg #[_, _] := hv2
  subst hv2
  have HE2 := Lib.hid (Only.ext (F := []) (w := w) (by repeat (first | ((with_reducible apply Only.set); · exact fun h => absurd h (by dsimp only; omega)) | (with_reducible apply Only.alloc) | with_reducible exact HE1.out | with_reducible exact Only.refl _ _)) hN2.ext)
  have hS2 : Only [w.heap.size + 1, w.heap.size + 2] w1 w2 := Only.ext (by repeat (first | ((with_reducible apply Only.set); · simp) | with_reducible exact Only.refl _ _)) hN2.ext
  have HI2 := (HI1.step (G := [w.heap.size + 1, w.heap.size + 2]) (by repeat (first | ((with_reducible apply Only.set); · simp) | with_reducible exact Only.refl _ _)) (by simp)).add hN2 (fun b hb => Rep.PageRecord.lt ⟨B2, d2, _, rfl, rfl, hw2, q2⟩ b hb) (by simp; omega)
  replace q1 := Rep.sl_far q1 hS2 (fun b hb => HI2.ge b (by simp [hb])) (by simp)
  obtain ⟨hc2, hf2⟩ := bcell hN2.ext
  have hz2 : w.heap.size + 3 ≤ w2.heap.size := by have := hS2.size; omega
  clear hN2 hS2
  have hcA2 := fun o => hc2 w.heap.size o (by first | (simp; omega) | simp | omega)
  have hfA2 := fun o => hf2 w.heap.size o (by first | (simp; omega) | simp | omega)
  have hcB2 := fun o => hc2 (w.heap.size + 1) o (by first | (simp; omega) | simp | omega)
  have hfB2 := fun o => hf2 (w.heap.size + 1) o (by first | (simp; omega) | simp | omega)
  have hcC2 := fun o => hc2 (w.heap.size + 1 + 1) o (by first | (simp; omega) | simp | omega)
  have hfC2 := fun o => hf2 (w.heap.size + 1 + 1) o (by first | (simp; omega) | simp | omega)
  clear hc2 hf2
  go_wp2_with fail
  refine (toTxnEntryS_calls _ _ _ _ _ (Rep.sl_ext s3 ((by repeat (first | ((with_reducible apply Only.set); · exact fun h => absurd h (by dsimp only; omega)) | (with_reducible apply Only.alloc) | with_reducible exact HE2.out | with_reducible exact Only.refl _ _)))) (by omega)).mono ?_
  rintro e w3 ⟨_, _, rfl, hV3, hN3⟩
  obtain ⟨B3, d3, rfl, q3⟩ := Rep.slice_V hV3
  clear hV3
  have HE3 := Lib.hid (Only.ext (F := []) (w := w) (by repeat (first | ((with_reducible apply Only.set); · exact fun h => absurd h (by dsimp only; omega)) | (with_reducible apply Only.alloc) | with_reducible exact HE2.out | with_reducible exact Only.refl _ _)) hN3.ext)
  have hS3 : Only [w.heap.size + 1, w.heap.size + 2] w2 w3 := Only.ext (by repeat (first | ((with_reducible apply Only.set); · simp) | with_reducible exact Only.refl _ _)) hN3.ext
  have HI3 := (HI2.step (G := [w.heap.size + 1, w.heap.size + 2]) (by repeat (first | ((with_reducible apply Only.set); · simp) | with_reducible exact Only.refl _ _)) (by simp)).add hN3 (fun b hb => Rep.sl_lt q3 b hb) (by simp; omega)
  replace q1 := Rep.sl_far q1 hS3 (fun b hb => HI3.ge b (by simp [hb])) (by simp)
  replace q2 := Rep.sl_far q2 hS3 (fun b hb => HI3.ge b (by simp [hb])) (by simp)
  obtain ⟨hc3, hf3⟩ := bcell hN3.ext
  have hz3 : w.heap.size + 3 ≤ w3.heap.size := by have := hS3.size; omega
  clear hN3 hS3
  have hcA3 := fun o => hc3 w.heap.size o (by first | (simp; omega) | simp | omega)
  have hfA3 := fun o => hf3 w.heap.size o (by first | (simp; omega) | simp | omega)
  have hcB3 := fun o => hc3 (w.heap.size + 1) o (by first | (simp; omega) | simp | omega)
  have hfB3 := fun o => hf3 (w.heap.size + 1) o (by first | (simp; omega) | simp | omega)
  have hcC3 := fun o => hc3 (w.heap.size + 1 + 1) o (by first | (simp; omega) | simp | omega)
  have hfC3 := fun o => hf3 (w.heap.size + 1 + 1) o (by first | (simp; omega) | simp | omega)
  clear hc3 hf3
  go_wp2_with fail
  refine (toDirtyEntryS_calls _ _ _ _ _ (Rep.sl_ext s4 ((by repeat (first | ((with_reducible apply Only.set); · exact fun h => absurd h (by dsimp only; omega)) | (with_reducible apply Only.alloc) | with_reducible exact HE3.out | with_reducible exact Only.refl _ _)))) (by omega)).mono ?_
  rintro e w4 ⟨_, _, rfl, hV4, hN4⟩
  obtain ⟨B4, d4, rfl, q4⟩ := Rep.slice_V hV4
  clear hV4
  have HE4 := Lib.hid (Only.ext (F := []) (w := w) (by repeat (first | ((with_reducible apply Only.set); · exact fun h => absurd h (by dsimp only; omega)) | (with_reducible apply Only.alloc) | with_reducible exact HE3.out | with_reducible exact Only.refl _ _)) hN4.ext)
  have hS4 : Only [w.heap.size + 1, w.heap.size + 2] w3 w4 := Only.ext (by repeat (first | ((with_reducible apply Only.set); · simp) | with_reducible exact Only.refl _ _)) hN4.ext
  have HI4 := (HI3.step (G := [w.heap.size + 1, w.heap.size + 2]) (by repeat (first | ((with_reducible apply Only.set); · simp) | with_reducible exact Only.refl _ _)) (by simp)).add hN4 (fun b hb => Rep.sl_lt q4 b hb) (by simp; omega)
  replace q1 := Rep.sl_far q1 hS4 (fun b hb => HI4.ge b (by simp [hb])) (by simp)
  replace q2 := Rep.sl_far q2 hS4 (fun b hb => HI4.ge b (by simp [hb])) (by simp)
  replace q3 := Rep.sl_far q3 hS4 (fun b hb => HI4.ge b (by simp [hb])) (by simp)
  obtain ⟨hc4, hf4⟩ := bcell hN4.ext
  have hz4 : w.heap.size + 3 ≤ w4.heap.size := by have := hS4.size; omega
  clear hN4 hS4
  have hcA4 := fun o => hc4 w.heap.size o (by first | (simp; omega) | simp | omega)
  have hfA4 := fun o => hf4 w.heap.size o (by first | (simp; omega) | simp | omega)
  have hcB4 := fun o => hc4 (w.heap.size + 1) o (by first | (simp; omega) | simp | omega)
  have hfB4 := fun o => hf4 (w.heap.size + 1) o (by first | (simp; omega) | simp | omega)
  have hcC4 := fun o => hc4 (w.heap.size + 1 + 1) o (by first | (simp; omega) | simp | omega)
  have hfC4 := fun o => hf4 (w.heap.size + 1 + 1) o (by first | (simp; omega) | simp | omega)
  clear hc4 hf4
  go_wp2_with fail
  refine (toByteS_calls _ _ _ _ _ (Rep.sl_ext s5 ((by repeat (first | ((with_reducible apply Only.set); · exact fun h => absurd h (by dsimp only; omega)) | (with_reducible apply Only.alloc) | with_reducible exact HE4.out | with_reducible exact Only.refl _ _)))) (by omega)).mono ?_
  rintro e w5 ⟨_, _, rfl, hV5, hN5⟩
  obtain ⟨B5, d5, rfl, q5⟩ := Rep.slice_V hV5
  clear hV5
  have HE5 := Lib.hid (Only.ext (F := []) (w := w) (by repeat (first | ((with_reducible apply Only.set); · exact fun h => absurd h (by dsimp only; omega)) | (with_reducible apply Only.alloc) | with_reducible exact HE4.out | with_reducible exact Only.refl _ _)) hN5.ext)
  have hS5 : Only [w.heap.size + 1, w.heap.size + 2] w4 w5 := Only.ext (by repeat (first | ((with_reducible apply Only.set); · simp) | with_reducible exact Only.refl _ _)) hN5.ext
  have HI5 := (HI4.step (G := [w.heap.size + 1, w.heap.size + 2]) (by repeat (first | ((with_reducible apply Only.set); · simp) | with_reducible exact Only.refl _ _)) (by simp)).add hN5 (fun b hb => Rep.sl_lt q5 b hb) (by simp; omega)
  replace q1 := Rep.sl_far q1 hS5 (fun b hb => HI5.ge b (by simp [hb])) (by simp)
  replace q2 := Rep.sl_far q2 hS5 (fun b hb => HI5.ge b (by simp [hb])) (by simp)
  replace q3 := Rep.sl_far q3 hS5 (fun b hb => HI5.ge b (by simp [hb])) (by simp)
  replace q4 := Rep.sl_far q4 hS5 (fun b hb => HI5.ge b (by simp [hb])) (by simp)
  obtain ⟨hc5, hf5⟩ := bcell hN5.ext
  have hz5 : w.heap.size + 3 ≤ w5.heap.size := by have := hS5.size; omega
  clear hN5 hS5
  have hcA5 := fun o => hc5 w.heap.size o (by first | (simp; omega) | simp | omega)
  have hfA5 := fun o => hf5 w.heap.size o (by first | (simp; omega) | simp | omega)
  have hcB5 := fun o => hc5 (w.heap.size + 1) o (by first | (simp; omega) | simp | omega)
  have hfB5 := fun o => hf5 (w.heap.size + 1) o (by first | (simp; omega) | simp | omega)
  have hcC5 := fun o => hc5 (w.heap.size + 1 + 1) o (by first | (simp; omega) | simp | omega)
  have hfC5 := fun o => hf5 (w.heap.size + 1 + 1) o (by first | (simp; omega) | simp | omega)
  clear hc5 hf5
  go_wp2
  refine bodyPost_ret (v := .agg #[.int .i64 x.Kind, .int .i64 x.Txn, .int .i64 x.Prev, .int .i64 x.Page, .int .i64 x.Slot, .bool x.Before.Used, .slice B1 x.Before.Data.length d1, .bool x.After.Used, .slice B2 x.After.Data.length d2, .int .i64 x.UndoNext, .int .i64 x.NextTxn, .slice B3 x.Txns.length d3, .slice B4 x.Dirty.length d4, .slice B5 x.Image.length d5]) (by simp [results, Tryd.results28, go_sem, hc1, hcA2, hcB2, hcC2, hcA3, hcB3, hcC3, hcA4, hcB4, hcC4, hcA5, hcB5, hcC5]) rfl ?_
  exact ⟨_, _, rfl, ⟨_, ⟨B1, d1, _, B2, d2, _, B3, d3, _, B4, d4, _, B5, d5, _, rfl, rfl, hw, Rep.sl_far q1 (n := w.heap.size + 3) (G := [w.heap.size + 1, w.heap.size + 2]) (by repeat (first | ((with_reducible apply Only.set); · simp) | with_reducible exact Only.refl _ _)) (fun b hb => HI5.ge b (by simp [hb])) (by simp), Rep.sl_far q2 (n := w.heap.size + 3) (G := [w.heap.size + 1, w.heap.size + 2]) (by repeat (first | ((with_reducible apply Only.set); · simp) | with_reducible exact Only.refl _ _)) (fun b hb => HI5.ge b (by simp [hb])) (by simp), Rep.sl_far q3 (n := w.heap.size + 3) (G := [w.heap.size + 1, w.heap.size + 2]) (by repeat (first | ((with_reducible apply Only.set); · simp) | with_reducible exact Only.refl _ _)) (fun b hb => HI5.ge b (by simp [hb])) (by simp), Rep.sl_far q4 (n := w.heap.size + 3) (G := [w.heap.size + 1, w.heap.size + 2]) (by repeat (first | ((with_reducible apply Only.set); · simp) | with_reducible exact Only.refl _ _)) (fun b hb => HI5.ge b (by simp [hb])) (by simp), Rep.sl_far q5 (n := w.heap.size + 3) (G := [w.heap.size + 1, w.heap.size + 2]) (by repeat (first | ((with_reducible apply Only.set); · simp) | with_reducible exact Only.refl _ _)) (fun b hb => HI5.ge b (by simp [hb])) (by simp)⟩, rfl⟩, NewIn.mk_ (NewIn.more (HI5.step (G := [w.heap.size + 1, w.heap.size + 2]) (by repeat (first | ((with_reducible apply Only.set); · simp) | with_reducible exact Only.refl _ _)) (by simp)) (by omega)) (by repeat (first | ((with_reducible apply Only.set); · exact fun h => absurd h (by dsimp only; omega)) | (with_reducible apply Only.alloc) | with_reducible exact HE5.out | with_reducible exact Only.refl _ _))⟩

theorem eqLogRecord_calls (v : Value) (x : DLogRecord) (F : List Nat) (u : Value) (y : DLogRecord) (G : List Nat) (w : World) (h : Rep.LogRecord.V w v x F) (k : Rep.LogRecord.V w u y G) :
    Calls Tryd.prog 30 #[v, u] w fun e w' => e = .returned (.bool (decide (x = y))) ∧ Ext w w' := by
  obtain ⟨_, ⟨A1, c1, F1, A2, c2, F2, A3, c3, F3, A4, c4, F4, A5, c5, F5, rfl, rfl, hw, s1, s2, s3, s4, s5⟩, rfl⟩ := h
  obtain ⟨_, ⟨B1, d1, G1, B2, d2, G2, B3, d3, G3, B4, d4, G4, B5, d5, G5, rfl, rfl, hv, t1, t2, t3, t4, t5⟩, rfl⟩ := k
  have hu_impl_LogRecord := Tryd.underlying49
  have hu_impl_PageRecord := Tryd.underlying33
  show Calls _ _ #[.agg #[_, _, _, _, _, _, _, _, _, _, _, _, _, _], .agg #[_, _, _, _, _, _, _, _, _, _, _, _, _, _]] _ _
  go_enter Tryd.func30, Tryd.ntmps30
  go_wp2_with fail
  all_goals try (go_ret; exact ⟨ret_bool (by symm; rw [decide_eq_false_iff_not]; rintro rfl; exact absurd ‹(_ != _) = true› (by simp)), ((alloc_ext _ _).alloc _)⟩)
  have E_Kind := Lib.hid (WalkArith.int_eq' (by assumption : (x.Kind != y.Kind) = false))
  have E_Txn := Lib.hid (WalkArith.int_eq' (by assumption : (x.Txn != y.Txn) = false))
  have E_Prev := Lib.hid (WalkArith.int_eq' (by assumption : (x.Prev != y.Prev) = false))
  have E_Page := Lib.hid (WalkArith.int_eq' (by assumption : (x.Page != y.Page) = false))
  have E_Slot := Lib.hid (WalkArith.int_eq' (by assumption : (x.Slot != y.Slot) = false))
  refine (eqPageRecord_calls _ _ _ _ _ _ _ ⟨_, ⟨A1, c1, _, rfl, rfl, (by first | trivial | (have := hw; simp only [wfLogRecord, wfPageRecord] at this ⊢; simp only [this, and_self])), (Rep.sl_ext s1 ((alloc_ext _ _).alloc _))⟩, rfl⟩ ⟨_, ⟨B1, d1, _, rfl, rfl, (by first | trivial | (have := hv; simp only [wfLogRecord, wfPageRecord] at this ⊢; simp only [this, and_self])), (Rep.sl_ext t1 ((alloc_ext _ _).alloc _))⟩, rfl⟩).mono ?_
  rintro e w1 ⟨rfl, hO1⟩
  have HE1 := Lib.hid (Only.ext ((alloc_ext w _).alloc _) hO1)
  have HX1 := Lib.hid (hO1)
  obtain ⟨hc1, hf1⟩ := bcell HX1.out
  clear hO1
  by_cases q1 : x.Before = y.Before
  rotate_left
  · have b1 : decide (x.Before = y.Before) = false := by simp [q1]
    have Q1 := Lib.hid q1
    clear q1
    go_wp2_with fail
    go_ret
    exact ⟨ret_bool (by symm; rw [decide_eq_false_iff_not]; rintro rfl; exact Q1.out rfl), HE1.out⟩
  have b1 : decide (x.Before = y.Before) = true := by simp [q1]
  have E_Before := Lib.hid q1
  clear q1
  go_wp2_with fail
  refine (eqPageRecord_calls _ _ _ _ _ _ _ ⟨_, ⟨A2, c2, _, rfl, rfl, (by first | trivial | (have := hw; simp only [wfLogRecord, wfPageRecord] at this ⊢; simp only [this, and_self])), (Rep.sl_ext s2 HE1.out)⟩, rfl⟩ ⟨_, ⟨B2, d2, _, rfl, rfl, (by first | trivial | (have := hv; simp only [wfLogRecord, wfPageRecord] at this ⊢; simp only [this, and_self])), (Rep.sl_ext t2 HE1.out)⟩, rfl⟩).mono ?_
  rintro e w2 ⟨rfl, hO2⟩
  have HE2 := Lib.hid (Only.ext HE1.out hO2)
  have HX2 := Lib.hid (Only.ext HX1.out hO2)
  obtain ⟨hc2, hf2⟩ := bcell HX2.out
  clear hc1 hf1
  clear hO2
  by_cases q2 : x.After = y.After
  rotate_left
  · have b2 : decide (x.After = y.After) = false := by simp [q2]
    have Q2 := Lib.hid q2
    clear q2
    go_wp2_with fail
    go_ret
    exact ⟨ret_bool (by symm; rw [decide_eq_false_iff_not]; rintro rfl; exact Q2.out rfl), HE2.out⟩
  have b2 : decide (x.After = y.After) = true := by simp [q2]
  have E_After := Lib.hid q2
  clear q2
  go_wp2_with fail
  all_goals try (go_ret; exact ⟨ret_bool (by symm; rw [decide_eq_false_iff_not]; rintro rfl; exact absurd ‹(_ != _) = true› (by simp)), HE2.out⟩)
  have E_UndoNext := Lib.hid (WalkArith.int_eq' (by assumption : (x.UndoNext != y.UndoNext) = false))
  have E_NextTxn := Lib.hid (WalkArith.int_eq' (by assumption : (x.NextTxn != y.NextTxn) = false))
  refine (eqTxnEntryS_calls _ _ _ _ _ _ _ _ _ (Rep.sl_ext s3 HE2.out) (Rep.sl_ext t3 HE2.out)).mono ?_
  rintro e w3 ⟨rfl, hO3⟩
  have HE3 := Lib.hid (Only.ext HE2.out hO3)
  have HX3 := Lib.hid (Only.ext HX2.out hO3)
  obtain ⟨hc3, hf3⟩ := bcell HX3.out
  clear hc2 hf2
  clear hO3
  by_cases q3 : x.Txns = y.Txns
  rotate_left
  · have b3 : decide (x.Txns = y.Txns) = false := by simp [q3]
    have Q3 := Lib.hid q3
    clear q3
    go_wp2_with fail
    go_ret
    exact ⟨ret_bool (by symm; rw [decide_eq_false_iff_not]; rintro rfl; exact Q3.out rfl), HE3.out⟩
  have b3 : decide (x.Txns = y.Txns) = true := by simp [q3]
  have E_Txns := Lib.hid q3
  clear q3
  go_wp2_with fail
  refine (eqDirtyEntryS_calls _ _ _ _ _ _ _ _ _ (Rep.sl_ext s4 HE3.out) (Rep.sl_ext t4 HE3.out)).mono ?_
  rintro e w4 ⟨rfl, hO4⟩
  have HE4 := Lib.hid (Only.ext HE3.out hO4)
  have HX4 := Lib.hid (Only.ext HX3.out hO4)
  obtain ⟨hc4, hf4⟩ := bcell HX4.out
  clear hc3 hf3
  clear hO4
  by_cases q4 : x.Dirty = y.Dirty
  rotate_left
  · have b4 : decide (x.Dirty = y.Dirty) = false := by simp [q4]
    have Q4 := Lib.hid q4
    clear q4
    go_wp2_with fail
    go_ret
    exact ⟨ret_bool (by symm; rw [decide_eq_false_iff_not]; rintro rfl; exact Q4.out rfl), HE4.out⟩
  have b4 : decide (x.Dirty = y.Dirty) = true := by simp [q4]
  have E_Dirty := Lib.hid q4
  clear q4
  go_wp2_with fail
  refine (eqByteS_calls _ _ _ _ _ _ _ _ _ (Rep.sl_ext s5 HE4.out) (Rep.sl_ext t5 HE4.out)).mono ?_
  rintro e w5 ⟨rfl, hO5⟩
  have HE5 := Lib.hid (Only.ext HE4.out hO5)
  have HX5 := Lib.hid (Only.ext HX4.out hO5)
  obtain ⟨hc5, hf5⟩ := bcell HX5.out
  clear hc4 hf4
  clear hO5
  by_cases q5 : x.Image = y.Image
  rotate_left
  · have b5 : decide (x.Image = y.Image) = false := by simp [q5]
    have Q5 := Lib.hid q5
    clear q5
    go_wp2_with fail
    go_ret
    exact ⟨ret_bool (by symm; rw [decide_eq_false_iff_not]; rintro rfl; exact Q5.out rfl), HE5.out⟩
  have b5 : decide (x.Image = y.Image) = true := by simp [q5]
  have E_Image := Lib.hid q5
  clear q5
  go_wp2_with fail
  go_ret
  exact ⟨ret_bool (by symm; rw [decide_eq_true_iff]; cases x; cases y; simp only [DLogRecord.mk.injEq]; exact ⟨E_Kind.out, E_Txn.out, E_Prev.out, E_Page.out, E_Slot.out, E_Before.out, E_After.out, E_UndoNext.out, E_NextTxn.out, E_Txns.out, E_Dirty.out, E_Image.out⟩), HE5.out⟩

def ctTopLogRecord (x : DLogRecord) : Nat := ctTopPageRecord x.Before + ctTopPageRecord x.After + ctTxnEntryS x.Txns + ctDirtyEntryS x.Dirty + x.Image.length
theorem ctTopLogRecord_wt (x : DLogRecord) : ctTopLogRecord x ≤ 64 * wtLogRecord x := by
  have := ctTxnEntryS_wt (x.Txns)
  have := ctDirtyEntryS_wt (x.Dirty)
  simp only [ctTopLogRecord, ctTopPageRecord, ctTopPageRecord, wtLogRecord, wtPageRecord, wtPageRecord]
  omega
def mkTopLogRecord (k : Int) (x : DLogRecord) : DLogRecord := ⟨x.Kind, x.Txn, x.Prev, x.Page, x.Slot, mkTopPageRecord (k) x.Before, mkTopPageRecord (k + ctTopPageRecord x.Before) x.After, x.UndoNext, x.NextTxn, mkTxnEntryS (k + ctTopPageRecord x.Before + ctTopPageRecord x.After) x.Txns, mkDirtyEntryS (k + ctTopPageRecord x.Before + ctTopPageRecord x.After + ctTxnEntryS x.Txns) x.Dirty, mkB (k + ctTopPageRecord x.Before + ctTopPageRecord x.After + ctTxnEntryS x.Txns + ctDirtyEntryS x.Dirty) x.Image⟩

theorem markLogRecord_at (x : DLogRecord) (A1 : Option Addr) (c1 : Nat) (F1 : List Nat) (A2 : Option Addr) (c2 : Nat) (F2 : List Nat) (A3 : Option Addr) (c3 : Nat) (F3 : List Nat) (A4 : Option Addr) (c4 : Nat) (F4 : List Nat) (A5 : Option Addr) (c5 : Nat) (F5 : List Nat) (k : Int) (w : World) (s1 : (Rep.int .u8).sl w A1 c1 x.Before.Data F1) (s2 : (Rep.int .u8).sl w A2 c2 x.After.Data F2) (s3 : Rep.TxnEntry.sl w A3 c3 x.Txns F3) (s4 : Rep.DirtyEntry.sl w A4 c4 x.Dirty F4) (s5 : (Rep.int .u8).sl w A5 c5 x.Image F5) (hn : (F1 ++ F2 ++ F3 ++ F4 ++ F5).Nodup) (hu : Unfr w (F1 ++ F2 ++ F3 ++ F4 ++ F5)) (h0 : 0 ≤ k) (hk : k + ctTopLogRecord x ≤ 4611686018427387904) :
    Calls Tryd.prog 33 #[.agg #[.int .i64 x.Kind, .int .i64 x.Txn, .int .i64 x.Prev, .int .i64 x.Page, .int .i64 x.Slot, .bool x.Before.Used, .slice A1 x.Before.Data.length c1, .bool x.After.Used, .slice A2 x.After.Data.length c2, .int .i64 x.UndoNext, .int .i64 x.NextTxn, .slice A3 x.Txns.length c3, .slice A4 x.Dirty.length c4, .slice A5 x.Image.length c5], .int .i64 k] w fun e w' => e = .returned (.int .i64 (k + ctTopLogRecord x)) ∧ ((Rep.int .u8).sl w' A1 c1 (mkTopLogRecord k x).Before.Data F1 ∧ (Rep.int .u8).sl w' A2 c2 (mkTopLogRecord k x).After.Data F2 ∧ Rep.TxnEntry.sl w' A3 c3 (mkTopLogRecord k x).Txns F3 ∧ Rep.DirtyEntry.sl w' A4 c4 (mkTopLogRecord k x).Dirty F4 ∧ (Rep.int .u8).sl w' A5 c5 (mkTopLogRecord k x).Image F5) ∧ Only (F1 ++ F2 ++ F3 ++ F4 ++ F5) w w' ∧ Unfr w' (F1 ++ F2 ++ F3 ++ F4 ++ F5) := by
  have hlF : ∀ g ∈ F1 ++ F2 ++ F3 ++ F4 ++ F5, g < w.heap.size := by
    intro g hg
    simp only [List.mem_append] at hg
    rcases hg with ((((hg | hg) | hg) | hg) | hg)
    · exact Rep.sl_lt s1 g hg
    · exact Rep.sl_lt s2 g hg
    · exact Rep.sl_lt s3 g hg
    · exact Rep.sl_lt s4 g hg
    · exact Rep.sl_lt s5 g hg
  obtain ⟨N4, n5, D5⟩ := List.nodup_append.1 hn
  obtain ⟨N3, n4, D4⟩ := List.nodup_append.1 N4
  obtain ⟨N2, n3, D3⟩ := List.nodup_append.1 N3
  obtain ⟨n1, n2, D2⟩ := List.nodup_append.1 N2
  unfold ctTopLogRecord at hk
  simp only [mkTopLogRecord, mkTopPageRecord, mkTopPageRecord]
  have hu_impl_LogRecord := Tryd.underlying49
  have hu_impl_PageRecord := Tryd.underlying33
  go_enter Tryd.func33, Tryd.ntmps33
  go_wp2_with fail
  have HF0 := Lib.hid (Box.start hlF hu #[.int .i64 x.Kind, .int .i64 x.Txn, .int .i64 x.Prev, .int .i64 x.Page, .int .i64 x.Slot, .bool x.Before.Used, .slice A1 x.Before.Data.length c1, .bool x.After.Used, .slice A2 x.After.Data.length c2, .int .i64 x.UndoNext, .int .i64 x.NextTxn, .slice A3 x.Txns.length c3, .slice A4 x.Dirty.length c4, .slice A5 x.Image.length c5] 49)
  replace s1 := Rep.sl_ext s1 (alloc_ext w (.cells #[.int .i64 x.Kind, .int .i64 x.Txn, .int .i64 x.Prev, .int .i64 x.Page, .int .i64 x.Slot, .bool x.Before.Used, .slice A1 x.Before.Data.length c1, .bool x.After.Used, .slice A2 x.After.Data.length c2, .int .i64 x.UndoNext, .int .i64 x.NextTxn, .slice A3 x.Txns.length c3, .slice A4 x.Dirty.length c4, .slice A5 x.Image.length c5] 49))
  replace s2 := Rep.sl_ext s2 (alloc_ext w (.cells #[.int .i64 x.Kind, .int .i64 x.Txn, .int .i64 x.Prev, .int .i64 x.Page, .int .i64 x.Slot, .bool x.Before.Used, .slice A1 x.Before.Data.length c1, .bool x.After.Used, .slice A2 x.After.Data.length c2, .int .i64 x.UndoNext, .int .i64 x.NextTxn, .slice A3 x.Txns.length c3, .slice A4 x.Dirty.length c4, .slice A5 x.Image.length c5] 49))
  replace s3 := Rep.sl_ext s3 (alloc_ext w (.cells #[.int .i64 x.Kind, .int .i64 x.Txn, .int .i64 x.Prev, .int .i64 x.Page, .int .i64 x.Slot, .bool x.Before.Used, .slice A1 x.Before.Data.length c1, .bool x.After.Used, .slice A2 x.After.Data.length c2, .int .i64 x.UndoNext, .int .i64 x.NextTxn, .slice A3 x.Txns.length c3, .slice A4 x.Dirty.length c4, .slice A5 x.Image.length c5] 49))
  replace s4 := Rep.sl_ext s4 (alloc_ext w (.cells #[.int .i64 x.Kind, .int .i64 x.Txn, .int .i64 x.Prev, .int .i64 x.Page, .int .i64 x.Slot, .bool x.Before.Used, .slice A1 x.Before.Data.length c1, .bool x.After.Used, .slice A2 x.After.Data.length c2, .int .i64 x.UndoNext, .int .i64 x.NextTxn, .slice A3 x.Txns.length c3, .slice A4 x.Dirty.length c4, .slice A5 x.Image.length c5] 49))
  replace s5 := Rep.sl_ext s5 (alloc_ext w (.cells #[.int .i64 x.Kind, .int .i64 x.Txn, .int .i64 x.Prev, .int .i64 x.Page, .int .i64 x.Slot, .bool x.Before.Used, .slice A1 x.Before.Data.length c1, .bool x.After.Used, .slice A2 x.After.Data.length c2, .int .i64 x.UndoNext, .int .i64 x.NextTxn, .slice A3 x.Txns.length c3, .slice A4 x.Dirty.length c4, .slice A5 x.Image.length c5] 49))
  refine (markPageRecord_at x.Before _ _ _ _ _ s1 n1 (fun b hb o => HF0.out.unfr b (by simp [hb]) o) (by omega) (by omega)).mono ?_
  rintro e w1 ⟨rfl, s1', hO, hu1⟩
  have HF1 := Lib.hid (HF0.out.call hO (fun b hb => (by simp [hb])) hu1)
  replace s2 := Rep.sl_only s2 hO (fun b hb hb' => D2 b (by simp [hb']) b hb rfl)
  replace s3 := Rep.sl_only s3 hO (fun b hb hb' => D3 b (by simp [hb']) b hb rfl)
  replace s4 := Rep.sl_only s4 hO (fun b hb hb' => D4 b (by simp [hb']) b hb rfl)
  replace s5 := Rep.sl_only s5 hO (fun b hb hb' => D5 b (by simp [hb']) b hb rfl)
  clear s1
  have s1 := s1'
  clear s1'
  have hb1 := fun o => HF1.out.cell o
  clear hO hu1
  go_wp2_with fail
  refine (markPageRecord_at x.After _ _ _ _ _ s2 n2 (fun b hb o => HF1.out.unfr b (by simp [hb]) o) (by omega) (by omega)).mono ?_
  rintro e w2 ⟨rfl, s2', hO, hu2⟩
  have HF2 := Lib.hid (HF1.out.call hO (fun b hb => (by simp [hb])) hu2)
  replace s1 := Rep.sl_only s1 hO (fun b hb hb' => D2 b (by simp [hb]) b hb' rfl)
  replace s3 := Rep.sl_only s3 hO (fun b hb hb' => D3 b (by simp [hb']) b hb rfl)
  replace s4 := Rep.sl_only s4 hO (fun b hb hb' => D4 b (by simp [hb']) b hb rfl)
  replace s5 := Rep.sl_only s5 hO (fun b hb hb' => D5 b (by simp [hb']) b hb rfl)
  clear s2
  have s2 := s2'
  clear s2'
  have hb2 := fun o => HF2.out.cell o
  clear hO hu2
  go_wp2_with fail
  refine (markTxnEntryS_calls _ _ _ _ _ _ s3 n3 (fun b hb o => HF2.out.unfr b (by simp [hb]) o) (by omega) (by omega)).mono ?_
  rintro e w3 ⟨rfl, s3', hO, hu3⟩
  have HF3 := Lib.hid (HF2.out.call hO (fun b hb => (by simp [hb])) hu3)
  replace s1 := Rep.sl_only s1 hO (fun b hb hb' => D3 b (by simp [hb]) b hb' rfl)
  replace s2 := Rep.sl_only s2 hO (fun b hb hb' => D3 b (by simp [hb]) b hb' rfl)
  replace s4 := Rep.sl_only s4 hO (fun b hb hb' => D4 b (by simp [hb']) b hb rfl)
  replace s5 := Rep.sl_only s5 hO (fun b hb hb' => D5 b (by simp [hb']) b hb rfl)
  clear s3
  have s3 := s3'
  clear s3'
  have hb3 := fun o => HF3.out.cell o
  clear hO hu3
  go_wp2_with fail
  refine (markDirtyEntryS_calls _ _ _ _ _ _ s4 n4 (fun b hb o => HF3.out.unfr b (by simp [hb]) o) (by omega) (by omega)).mono ?_
  rintro e w4 ⟨rfl, s4', hO, hu4⟩
  have HF4 := Lib.hid (HF3.out.call hO (fun b hb => (by simp [hb])) hu4)
  replace s1 := Rep.sl_only s1 hO (fun b hb hb' => D4 b (by simp [hb]) b hb' rfl)
  replace s2 := Rep.sl_only s2 hO (fun b hb hb' => D4 b (by simp [hb]) b hb' rfl)
  replace s3 := Rep.sl_only s3 hO (fun b hb hb' => D4 b (by simp [hb]) b hb' rfl)
  replace s5 := Rep.sl_only s5 hO (fun b hb hb' => D5 b (by simp [hb']) b hb rfl)
  clear s4
  have s4 := s4'
  clear s4'
  have hb4 := fun o => HF4.out.cell o
  clear hO hu4
  go_wp2_with fail
  refine (markByteS_calls _ _ _ _ _ _ s5 n5 (fun b hb o => HF4.out.unfr b (by simp [hb]) o) (by omega) (by omega)).mono ?_
  rintro e w5 ⟨rfl, s5', hO, hu5⟩
  have HF5 := Lib.hid (HF4.out.call hO (fun b hb => (by simp [hb])) hu5)
  replace s1 := Rep.sl_only s1 hO (fun b hb hb' => D5 b (by simp [hb]) b hb' rfl)
  replace s2 := Rep.sl_only s2 hO (fun b hb hb' => D5 b (by simp [hb]) b hb' rfl)
  replace s3 := Rep.sl_only s3 hO (fun b hb hb' => D5 b (by simp [hb]) b hb' rfl)
  replace s4 := Rep.sl_only s4 hO (fun b hb hb' => D5 b (by simp [hb]) b hb' rfl)
  clear s5
  have s5 := s5'
  clear s5'
  have hb5 := fun o => HF5.out.cell o
  clear hO hu5
  go_wp2
  go_ret
  exact ⟨ret_int (by unfold ctTopLogRecord; omega), ⟨s1, s2, s3, s4, s5⟩, HF5.out.only, HF5.out.unfr⟩

theorem markLogRecord_calls (v : Value) (x : DLogRecord) (F : List Nat) (k : Int) (w : World) (h : Rep.LogRecord.V w v x F) (hn : F.Nodup) (hu : Unfr w F) (h0 : 0 ≤ k) (hk : k + ctTopLogRecord x ≤ 4611686018427387904) :
    Calls Tryd.prog 33 #[v, .int .i64 k] w fun e w' => e = .returned (.int .i64 (k + ctTopLogRecord x)) ∧ Rep.LogRecord.V w' v (mkTopLogRecord k x) F ∧ Only F w w' ∧ Unfr w' F := by
  obtain ⟨_, ⟨A1, c1, F1, A2, c2, F2, A3, c3, F3, A4, c4, F4, A5, c5, F5, rfl, rfl, hw, s1, s2, s3, s4, s5⟩, rfl⟩ := h
  refine (markLogRecord_at x _ _ _ _ _ _ _ _ _ _ _ _ _ _ _ k w s1 s2 s3 s4 s5 hn hu h0 hk).mono ?_
  rintro e w1 ⟨rfl, ⟨s1', s2', s3', s4', s5'⟩, hO, hu1⟩
  exact ⟨rfl, ⟨_, ⟨A1, c1, _, A2, c2, _, A3, c3, _, A4, c4, _, A5, c5, _, (by simp [mkB_len, mkDirtyEntryS_len, mkTopLogRecord, mkTopPageRecord, mkTxnEntryS_len]), rfl, (by first | trivial | simpa [wfLogRecord, mkTopLogRecord, mkTopPageRecord] using hw), s1', s2', s3', s4', s5'⟩, rfl⟩, hO, hu1⟩

theorem heldLogRecord_calls (v : Value) (x : DLogRecord) (F : List Nat) (k : Int) (w : World) (h : Rep.LogRecord.V w v (mkTopLogRecord k x) F) (h0 : 0 ≤ k) (hk : k + ctTopLogRecord x ≤ 4611686018427387904) :
    Calls Tryd.prog 34 #[v, .int .i64 k] w fun e w' => e = .returned (.int .i64 (k + ctTopLogRecord x)) ∧ Ext w w' := by
  obtain ⟨_, ⟨A1, c1, F1, A2, c2, F2, A3, c3, F3, A4, c4, F4, A5, c5, F5, rfl, rfl, hw, s1, s2, s3, s4, s5⟩, rfl⟩ := h
  unfold ctTopLogRecord at hk
  have hu_impl_LogRecord := Tryd.underlying49
  have hu_impl_PageRecord := Tryd.underlying33
  show Calls _ _ #[.agg #[_, _, _, _, _, _, _, _, _, _, _, _, _, _], _] _ _
  simp only [mkB_len, mkDirtyEntryS_len, mkTopLogRecord, mkTopPageRecord, mkTxnEntryS_len] at s1 s2 s3 s4 s5
  simp only [mkB_len, mkDirtyEntryS_len, mkTopLogRecord, mkTopPageRecord, mkTxnEntryS_len]
  go_enter Tryd.func34, Tryd.ntmps34
  go_wp2_with fail
  refine (heldPageRecord_calls _ x.Before _ _ _ ⟨[.bool x.Before.Used, .slice A1 x.Before.Data.length c1], ⟨A1, c1, _, (by simp [mkB_len, mkTopPageRecord]), rfl, (by first | trivial | (have := hw; simp only [wfLogRecord, wfPageRecord, mkTopLogRecord, mkTopPageRecord] at this ⊢; simp only [this, and_self])), (Rep.sl_ext s1 (alloc_ext _ _))⟩, rfl⟩ (by omega) (by omega)).mono ?_
  rintro e w1 ⟨rfl, hO1⟩
  have HE1 := Lib.hid (Only.ext (alloc_ext w _) hO1)
  have HX1 := Lib.hid (hO1)
  obtain ⟨hc1, hf1⟩ := bcell HX1.out
  clear hO1
  go_wp2_with fail
  refine (heldPageRecord_calls _ x.After _ _ _ ⟨[.bool x.After.Used, .slice A2 x.After.Data.length c2], ⟨A2, c2, _, (by simp [mkB_len, mkTopPageRecord]), rfl, (by first | trivial | (have := hw; simp only [wfLogRecord, wfPageRecord, mkTopLogRecord, mkTopPageRecord] at this ⊢; simp only [this, and_self])), (Rep.sl_ext s2 HE1.out)⟩, rfl⟩ (by omega) (by omega)).mono ?_
  rintro e w2 ⟨rfl, hO2⟩
  have HE2 := Lib.hid (Only.ext HE1.out hO2)
  have HX2 := Lib.hid (Only.ext HX1.out hO2)
  obtain ⟨hc2, hf2⟩ := bcell HX2.out
  clear hc1 hf1
  clear hO2
  go_wp2_with fail
  refine (heldTxnEntryS_calls _ _ _ _ _ _ (Rep.sl_ext s3 HE2.out) (by omega) (by omega)).mono ?_
  rintro e w3 ⟨rfl, hO3⟩
  have HE3 := Lib.hid (Only.ext HE2.out hO3)
  have HX3 := Lib.hid (Only.ext HX2.out hO3)
  obtain ⟨hc3, hf3⟩ := bcell HX3.out
  clear hc2 hf2
  clear hO3
  go_wp2_with fail
  refine (heldDirtyEntryS_calls _ _ _ _ _ _ (Rep.sl_ext s4 HE3.out) (by omega) (by omega)).mono ?_
  rintro e w4 ⟨rfl, hO4⟩
  have HE4 := Lib.hid (Only.ext HE3.out hO4)
  have HX4 := Lib.hid (Only.ext HX3.out hO4)
  obtain ⟨hc4, hf4⟩ := bcell HX4.out
  clear hc3 hf3
  clear hO4
  go_wp2_with fail
  refine (heldByteS_calls _ _ _ _ _ _ (Rep.sl_ext s5 HE4.out) (by omega) (by omega)).mono ?_
  rintro e w5 ⟨rfl, hO5⟩
  have HE5 := Lib.hid (Only.ext HE4.out hO5)
  have HX5 := Lib.hid (Only.ext HX4.out hO5)
  obtain ⟨hc5, hf5⟩ := bcell HX5.out
  clear hc4 hf4
  clear hO5
  go_wp2
  go_ret
  exact ⟨ret_int (by unfold ctTopLogRecord; omega), HE5.out⟩

end Go.Proofs.YtghgjddiheebeaaDoor
