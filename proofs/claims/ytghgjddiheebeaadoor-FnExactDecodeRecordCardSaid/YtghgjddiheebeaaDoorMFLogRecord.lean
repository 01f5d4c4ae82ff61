/- LogRecord: the data, how they lie in cells, and the laws' own functions over them. Printed by gen_fam.py, a program of this session. -/
import Derived.Test.YtghgjddiheebeaaDoorMFPageRecord
import Derived.Test.YtghgjddiheebeaaDoorMFTxnEntry
import Derived.Test.YtghgjddiheebeaaDoorMFDirtyEntry
import Derived.StillTailTactics
namespace Go.Proofs.YtghgjddiheebeaaDoor
open Go.RowKit
set_option linter.unusedSimpArgs false
set_option linter.unusedVariables false
set_option maxRecDepth 100000
set_option maxHeartbeats 8000000

structure DLogRecord where
  Kind : Int
  Txn : Int
  Prev : Int
  Page : Int
  Slot : Int
  Before : DPageRecord
  After : DPageRecord
  UndoNext : Int
  NextTxn : Int
  Txns : List DTxnEntry
  Dirty : List DDirtyEntry
  Image : List Int
  deriving DecidableEq

def wfLogRecord (x : DLogRecord) : Prop := (Lit.int .i64 x.Kind).wf = true ∧ (Lit.int .i64 x.Txn).wf = true ∧ (Lit.int .i64 x.Prev).wf = true ∧ (Lit.int .i64 x.Page).wf = true ∧ (Lit.int .i64 x.Slot).wf = true ∧ (Lit.int .i64 x.UndoNext).wf = true ∧ (Lit.int .i64 x.NextTxn).wf = true

def Rep.LogRecord : Rep DLogRecord where
  sz := 14
  R := fun w x cs F => ∃ (A1 : Option Addr) (c1 : Nat) (F1 : List Nat), ∃ (A2 : Option Addr) (c2 : Nat) (F2 : List Nat), ∃ (A3 : Option Addr) (c3 : Nat) (F3 : List Nat), ∃ (A4 : Option Addr) (c4 : Nat) (F4 : List Nat), ∃ (A5 : Option Addr) (c5 : Nat) (F5 : List Nat), cs = [.int .i64 x.Kind, .int .i64 x.Txn, .int .i64 x.Prev, .int .i64 x.Page, .int .i64 x.Slot, .bool x.Before.Used, .slice A1 x.Before.Data.length c1, .bool x.After.Used, .slice A2 x.After.Data.length c2, .int .i64 x.UndoNext, .int .i64 x.NextTxn, .slice A3 x.Txns.length c3, .slice A4 x.Dirty.length c4, .slice A5 x.Image.length c5] ∧ F = F1 ++ F2 ++ F3 ++ F4 ++ F5 ∧ wfLogRecord x ∧ (Rep.int .u8).sl w A1 c1 x.Before.Data F1 ∧ (Rep.int .u8).sl w A2 c2 x.After.Data F2 ∧ Rep.TxnEntry.sl w A3 c3 x.Txns F3 ∧ Rep.DirtyEntry.sl w A4 c4 x.Dirty F4 ∧ (Rep.int .u8).sl w A5 c5 x.Image F5
  val := fun | [a0, a1, a2, a3, a4, a5, a6, a7, a8, a9, a10, a11, a12, a13] => .agg #[a0, a1, a2, a3, a4, a5, a6, a7, a8, a9, a10, a11, a12, a13] | _ => undef
  len := by rintro w x cs F ⟨A1, c1, F1, A2, c2, F2, A3, c3, F3, A4, c4, F4, A5, c5, F5, rfl, -⟩; rfl
  lt := by
    rintro w x cs F ⟨A1, c1, F1, A2, c2, F2, A3, c3, F3, A4, c4, F4, A5, c5, F5, -, rfl, -, s1, s2, s3, s4, s5⟩ g hg
    simp only [List.mem_append] at hg
    rcases hg with ((((hg | hg) | hg) | hg) | hg)
    · exact Rep.sl_lt s1 g hg
    · exact Rep.sl_lt s2 g hg
    · exact Rep.sl_lt s3 g hg
    · exact Rep.sl_lt s4 g hg
    · exact Rep.sl_lt s5 g hg
  keep := by
    rintro w w' x cs F ⟨A1, c1, F1, A2, c2, F2, A3, c3, F3, A4, c4, F4, A5, c5, F5, rfl, rfl, hw, s1, s2, s3, s4, s5⟩ hk
    exact ⟨A1, c1, _, A2, c2, _, A3, c3, _, A4, c4, _, A5, c5, _, rfl, rfl, hw, Rep.sl_keep s1 (fun b hb => hk b (by simp [hb])), Rep.sl_keep s2 (fun b hb => hk b (by simp [hb])), Rep.sl_keep s3 (fun b hb => hk b (by simp [hb])), Rep.sl_keep s4 (fun b hb => hk b (by simp [hb])), Rep.sl_keep s5 (fun b hb => hk b (by simp [hb]))⟩

def wtLogRecord (x : DLogRecord) : Nat := wtPageRecord x.Before + wtPageRecord x.After + x.Txns.length + x.Dirty.length + x.Image.length
theorem eqLogRecord_calls (v : Value) (x : DLogRecord) (F : List Nat) (u : Value) (y : DLogRecord) (G : List Nat) (w : World) (h : Rep.LogRecord.V w v x F) (k : Rep.LogRecord.V w u y G) :
    Calls Tryd.prog 30 #[v, u] w fun e w' => e = .returned (.bool (decide (x = y))) ∧ Ext w w' := by
  obtain ⟨_, ⟨A1, c1, F1, A2, c2, F2, A3, c3, F3, A4, c4, F4, A5, c5, F5, rfl, rfl, hw, s1, s2, s3, s4, s5⟩, rfl⟩ := h
  obtain ⟨_, ⟨B1, d1, G1, B2, d2, G2, B3, d3, G3, B4, d4, G4, B5, d5, G5, rfl, rfl, hv, t1, t2, t3, t4, t5⟩, rfl⟩ := k
  have hu_impl_LogRecord := Tryd.underlying49
  have hu_impl_PageRecord := Tryd.underlying33
  show Calls _ _ #[.agg #[_, _, _, _, _, _, _, _, _, _, _, _, _, _], .agg #[_, _, _, _, _, _, _, _, _, _, _, _, _, _]] _ _
  go_enter Tryd.func30, Tryd.ntmps30
  go_wp2_with fail
  all_goals try (go_ret; exact ⟨ret_bool (by symm; rw [decide_eq_false_iff_not]; rintro rfl; exact absurd ‹(_ != _) = true› (by simp)), ((alloc_ext _ _).alloc _)⟩)
  have E_Kind := Lib.hid (WalkArith.int_eq' (by assumption : (x.Kind != y.Kind) = false))
  have E_Txn := Lib.hid (WalkArith.int_eq' (by assumption : (x.Txn != y.Txn) = false))
  have E_Prev := Lib.hid (WalkArith.int_eq' (by assumption : (x.Prev != y.Prev) = false))
  have E_Page := Lib.hid (WalkArith.int_eq' (by assumption : (x.Page != y.Page) = false))
  have E_Slot := Lib.hid (WalkArith.int_eq' (by assumption : (x.Slot != y.Slot) = false))
  refine (eqPageRecord_calls _ _ _ _ _ _ _ ⟨_, ⟨A1, c1, _, rfl, rfl, (by first | trivial | (have := hw; simp only [wfLogRecord, wfPageRecord] at this ⊢; simp only [this, and_self])), (Rep.sl_ext s1 ((alloc_ext _ _).alloc _))⟩, rfl⟩ ⟨_, ⟨B1, d1, _, rfl, rfl, (by first | trivial | (have := hv; simp only [wfLogRecord, wfPageRecord] at this ⊢; simp only [this, and_self])), (Rep.sl_ext t1 ((alloc_ext _ _).alloc _))⟩, rfl⟩).mono ?_
  rintro e w1 ⟨rfl, hO1⟩
  have HE1 := Lib.hid (Only.ext ((alloc_ext w _).alloc _) hO1)
  have HX1 := Lib.hid (hO1)
  obtain ⟨hc1, hf1⟩ := bcell HX1.out
  clear hO1
  by_cases q1 : x.Before = y.Before
  rotate_left
  · have b1 : decide (x.Before = y.Before) = false := by simp [q1]
    have Q1 := Lib.hid q1
    clear q1
    go_wp2_with fail
    go_ret
    exact ⟨ret_bool (by symm; rw [decide_eq_false_iff_not]; rintro rfl; exact Q1.out rfl), HE1.out⟩
  have b1 : decide (x.Before = y.Before) = true := by simp [q1]
  have E_Before := Lib.hid q1
  clear q1
  go_wp2_with fail
  refine (eqPageRecord_calls _ _ _ _ _ _ _ ⟨_, ⟨A2, c2, _, rfl, rfl, (by first | trivial | (have := hw; simp only [wfLogRecord, wfPageRecord] at this ⊢; simp only [this, and_self])), (Rep.sl_ext s2 HE1.out)⟩, rfl⟩ ⟨_, ⟨B2, d2, _, rfl, rfl, (by first | trivial | (have := hv; simp only [wfLogRecord, wfPageRecord] at this ⊢; simp only [this, and_self])), (Rep.sl_ext t2 HE1.out)⟩, rfl⟩).mono ?_
  rintro e w2 ⟨rfl, hO2⟩
  have HE2 := Lib.hid (Only.ext HE1.out hO2)
  have HX2 := Lib.hid (Only.ext HX1.out hO2)
  obtain ⟨hc2, hf2⟩ := bcell HX2.out
  clear hc1 hf1
  clear hO2
  by_cases q2 : x.After = y.After
  rotate_left
  · have b2 : decide (x.After = y.After) = false := by simp [q2]
    have Q2 := Lib.hid q2
    clear q2
    go_wp2_with fail
    go_ret
    exact ⟨ret_bool (by symm; rw [decide_eq_false_iff_not]; rintro rfl; exact Q2.out rfl), HE2.out⟩
  have b2 : decide (x.After = y.After) = true := by simp [q2]
  have E_After := Lib.hid q2
  clear q2
  go_wp2_with fail
  all_goals try (go_ret; exact ⟨ret_bool (by symm; rw [decide_eq_false_iff_not]; rintro rfl; exact absurd ‹(_ != _) = true› (by simp)), HE2.out⟩)
  have E_UndoNext := Lib.hid (WalkArith.int_eq' (by assumption : (x.UndoNext != y.UndoNext) = false))
  have E_NextTxn := Lib.hid (WalkArith.int_eq' (by assumption : (x.NextTxn != y.NextTxn) = false))
  refine (eqTxnEntryS_calls _ _ _ _ _ _ _ _ _ (Rep.sl_ext s3 HE2.out) (Rep.sl_ext t3 HE2.out)).mono ?_
  rintro e w3 ⟨rfl, hO3⟩
  have HE3 := Lib.hid (Only.ext HE2.out hO3)
  have HX3 := Lib.hid (Only.ext HX2.out hO3)
  obtain ⟨hc3, hf3⟩ := bcell HX3.out
  clear hc2 hf2
  clear hO3
  by_cases q3 : x.Txns = y.Txns
  rotate_left
  · have b3 : decide (x.Txns = y.Txns) = false := by simp [q3]
    have Q3 := Lib.hid q3
    clear q3
    go_wp2_with fail
    go_ret
    exact ⟨ret_bool (by symm; rw [decide_eq_false_iff_not]; rintro rfl; exact Q3.out rfl), HE3.out⟩
  have b3 : decide (x.Txns = y.Txns) = true := by simp [q3]
  have E_Txns := Lib.hid q3
  clear q3
  go_wp2_with fail
  refine (eqDirtyEntryS_calls _ _ _ _ _ _ _ _ _ (Rep.sl_ext s4 HE3.out) (Rep.sl_ext t4 HE3.out)).mono ?_
  rintro e w4 ⟨rfl, hO4⟩
  have HE4 := Lib.hid (Only.ext HE3.out hO4)
  have HX4 := Lib.hid (Only.ext HX3.out hO4)
  obtain ⟨hc4, hf4⟩ := bcell HX4.out
  clear hc3 hf3
  clear hO4
  by_cases q4 : x.Dirty = y.Dirty
  rotate_left
  · have b4 : decide (x.Dirty = y.Dirty) = false := by simp [q4]
    have Q4 := Lib.hid q4
    clear q4
    go_wp2_with fail
    go_ret
    exact ⟨ret_bool (by symm; rw [decide_eq_false_iff_not]; rintro rfl; exact Q4.out rfl), HE4.out⟩
  have b4 : decide (x.Dirty = y.Dirty) = true := by simp [q4]
  have E_Dirty := Lib.hid q4
  clear q4
  go_wp2_with fail
  refine (eqByteS_calls _ _ _ _ _ _ _ _ _ (Rep.sl_ext s5 HE4.out) (Rep.sl_ext t5 HE4.out)).mono ?_
  rintro e w5 ⟨rfl, hO5⟩
  have HE5 := Lib.hid (Only.ext HE4.out hO5)
  have HX5 := Lib.hid (Only.ext HX4.out hO5)
  obtain ⟨hc5, hf5⟩ := bcell HX5.out
  clear hc4 hf4
  clear hO5
  by_cases q5 : x.Image = y.Image
  rotate_left
  · have b5 : decide (x.Image = y.Image) = false := by simp [q5]
    have Q5 := Lib.hid q5
    clear q5
    go_wp2_with fail
    go_ret
    exact ⟨ret_bool (by symm; rw [decide_eq_false_iff_not]; rintro rfl; exact Q5.out rfl), HE5.out⟩
  have b5 : decide (x.Image = y.Image) = true := by simp [q5]
  have E_Image := Lib.hid q5
  clear q5
  go_wp2_with fail
  go_ret
  exact ⟨ret_bool (by symm; rw [decide_eq_true_iff]; cases x; cases y; simp only [DLogRecord.mk.injEq]; exact ⟨E_Kind.out, E_Txn.out, E_Prev.out, E_Page.out, E_Slot.out, E_Before.out, E_After.out, E_UndoNext.out, E_NextTxn.out, E_Txns.out, E_Dirty.out, E_Image.out⟩), HE5.out⟩

def ctTopLogRecord (x : DLogRecord) : Nat := ctTopPageRecord x.Before + ctTopPageRecord x.After + ctTxnEntryS x.Txns + ctDirtyEntryS x.Dirty + x.Image.length
def mkTopLogRecord (k : Int) (x : DLogRecord) : DLogRecord := ⟨x.Kind, x.Txn, x.Prev, x.Page, x.Slot, mkTopPageRecord (k) x.Before, mkTopPageRecord (k + ctTopPageRecord x.Before) x.After, x.UndoNext, x.NextTxn, mkTxnEntryS (k + ctTopPageRecord x.Before + ctTopPageRecord x.After) x.Txns, mkDirtyEntryS (k + ctTopPageRecord x.Before + ctTopPageRecord x.After + ctTxnEntryS x.Txns) x.Dirty, mkB (k + ctTopPageRecord x.Before + ctTopPageRecord x.After + ctTxnEntryS x.Txns + ctDirtyEntryS x.Dirty) x.Image⟩

theorem markLogRecord_at (x : DLogRecord) (A1 : Option Addr) (c1 : Nat) (F1 : List Nat) (A2 : Option Addr) (c2 : Nat) (F2 : List Nat) (A3 : Option Addr) (c3 : Nat) (F3 : List Nat) (A4 : Option Addr) (c4 : Nat) (F4 : List Nat) (A5 : Option Addr) (c5 : Nat) (F5 : List Nat) (k : Int) (w : World) (s1 : (Rep.int .u8).sl w A1 c1 x.Before.Data F1) (s2 : (Rep.int .u8).sl w A2 c2 x.After.Data F2) (s3 : Rep.TxnEntry.sl w A3 c3 x.Txns F3) (s4 : Rep.DirtyEntry.sl w A4 c4 x.Dirty F4) (s5 : (Rep.int .u8).sl w A5 c5 x.Image F5) (hn : (F1 ++ F2 ++ F3 ++ F4 ++ F5).Nodup) (hu : Unfr w (F1 ++ F2 ++ F3 ++ F4 ++ F5)) (h0 : 0 ≤ k) (hk : k + ctTopLogRecord x ≤ 4611686018427387904) :
    Calls Tryd.prog 33 #[.agg #[.int .i64 x.Kind, .int .i64 x.Txn, .int .i64 x.Prev, .int .i64 x.Page, .int .i64 x.Slot, .bool x.Before.Used, .slice A1 x.Before.Data.length c1, .bool x.After.Used, .slice A2 x.After.Data.length c2, .int .i64 x.UndoNext, .int .i64 x.NextTxn, .slice A3 x.Txns.length c3, .slice A4 x.Dirty.length c4, .slice A5 x.Image.length c5], .int .i64 k] w fun e w' => e = .returned (.int .i64 (k + ctTopLogRecord x)) ∧ ((Rep.int .u8).sl w' A1 c1 (mkTopLogRecord k x).Before.Data F1 ∧ (Rep.int .u8).sl w' A2 c2 (mkTopLogRecord k x).After.Data F2 ∧ Rep.TxnEntry.sl w' A3 c3 (mkTopLogRecord k x).Txns F3 ∧ Rep.DirtyEntry.sl w' A4 c4 (mkTopLogRecord k x).Dirty F4 ∧ (Rep.int .u8).sl w' A5 c5 (mkTopLogRecord k x).Image F5) ∧ Only (F1 ++ F2 ++ F3 ++ F4 ++ F5) w w' ∧ Unfr w' (F1 ++ F2 ++ F3 ++ F4 ++ F5) := by
  have hlF : ∀ g ∈ F1 ++ F2 ++ F3 ++ F4 ++ F5, g < w.heap.size := by
    intro g hg
    simp only [List.mem_append] at hg
    rcases hg with ((((hg | hg) | hg) | hg) | hg)
    · exact Rep.sl_lt s1 g hg
    · exact Rep.sl_lt s2 g hg
    · exact Rep.sl_lt s3 g hg
    · exact Rep.sl_lt s4 g hg
    · exact Rep.sl_lt s5 g hg
  obtain ⟨N4, n5, D5⟩ := List.nodup_append.1 hn
  obtain ⟨N3, n4, D4⟩ := List.nodup_append.1 N4
  obtain ⟨N2, n3, D3⟩ := List.nodup_append.1 N3
  obtain ⟨n1, n2, D2⟩ := List.nodup_append.1 N2
  unfold ctTopLogRecord at hk
  simp only [mkTopLogRecord, mkTopPageRecord, mkTopPageRecord]
  have hu_impl_LogRecord := Tryd.underlying49
  have hu_impl_PageRecord := Tryd.underlying33
  go_enter Tryd.func33, Tryd.ntmps33
  go_wp2_with fail
  have HF0 := Lib.hid (Box.start hlF hu #[.int .i64 x.Kind, .int .i64 x.Txn, .int .i64 x.Prev, .int .i64 x.Page, .int .i64 x.Slot, .bool x.Before.Used, .slice A1 x.Before.Data.length c1, .bool x.After.Used, .slice A2 x.After.Data.length c2, .int .i64 x.UndoNext, .int .i64 x.NextTxn, .slice A3 x.Txns.length c3, .slice A4 x.Dirty.length c4, .slice A5 x.Image.length c5] 49)
  replace s1 := Rep.sl_ext s1 (alloc_ext w (.cells #[.int .i64 x.Kind, .int .i64 x.Txn, .int .i64 x.Prev, .int .i64 x.Page, .int .i64 x.Slot, .bool x.Before.Used, .slice A1 x.Before.Data.length c1, .bool x.After.Used, .slice A2 x.After.Data.length c2, .int .i64 x.UndoNext, .int .i64 x.NextTxn, .slice A3 x.Txns.length c3, .slice A4 x.Dirty.length c4, .slice A5 x.Image.length c5] 49))
  replace s2 := Rep.sl_ext s2 (alloc_ext w (.cells #[.int .i64 x.Kind, .int .i64 x.Txn, .int .i64 x.Prev, .int .i64 x.Page, .int .i64 x.Slot, .bool x.Before.Used, .slice A1 x.Before.Data.length c1, .bool x.After.Used, .slice A2 x.After.Data.length c2, .int .i64 x.UndoNext, .int .i64 x.NextTxn, .slice A3 x.Txns.length c3, .slice A4 x.Dirty.length c4, .slice A5 x.Image.length c5] 49))
  replace s3 := Rep.sl_ext s3 (alloc_ext w (.cells #[.int .i64 x.Kind, .int .i64 x.Txn, .int .i64 x.Prev, .int .i64 x.Page, .int .i64 x.Slot, .bool x.Before.Used, .slice A1 x.Before.Data.length c1, .bool x.After.Used, .slice A2 x.After.Data.length c2, .int .i64 x.UndoNext, .int .i64 x.NextTxn, .slice A3 x.Txns.length c3, .slice A4 x.Dirty.length c4, .slice A5 x.Image.length c5] 49))
  replace s4 := Rep.sl_ext s4 (alloc_ext w (.cells #[.int .i64 x.Kind, .int .i64 x.Txn, .int .i64 x.Prev, .int .i64 x.Page, .int .i64 x.Slot, .bool x.Before.Used, .slice A1 x.Before.Data.length c1, .bool x.After.Used, .slice A2 x.After.Data.length c2, .int .i64 x.UndoNext, .int .i64 x.NextTxn, .slice A3 x.Txns.length c3, .slice A4 x.Dirty.length c4, .slice A5 x.Image.length c5] 49))
  replace s5 := Rep.sl_ext s5 (alloc_ext w (.cells #[.int .i64 x.Kind, .int .i64 x.Txn, .int .i64 x.Prev, .int .i64 x.Page, .int .i64 x.Slot, .bool x.Before.Used, .slice A1 x.Before.Data.length c1, .bool x.After.Used, .slice A2 x.After.Data.length c2, .int .i64 x.UndoNext, .int .i64 x.NextTxn, .slice A3 x.Txns.length c3, .slice A4 x.Dirty.length c4, .slice A5 x.Image.length c5] 49))
  refine (markPageRecord_at x.Before _ _ _ _ _ s1 n1 (fun b hb o => HF0.out.unfr b (by simp [hb]) o) (by omega) (by omega)).mono ?_
  rintro e w1 ⟨rfl, s1', hO, hu1⟩
  have HF1 := Lib.hid (HF0.out.call hO (fun b hb => (by simp [hb])) hu1)
  replace s2 := Rep.sl_only s2 hO (fun b hb hb' => D2 b (by simp [hb']) b hb rfl)
  replace s3 := Rep.sl_only s3 hO (fun b hb hb' => D3 b (by simp [hb']) b hb rfl)
  replace s4 := Rep.sl_only s4 hO (fun b hb hb' => D4 b (by simp [hb']) b hb rfl)
  replace s5 := Rep.sl_only s5 hO (fun b hb hb' => D5 b (by simp [hb']) b hb rfl)
  clear s1
  have s1 := s1'
  clear s1'
  have hb1 := fun o => HF1.out.cell o
  clear hO hu1
  go_wp2_with fail
  refine (markPageRecord_at x.After _ _ _ _ _ s2 n2 (fun b hb o => HF1.out.unfr b (by simp [hb]) o) (by omega) (by omega)).mono ?_
  rintro e w2 ⟨rfl, s2', hO, hu2⟩
  have HF2 := Lib.hid (HF1.out.call hO (fun b hb => (by simp [hb])) hu2)
  replace s1 := Rep.sl_only s1 hO (fun b hb hb' => D2 b (by simp [hb]) b hb' rfl)
  replace s3 := Rep.sl_only s3 hO (fun b hb hb' => D3 b (by simp [hb']) b hb rfl)
  replace s4 := Rep.sl_only s4 hO (fun b hb hb' => D4 b (by simp [hb']) b hb rfl)
  replace s5 := Rep.sl_only s5 hO (fun b hb hb' => D5 b (by simp [hb']) b hb rfl)
  clear s2
  have s2 := s2'
  clear s2'
  have hb2 := fun o => HF2.out.cell o
  clear hO hu2
  go_wp2_with fail
  refine (markTxnEntryS_calls _ _ _ _ _ _ s3 n3 (fun b hb o => HF2.out.unfr b (by simp [hb]) o) (by omega) (by omega)).mono ?_
  rintro e w3 ⟨rfl, s3', hO, hu3⟩
  have HF3 := Lib.hid (HF2.out.call hO (fun b hb => (by simp [hb])) hu3)
  replace s1 := Rep.sl_only s1 hO (fun b hb hb' => D3 b (by simp [hb]) b hb' rfl)
  replace s2 := Rep.sl_only s2 hO (fun b hb hb' => D3 b (by simp [hb]) b hb' rfl)
  replace s4 := Rep.sl_only s4 hO (fun b hb hb' => D4 b (by simp [hb']) b hb rfl)
  replace s5 := Rep.sl_only s5 hO (fun b hb hb' => D5 b (by simp [hb']) b hb rfl)
  clear s3
  have s3 := s3'
  clear s3'
  have hb3 := fun o => HF3.out.cell o
  clear hO hu3
  go_wp2_with fail
  refine (markDirtyEntryS_calls _ _ _ _ _ _ s4 n4 (fun b hb o => HF3.out.unfr b (by simp [hb]) o) (by omega) (by omega)).mono ?_
  rintro e w4 ⟨rfl, s4', hO, hu4⟩
  have HF4 := Lib.hid (HF3.out.call hO (fun b hb => (by simp [hb])) hu4)
  replace s1 := Rep.sl_only s1 hO (fun b hb hb' => D4 b (by simp [hb]) b hb' rfl)
  replace s2 := Rep.sl_only s2 hO (fun b hb hb' => D4 b (by simp [hb]) b hb' rfl)
  replace s3 := Rep.sl_only s3 hO (fun b hb hb' => D4 b (by simp [hb]) b hb' rfl)
  replace s5 := Rep.sl_only s5 hO (fun b hb hb' => D5 b (by simp [hb']) b hb rfl)
  clear s4
  have s4 := s4'
  clear s4'
  have hb4 := fun o => HF4.out.cell o
  clear hO hu4
  go_wp2_with fail
  refine (markByteS_calls _ _ _ _ _ _ s5 n5 (fun b hb o => HF4.out.unfr b (by simp [hb]) o) (by omega) (by omega)).mono ?_
  rintro e w5 ⟨rfl, s5', hO, hu5⟩
  have HF5 := Lib.hid (HF4.out.call hO (fun b hb => (by simp [hb])) hu5)
  replace s1 := Rep.sl_only s1 hO (fun b hb hb' => D5 b (by simp [hb]) b hb' rfl)
  replace s2 := Rep.sl_only s2 hO (fun b hb hb' => D5 b (by simp [hb]) b hb' rfl)
  replace s3 := Rep.sl_only s3 hO (fun b hb hb' => D5 b (by simp [hb]) b hb' rfl)
  replace s4 := Rep.sl_only s4 hO (fun b hb hb' => D5 b (by simp [hb]) b hb' rfl)
  clear s5
  have s5 := s5'
  clear s5'
  have hb5 := fun o => HF5.out.cell o
  clear hO hu5
  go_wp2
  go_ret
  exact ⟨ret_int (by unfold ctTopLogRecord; omega), ⟨s1, s2, s3, s4, s5⟩, HF5.out.only, HF5.out.unfr⟩

theorem heldLogRecord_calls (v : Value) (x : DLogRecord) (F : List Nat) (k : Int) (w : World) (h : Rep.LogRecord.V w v (mkTopLogRecord k x) F) (h0 : 0 ≤ k) (hk : k + ctTopLogRecord x ≤ 4611686018427387904) :
    Calls Tryd.prog 34 #[v, .int .i64 k] w fun e w' => e = .returned (.int .i64 (k + ctTopLogRecord x)) ∧ Ext w w' := by
  obtain ⟨_, ⟨A1, c1, F1, A2, c2, F2, A3, c3, F3, A4, c4, F4, A5, c5, F5, rfl, rfl, hw, s1, s2, s3, s4, s5⟩, rfl⟩ := h
  unfold ctTopLogRecord at hk
  have hu_impl_LogRecord := Tryd.underlying49
  have hu_impl_PageRecord := Tryd.underlying33
  show Calls _ _ #[.agg #[_, _, _, _, _, _, _, _, _, _, _, _, _, _], _] _ _
  simp only [mkB_len, mkDirtyEntryS_len, mkTopLogRecord, mkTopPageRecord, mkTxnEntryS_len] at s1 s2 s3 s4 s5
  simp only [mkB_len, mkDirtyEntryS_len, mkTopLogRecord, mkTopPageRecord, mkTxnEntryS_len]
  go_enter Tryd.func34, Tryd.ntmps34
  go_wp2_with fail
  refine (heldPageRecord_calls _ x.Before _ _ _ ⟨[.bool x.Before.Used, .slice A1 x.Before.Data.length c1], ⟨A1, c1, _, (by simp [mkB_len, mkTopPageRecord]), rfl, (by first | trivial | (have := hw; simp only [wfLogRecord, wfPageRecord, mkTopLogRecord, mkTopPageRecord] at this ⊢; simp only [this, and_self])), (Rep.sl_ext s1 (alloc_ext _ _))⟩, rfl⟩ (by omega) (by omega)).mono ?_
  rintro e w1 ⟨rfl, hO1⟩
  have HE1 := Lib.hid (Only.ext (alloc_ext w _) hO1)
  have HX1 := Lib.hid (hO1)
  obtain ⟨hc1, hf1⟩ := bcell HX1.out
  clear hO1
  go_wp2_with fail
  refine (heldPageRecord_calls _ x.After _ _ _ ⟨[.bool x.After.Used, .slice A2 x.After.Data.length c2], ⟨A2, c2, _, (by simp [mkB_len, mkTopPageRecord]), rfl, (by first | trivial | (have := hw; simp only [wfLogRecord, wfPageRecord, mkTopLogRecord, mkTopPageRecord] at this ⊢; simp only [this, and_self])), (Rep.sl_ext s2 HE1.out)⟩, rfl⟩ (by omega) (by omega)).mono ?_
  rintro e w2 ⟨rfl, hO2⟩
  have HE2 := Lib.hid (Only.ext HE1.out hO2)
  have HX2 := Lib.hid (Only.ext HX1.out hO2)
  obtain ⟨hc2, hf2⟩ := bcell HX2.out
  clear hc1 hf1
  clear hO2
  go_wp2_with fail
  refine (heldTxnEntryS_calls _ _ _ _ _ _ (Rep.sl_ext s3 HE2.out) (by omega) (by omega)).mono ?_
  rintro e w3 ⟨rfl, hO3⟩
  have HE3 := Lib.hid (Only.ext HE2.out hO3)
  have HX3 := Lib.hid (Only.ext HX2.out hO3)
  obtain ⟨hc3, hf3⟩ := bcell HX3.out
  clear hc2 hf2
  clear hO3
  go_wp2_with fail
  refine (heldDirtyEntryS_calls _ _ _ _ _ _ (Rep.sl_ext s4 HE3.out) (by omega) (by omega)).mono ?_
  rintro e w4 ⟨rfl, hO4⟩
  have HE4 := Lib.hid (Only.ext HE3.out hO4)
  have HX4 := Lib.hid (Only.ext HX3.out hO4)
  obtain ⟨hc4, hf4⟩ := bcell HX4.out
  clear hc3 hf3
  clear hO4
  go_wp2_with fail
  refine (heldByteS_calls _ _ _ _ _ _ (Rep.sl_ext s5 HE4.out) (by omega) (by omega)).mono ?_
  rintro e w5 ⟨rfl, hO5⟩
  have HE5 := Lib.hid (Only.ext HE4.out hO5)
  have HX5 := Lib.hid (Only.ext HX4.out hO5)
  obtain ⟨hc5, hf5⟩ := bcell HX5.out
  clear hc4 hf4
  clear hO5
  go_wp2
  go_ret
  exact ⟨ret_int (by unfold ctTopLogRecord; omega), HE5.out⟩

end Go.Proofs.YtghgjddiheebeaaDoor
