/- RecordResult: the data, how they lie in cells, and the laws' own functions over them. Printed by gen_fam.py, a program of this session. -/
import Derived.Test.YtghgjddiheebeaaDoorMFLogRecord
import Derived.StillTailTactics
namespace Go.Proofs.YtghgjddiheebeaaDoor
open Go.RowKit
set_option linter.unusedSimpArgs false
set_option linter.unusedVariables false
set_option maxRecDepth 100000
set_option maxHeartbeats 8000000

structure DRecordResult where
  Good : Bool
  Record : DLogRecord
  deriving DecidableEq

def wfRecordResult (x : DRecordResult) : Prop := (Lit.int .i64 x.Record.Kind).wf = true ∧ (Lit.int .i64 x.Record.Txn).wf = true ∧ (Lit.int .i64 x.Record.Prev).wf = true ∧ (Lit.int .i64 x.Record.Page).wf = true ∧ (Lit.int .i64 x.Record.Slot).wf = true ∧ (Lit.int .i64 x.Record.UndoNext).wf = true ∧ (Lit.int .i64 x.Record.NextTxn).wf = true

def Rep.RecordResult : Rep DRecordResult where
  sz := 15
  R := fun w x cs F => ∃ (A1 : Option Addr) (c1 : Nat) (F1 : List Nat), ∃ (A2 : Option Addr) (c2 : Nat) (F2 : List Nat), ∃ (A3 : Option Addr) (c3 : Nat) (F3 : List Nat), ∃ (A4 : Option Addr) (c4 : Nat) (F4 : List Nat), ∃ (A5 : Option Addr) (c5 : Nat) (F5 : List Nat), cs = [.bool x.Good, .int .i64 x.Record.Kind, .int .i64 x.Record.Txn, .int .i64 x.Record.Prev, .int .i64 x.Record.Page, .int .i64 x.Record.Slot, .bool x.Record.Before.Used, .slice A1 x.Record.Before.Data.length c1, .bool x.Record.After.Used, .slice A2 x.Record.After.Data.length c2, .int .i64 x.Record.UndoNext, .int .i64 x.Record.NextTxn, .slice A3 x.Record.Txns.length c3, .slice A4 x.Record.Dirty.length c4, .slice A5 x.Record.Image.length c5] ∧ F = F1 ++ F2 ++ F3 ++ F4 ++ F5 ∧ wfRecordResult x ∧ (Rep.int .u8).sl w A1 c1 x.Record.Before.Data F1 ∧ (Rep.int .u8).sl w A2 c2 x.Record.After.Data F2 ∧ Rep.TxnEntry.sl w A3 c3 x.Record.Txns F3 ∧ Rep.DirtyEntry.sl w A4 c4 x.Record.Dirty F4 ∧ (Rep.int .u8).sl w A5 c5 x.Record.Image F5
  val := fun | [a0, a1, a2, a3, a4, a5, a6, a7, a8, a9, a10, a11, a12, a13, a14] => .agg #[a0, a1, a2, a3, a4, a5, a6, a7, a8, a9, a10, a11, a12, a13, a14] | _ => undef
  len := by rintro w x cs F ⟨A1, c1, F1, A2, c2, F2, A3, c3, F3, A4, c4, F4, A5, c5, F5, rfl, -⟩; rfl
  lt := by
    rintro w x cs F ⟨A1, c1, F1, A2, c2, F2, A3, c3, F3, A4, c4, F4, A5, c5, F5, -, rfl, -, s1, s2, s3, s4, s5⟩ g hg
    simp only [List.mem_append] at hg
    rcases hg with ((((hg | hg) | hg) | hg) | hg)
    · exact Rep.sl_lt s1 g hg
    · exact Rep.sl_lt s2 g hg
    · exact Rep.sl_lt s3 g hg
    · exact Rep.sl_lt s4 g hg
    · exact Rep.sl_lt s5 g hg
  keep := by
    rintro w w' x cs F ⟨A1, c1, F1, A2, c2, F2, A3, c3, F3, A4, c4, F4, A5, c5, F5, rfl, rfl, hw, s1, s2, s3, s4, s5⟩ hk
    exact ⟨A1, c1, _, A2, c2, _, A3, c3, _, A4, c4, _, A5, c5, _, rfl, rfl, hw, Rep.sl_keep s1 (fun b hb => hk b (by simp [hb])), Rep.sl_keep s2 (fun b hb => hk b (by simp [hb])), Rep.sl_keep s3 (fun b hb => hk b (by simp [hb])), Rep.sl_keep s4 (fun b hb => hk b (by simp [hb])), Rep.sl_keep s5 (fun b hb => hk b (by simp [hb]))⟩

def wtRecordResult (x : DRecordResult) : Nat := wtLogRecord x.Record
theorem eqRecordResult_calls (v : Value) (x : DRecordResult) (F : List Nat) (u : Value) (y : DRecordResult) (G : List Nat) (w : World) (h : Rep.RecordResult.V w v x F) (k : Rep.RecordResult.V w u y G) :
    Calls Tryd.prog 47 #[v, u] w fun e w' => e = .returned (.bool (decide (x = y))) ∧ Ext w w' := by
  obtain ⟨_, ⟨A1, c1, F1, A2, c2, F2, A3, c3, F3, A4, c4, F4, A5, c5, F5, rfl, rfl, hw, s1, s2, s3, s4, s5⟩, rfl⟩ := h
  obtain ⟨_, ⟨B1, d1, G1, B2, d2, G2, B3, d3, G3, B4, d4, G4, B5, d5, G5, rfl, rfl, hv, t1, t2, t3, t4, t5⟩, rfl⟩ := k
  have hu_impl_RecordResult := Tryd.underlying65
  have hu_impl_LogRecord := Tryd.underlying49
  have hu_impl_PageRecord := Tryd.underlying33
  show Calls _ _ #[.agg #[_, _, _, _, _, _, _, _, _, _, _, _, _, _, _], .agg #[_, _, _, _, _, _, _, _, _, _, _, _, _, _, _]] _ _
  go_enter Tryd.func47, Tryd.ntmps47
  go_wp2_with fail
  all_goals try (go_ret; exact ⟨ret_bool (by symm; rw [decide_eq_false_iff_not]; rintro rfl; exact absurd ‹(_ != _) = true› (by simp)), ((alloc_ext _ _).alloc _)⟩)
  have E_Good := Lib.hid (bool_eq' (by assumption : (x.Good != y.Good) = false))
  refine (eqLogRecord_calls _ _ _ _ _ _ _ ⟨_, ⟨A1, c1, _, A2, c2, _, A3, c3, _, A4, c4, _, A5, c5, _, rfl, rfl, (by first | trivial | (have := hw; simp only [wfRecordResult, wfLogRecord] at this ⊢; simp only [this, and_self])), (Rep.sl_ext s1 ((alloc_ext _ _).alloc _)), (Rep.sl_ext s2 ((alloc_ext _ _).alloc _)), (Rep.sl_ext s3 ((alloc_ext _ _).alloc _)), (Rep.sl_ext s4 ((alloc_ext _ _).alloc _)), (Rep.sl_ext s5 ((alloc_ext _ _).alloc _))⟩, rfl⟩ ⟨_, ⟨B1, d1, _, B2, d2, _, B3, d3, _, B4, d4, _, B5, d5, _, rfl, rfl, (by first | trivial | (have := hv; simp only [wfRecordResult, wfLogRecord] at this ⊢; simp only [this, and_self])), (Rep.sl_ext t1 ((alloc_ext _ _).alloc _)), (Rep.sl_ext t2 ((alloc_ext _ _).alloc _)), (Rep.sl_ext t3 ((alloc_ext _ _).alloc _)), (Rep.sl_ext t4 ((alloc_ext _ _).alloc _)), (Rep.sl_ext t5 ((alloc_ext _ _).alloc _))⟩, rfl⟩).mono ?_
  rintro e w1 ⟨rfl, hO1⟩
  have HE1 := Lib.hid (Only.ext ((alloc_ext w _).alloc _) hO1)
  have HX1 := Lib.hid (hO1)
  obtain ⟨hc1, hf1⟩ := bcell HX1.out
  clear hO1
  by_cases q1 : x.Record = y.Record
  rotate_left
  · have b1 : decide (x.Record = y.Record) = false := by simp [q1]
    have Q1 := Lib.hid q1
    clear q1
    go_wp2_with fail
    go_ret
    exact ⟨ret_bool (by symm; rw [decide_eq_false_iff_not]; rintro rfl; exact Q1.out rfl), HE1.out⟩
  have b1 : decide (x.Record = y.Record) = true := by simp [q1]
  have E_Record := Lib.hid q1
  clear q1
  go_wp2_with fail
  go_ret
  exact ⟨ret_bool (by symm; rw [decide_eq_true_iff]; cases x; cases y; simp only [DRecordResult.mk.injEq]; exact ⟨E_Good.out, E_Record.out⟩), HE1.out⟩

def ctTopRecordResult (x : DRecordResult) : Nat := ctTopLogRecord x.Record
theorem ctTopRecordResult_wt (x : DRecordResult) : ctTopRecordResult x ≤ 64 * wtRecordResult x := by
  have := ctTxnEntryS_wt (x.Record.Txns)
  have := ctDirtyEntryS_wt (x.Record.Dirty)
  simp only [ctTopRecordResult, ctTopLogRecord, ctTopPageRecord, ctTopPageRecord, wtRecordResult, wtLogRecord, wtPageRecord, wtPageRecord]
  omega
def mkTopRecordResult (k : Int) (x : DRecordResult) : DRecordResult := ⟨x.Good, mkTopLogRecord (k) x.Record⟩

theorem markRecordResult_at (x : DRecordResult) (A1 : Option Addr) (c1 : Nat) (F1 : List Nat) (A2 : Option Addr) (c2 : Nat) (F2 : List Nat) (A3 : Option Addr) (c3 : Nat) (F3 : List Nat) (A4 : Option Addr) (c4 : Nat) (F4 : List Nat) (A5 : Option Addr) (c5 : Nat) (F5 : List Nat) (k : Int) (w : World) (s1 : (Rep.int .u8).sl w A1 c1 x.Record.Before.Data F1) (s2 : (Rep.int .u8).sl w A2 c2 x.Record.After.Data F2) (s3 : Rep.TxnEntry.sl w A3 c3 x.Record.Txns F3) (s4 : Rep.DirtyEntry.sl w A4 c4 x.Record.Dirty F4) (s5 : (Rep.int .u8).sl w A5 c5 x.Record.Image F5) (hn : (F1 ++ F2 ++ F3 ++ F4 ++ F5).Nodup) (hu : Unfr w (F1 ++ F2 ++ F3 ++ F4 ++ F5)) (h0 : 0 ≤ k) (hk : k + ctTopRecordResult x ≤ 4611686018427387904) :
    Calls Tryd.prog 48 #[.agg #[.bool x.Good, .int .i64 x.Record.Kind, .int .i64 x.Record.Txn, .int .i64 x.Record.Prev, .int .i64 x.Record.Page, .int .i64 x.Record.Slot, .bool x.Record.Before.Used, .slice A1 x.Record.Before.Data.length c1, .bool x.Record.After.Used, .slice A2 x.Record.After.Data.length c2, .int .i64 x.Record.UndoNext, .int .i64 x.Record.NextTxn, .slice A3 x.Record.Txns.length c3, .slice A4 x.Record.Dirty.length c4, .slice A5 x.Record.Image.length c5], .int .i64 k] w fun e w' => e = .returned (.int .i64 (k + ctTopRecordResult x)) ∧ ((Rep.int .u8).sl w' A1 c1 (mkTopRecordResult k x).Record.Before.Data F1 ∧ (Rep.int .u8).sl w' A2 c2 (mkTopRecordResult k x).Record.After.Data F2 ∧ Rep.TxnEntry.sl w' A3 c3 (mkTopRecordResult k x).Record.Txns F3 ∧ Rep.DirtyEntry.sl w' A4 c4 (mkTopRecordResult k x).Record.Dirty F4 ∧ (Rep.int .u8).sl w' A5 c5 (mkTopRecordResult k x).Record.Image F5) ∧ Only (F1 ++ F2 ++ F3 ++ F4 ++ F5) w w' ∧ Unfr w' (F1 ++ F2 ++ F3 ++ F4 ++ F5) := by
  have hlF : ∀ g ∈ F1 ++ F2 ++ F3 ++ F4 ++ F5, g < w.heap.size := by
    intro g hg
    simp only [List.mem_append] at hg
    rcases hg with ((((hg | hg) | hg) | hg) | hg)
    · exact Rep.sl_lt s1 g hg
    · exact Rep.sl_lt s2 g hg
    · exact Rep.sl_lt s3 g hg
    · exact Rep.sl_lt s4 g hg
    · exact Rep.sl_lt s5 g hg
  obtain ⟨N4, n5, D5⟩ := List.nodup_append.1 hn
  obtain ⟨N3, n4, D4⟩ := List.nodup_append.1 N4
  obtain ⟨N2, n3, D3⟩ := List.nodup_append.1 N3
  obtain ⟨n1, n2, D2⟩ := List.nodup_append.1 N2
  unfold ctTopRecordResult at hk
  simp only [mkTopRecordResult, mkTopLogRecord, mkTopPageRecord, mkTopPageRecord]
  have hu_impl_RecordResult := Tryd.underlying65
  have hu_impl_LogRecord := Tryd.underlying49
  have hu_impl_PageRecord := Tryd.underlying33
  go_enter Tryd.func48, Tryd.ntmps48
  go_wp2_with fail
  have HF0 := Lib.hid (Box.start hlF hu #[.bool x.Good, .int .i64 x.Record.Kind, .int .i64 x.Record.Txn, .int .i64 x.Record.Prev, .int .i64 x.Record.Page, .int .i64 x.Record.Slot, .bool x.Record.Before.Used, .slice A1 x.Record.Before.Data.length c1, .bool x.Record.After.Used, .slice A2 x.Record.After.Data.length c2, .int .i64 x.Record.UndoNext, .int .i64 x.Record.NextTxn, .slice A3 x.Record.Txns.length c3, .slice A4 x.Record.Dirty.length c4, .slice A5 x.Record.Image.length c5] 65)
  replace s1 := Rep.sl_ext s1 (alloc_ext w (.cells #[.bool x.Good, .int .i64 x.Record.Kind, .int .i64 x.Record.Txn, .int .i64 x.Record.Prev, .int .i64 x.Record.Page, .int .i64 x.Record.Slot, .bool x.Record.Before.Used, .slice A1 x.Record.Before.Data.length c1, .bool x.Record.After.Used, .slice A2 x.Record.After.Data.length c2, .int .i64 x.Record.UndoNext, .int .i64 x.Record.NextTxn, .slice A3 x.Record.Txns.length c3, .slice A4 x.Record.Dirty.length c4, .slice A5 x.Record.Image.length c5] 65))
  replace s2 := Rep.sl_ext s2 (alloc_ext w (.cells #[.bool x.Good, .int .i64 x.Record.Kind, .int .i64 x.Record.Txn, .int .i64 x.Record.Prev, .int .i64 x.Record.Page, .int .i64 x.Record.Slot, .bool x.Record.Before.Used, .slice A1 x.Record.Before.Data.length c1, .bool x.Record.After.Used, .slice A2 x.Record.After.Data.length c2, .int .i64 x.Record.UndoNext, .int .i64 x.Record.NextTxn, .slice A3 x.Record.Txns.length c3, .slice A4 x.Record.Dirty.length c4, .slice A5 x.Record.Image.length c5] 65))
  replace s3 := Rep.sl_ext s3 (alloc_ext w (.cells #[.bool x.Good, .int .i64 x.Record.Kind, .int .i64 x.Record.Txn, .int .i64 x.Record.Prev, .int .i64 x.Record.Page, .int .i64 x.Record.Slot, .bool x.Record.Before.Used, .slice A1 x.Record.Before.Data.length c1, .bool x.Record.After.Used, .slice A2 x.Record.After.Data.length c2, .int .i64 x.Record.UndoNext, .int .i64 x.Record.NextTxn, .slice A3 x.Record.Txns.length c3, .slice A4 x.Record.Dirty.length c4, .slice A5 x.Record.Image.length c5] 65))
  replace s4 := Rep.sl_ext s4 (alloc_ext w (.cells #[.bool x.Good, .int .i64 x.Record.Kind, .int .i64 x.Record.Txn, .int .i64 x.Record.Prev, .int .i64 x.Record.Page, .int .i64 x.Record.Slot, .bool x.Record.Before.Used, .slice A1 x.Record.Before.Data.length c1, .bool x.Record.After.Used, .slice A2 x.Record.After.Data.length c2, .int .i64 x.Record.UndoNext, .int .i64 x.Record.NextTxn, .slice A3 x.Record.Txns.length c3, .slice A4 x.Record.Dirty.length c4, .slice A5 x.Record.Image.length c5] 65))
  replace s5 := Rep.sl_ext s5 (alloc_ext w (.cells #[.bool x.Good, .int .i64 x.Record.Kind, .int .i64 x.Record.Txn, .int .i64 x.Record.Prev, .int .i64 x.Record.Page, .int .i64 x.Record.Slot, .bool x.Record.Before.Used, .slice A1 x.Record.Before.Data.length c1, .bool x.Record.After.Used, .slice A2 x.Record.After.Data.length c2, .int .i64 x.Record.UndoNext, .int .i64 x.Record.NextTxn, .slice A3 x.Record.Txns.length c3, .slice A4 x.Record.Dirty.length c4, .slice A5 x.Record.Image.length c5] 65))
  refine (markLogRecord_at x.Record _ _ _ _ _ _ _ _ _ _ _ _ _ _ _ _ _ s1 s2 s3 s4 s5 (List.nodup_append.2 ⟨(List.nodup_append.2 ⟨(List.nodup_append.2 ⟨(List.nodup_append.2 ⟨n1, n2, fun a ha b hb => D2 a (by first | exact ha | (simp only [List.mem_append] at ha ⊢; simp [ha])) b hb⟩), n3, fun a ha b hb => D3 a (by first | exact ha | (simp only [List.mem_append] at ha ⊢; simp [ha])) b hb⟩), n4, fun a ha b hb => D4 a (by first | exact ha | (simp only [List.mem_append] at ha ⊢; simp [ha])) b hb⟩), n5, fun a ha b hb => D5 a (by first | exact ha | (simp only [List.mem_append] at ha ⊢; simp [ha])) b hb⟩) (fun b hb o => HF0.out.unfr b (by simp only [List.mem_append] at hb ⊢; rcases hb with ((((hb | hb) | hb) | hb) | hb) <;> simp [hb]) o) (by omega) (by omega)).mono ?_
  rintro e w1 ⟨rfl, ⟨s1', s2', s3', s4', s5'⟩, hO, hu1⟩
  have HF1 := Lib.hid (HF0.out.call hO (fun b hb => (by simp only [List.mem_append] at hb ⊢; rcases hb with ((((hb | hb) | hb) | hb) | hb) <;> simp [hb])) hu1)
  clear s1
  have s1 := s1'
  clear s1'
  clear s2
  have s2 := s2'
  clear s2'
  clear s3
  have s3 := s3'
  clear s3'
  clear s4
  have s4 := s4'
  clear s4'
  clear s5
  have s5 := s5'
  clear s5'
  have hb1 := fun o => HF1.out.cell o
  clear hO hu1
  go_wp2
  go_ret
  exact ⟨ret_int (by unfold ctTopRecordResult; omega), ⟨s1, s2, s3, s4, s5⟩, HF1.out.only, HF1.out.unfr⟩

theorem markRecordResult_calls (v : Value) (x : DRecordResult) (F : List Nat) (k : Int) (w : World) (h : Rep.RecordResult.V w v x F) (hn : F.Nodup) (hu : Unfr w F) (h0 : 0 ≤ k) (hk : k + ctTopRecordResult x ≤ 4611686018427387904) :
    Calls Tryd.prog 48 #[v, .int .i64 k] w fun e w' => e = .returned (.int .i64 (k + ctTopRecordResult x)) ∧ Rep.RecordResult.V w' v (mkTopRecordResult k x) F ∧ Only F w w' ∧ Unfr w' F := by
  obtain ⟨_, ⟨A1, c1, F1, A2, c2, F2, A3, c3, F3, A4, c4, F4, A5, c5, F5, rfl, rfl, hw, s1, s2, s3, s4, s5⟩, rfl⟩ := h
  refine (markRecordResult_at x _ _ _ _ _ _ _ _ _ _ _ _ _ _ _ k w s1 s2 s3 s4 s5 hn hu h0 hk).mono ?_
  rintro e w1 ⟨rfl, ⟨s1', s2', s3', s4', s5'⟩, hO, hu1⟩
  exact ⟨rfl, ⟨_, ⟨A1, c1, _, A2, c2, _, A3, c3, _, A4, c4, _, A5, c5, _, (by simp [mkB_len, mkDirtyEntryS_len, mkTopLogRecord, mkTopPageRecord, mkTopRecordResult, mkTxnEntryS_len]), rfl, (by first | trivial | simpa [wfRecordResult, mkTopLogRecord, mkTopPageRecord, mkTopRecordResult] using hw), s1', s2', s3', s4', s5'⟩, rfl⟩, hO, hu1⟩

theorem heldRecordResult_calls (v : Value) (x : DRecordResult) (F : List Nat) (k : Int) (w : World) (h : Rep.RecordResult.V w v (mkTopRecordResult k x) F) (h0 : 0 ≤ k) (hk : k + ctTopRecordResult x ≤ 4611686018427387904) :
    Calls Tryd.prog 49 #[v, .int .i64 k] w fun e w' => e = .returned (.int .i64 (k + ctTopRecordResult x)) ∧ Ext w w' := by
  obtain ⟨_, ⟨A1, c1, F1, A2, c2, F2, A3, c3, F3, A4, c4, F4, A5, c5, F5, rfl, rfl, hw, s1, s2, s3, s4, s5⟩, rfl⟩ := h
  unfold ctTopRecordResult at hk
  have hu_impl_RecordResult := Tryd.underlying65
  have hu_impl_LogRecord := Tryd.underlying49
  have hu_impl_PageRecord := Tryd.underlying33
  show Calls _ _ #[.agg #[_, _, _, _, _, _, _, _, _, _, _, _, _, _, _], _] _ _
  simp only [mkB_len, mkDirtyEntryS_len, mkTopLogRecord, mkTopPageRecord, mkTopRecordResult, mkTxnEntryS_len] at s1 s2 s3 s4 s5
  simp only [mkB_len, mkDirtyEntryS_len, mkTopLogRecord, mkTopPageRecord, mkTopRecordResult, mkTxnEntryS_len]
  go_enter Tryd.func49, Tryd.ntmps49
  go_wp2_with fail
  refine (heldLogRecord_calls _ x.Record _ _ _ ⟨[.int .i64 x.Record.Kind, .int .i64 x.Record.Txn, .int .i64 x.Record.Prev, .int .i64 x.Record.Page, .int .i64 x.Record.Slot, .bool x.Record.Before.Used, .slice A1 x.Record.Before.Data.length c1, .bool x.Record.After.Used, .slice A2 x.Record.After.Data.length c2, .int .i64 x.Record.UndoNext, .int .i64 x.Record.NextTxn, .slice A3 x.Record.Txns.length c3, .slice A4 x.Record.Dirty.length c4, .slice A5 x.Record.Image.length c5], ⟨A1, c1, _, A2, c2, _, A3, c3, _, A4, c4, _, A5, c5, _, (by simp [mkB_len, mkDirtyEntryS_len, mkTopLogRecord, mkTopPageRecord, mkTxnEntryS_len]), rfl, (by first | trivial | (have := hw; simp only [wfRecordResult, wfLogRecord, mkTopLogRecord, mkTopPageRecord, mkTopRecordResult] at this ⊢; simp only [this, and_self])), (Rep.sl_ext s1 (alloc_ext _ _)), (Rep.sl_ext s2 (alloc_ext _ _)), (Rep.sl_ext s3 (alloc_ext _ _)), (Rep.sl_ext s4 (alloc_ext _ _)), (Rep.sl_ext s5 (alloc_ext _ _))⟩, rfl⟩ (by omega) (by omega)).mono ?_
  rintro e w1 ⟨rfl, hO1⟩
  have HE1 := Lib.hid (Only.ext (alloc_ext w _) hO1)
  have HX1 := Lib.hid (hO1)
  obtain ⟨hc1, hf1⟩ := bcell HX1.out
  clear hO1
  go_wp2
  go_ret
  exact ⟨ret_int (by unfold ctTopRecordResult; omega), HE1.out⟩

end Go.Proofs.YtghgjddiheebeaaDoor
