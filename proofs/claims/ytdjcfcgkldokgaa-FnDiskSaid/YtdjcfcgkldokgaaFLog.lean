/- Log: the data, how they lie in cells, and the laws' own functions over them. Printed by gen_fam.py, a program of this session. -/
import Derived.Test.YtdjcfcgkldokgaaF0
import Derived.StillTailTactics
namespace Go.Proofs.Ytdjcfcgkldokgaa
open Go.RowKit
set_option linter.unusedSimpArgs false
set_option linter.unusedVariables false
set_option maxRecDepth 100000
set_option maxHeartbeats 8000000

structure DLog where
  Sectors : Int
  Epoch : Int
  End : Int
  Flushed : Int
  Tail : List Int
  deriving DecidableEq

def wfLog (x : DLog) : Prop := (Lit.int .i64 x.Sectors).wf = true ∧ (Lit.int .i64 x.Epoch).wf = true ∧ (Lit.int .i64 x.End).wf = true ∧ (Lit.int .i64 x.Flushed).wf = true

def Rep.Log : Rep DLog where
  sz := 5
  R := fun w x cs F => ∃ (A1 : Option Addr) (c1 : Nat) (F1 : List Nat), cs = [.int .i64 x.Sectors, .int .i64 x.Epoch, .int .i64 x.End, .int .i64 x.Flushed, .slice A1 x.Tail.length c1] ∧ F = F1 ∧ wfLog x ∧ (Rep.int .u8).sl w A1 c1 x.Tail F1
  val := fun | [a0, a1, a2, a3, a4] => .agg #[a0, a1, a2, a3, a4] | _ => undef
  len := by rintro w x cs F ⟨A1, c1, F1, rfl, -⟩; rfl
  lt := by
    rintro w x cs F ⟨A1, c1, F1, -, rfl, -, s1⟩ g hg
    exact Rep.sl_lt s1 g hg
  keep := by
    rintro w w' x cs F ⟨A1, c1, F1, rfl, rfl, hw, s1⟩ hk
    exact ⟨A1, c1, _, rfl, rfl, hw, Rep.sl_keep s1 (fun b hb => hk b (by simp [hb]))⟩

theorem val_Log : ∀ (l : List Value), l.length = 5 → Rep.Log.val l = .agg ⟨l⟩
  | [_, _, _, _, _], _ => rfl

theorem sl_Log {w : World} {A : Option Addr} {c : Nat} {xs : List DLog} {F : List Nat} (h : Rep.Log.sl w A c xs F) (i : Nat) (hi : i < xs.length) :
    ∃ (g off : Nat) (A1 : Option Addr) (c1 : Nat) (F1 : List Nat), A = some ⟨g, off, none⟩ ∧ g < w.heap.size ∧ wfLog (xs[i]) ∧ (Rep.int .u8).sl w A1 c1 (xs[i]).Tail F1 ∧
      w.cell? ⟨g, off + i * 5, none⟩ = some (.int .i64 (xs[i]).Sectors) ∧ w.cell? ⟨g, off + i * 5 + 1, none⟩ = some (.int .i64 (xs[i]).Epoch) ∧ w.cell? ⟨g, off + i * 5 + 2, none⟩ = some (.int .i64 (xs[i]).End) ∧ w.cell? ⟨g, off + i * 5 + 3, none⟩ = some (.int .i64 (xs[i]).Flushed) ∧ w.cell? ⟨g, off + i * 5 + 4, none⟩ = some (.slice A1 (xs[i]).Tail.length c1) := by
  obtain ⟨g, off, d, G, e, hg, _, ⟨A1, c1, F1, rfl, rfl, hw, s1⟩, _, hc⟩ := Rep.sl_at h i hi
  exact ⟨g, off, A1, c1, _, e, hg, hw, s1, hc 0 _ rfl, hc 1 _ rfl, hc 2 _ rfl, hc 3 _ rfl, hc 4 _ rfl⟩

def wtLog (x : DLog) : Nat := x.Tail.length
def wtLogS (xs : List DLog) : Nat := xs.length + (xs.map wtLog).sum

theorem cells_Log (w : World) (g o : Nat) (v0 v1 v2 v3 v4 : Value) : (((((w.setCell ⟨g, o, none⟩ v0).setCell ⟨g, o + 1, none⟩ v1).setCell ⟨g, o + 2, none⟩ v2).setCell ⟨g, o + 3, none⟩ v3).setCell ⟨g, o + 4, none⟩ v4) = w.setCells g o [v0, v1, v2, v3, v4] := rfl

theorem eqLog_calls (v : Value) (x : DLog) (F : List Nat) (u : Value) (y : DLog) (G : List Nat) (w : World) (h : Rep.Log.V w v x F) (k : Rep.Log.V w u y G) :
    Calls Try.prog 46 #[v, u] w fun e w' => e = .returned (.bool (decide (x = y))) ∧ Ext w w' := by
  obtain ⟨_, ⟨A1, c1, F1, rfl, rfl, hw, s1⟩, rfl⟩ := h
  obtain ⟨_, ⟨B1, d1, G1, rfl, rfl, hv, t1⟩, rfl⟩ := k
  have hu_impl_Log := Try.underlying67
  show Calls _ _ #[.agg #[_, _, _, _, _], .agg #[_, _, _, _, _]] _ _
  go_enter Try.func46, Try.ntmps46
  go_wp2_with fail
  all_goals try (go_ret; exact ⟨ret_bool (by symm; rw [decide_eq_false_iff_not]; rintro rfl; exact absurd ‹(_ != _) = true› (by simp)), ((alloc_ext _ _).alloc _)⟩)
  have E_Sectors := Lib.hid (WalkArith.int_eq' (by assumption : (x.Sectors != y.Sectors) = false))
  have E_Epoch := Lib.hid (WalkArith.int_eq' (by assumption : (x.Epoch != y.Epoch) = false))
  have E_End := Lib.hid (WalkArith.int_eq' (by assumption : (x.End != y.End) = false))
  have E_Flushed := Lib.hid (WalkArith.int_eq' (by assumption : (x.Flushed != y.Flushed) = false))
  refine (eqByteS_calls _ _ _ _ _ _ _ _ _ (Rep.sl_ext s1 ((alloc_ext _ _).alloc _)) (Rep.sl_ext t1 ((alloc_ext _ _).alloc _))).mono ?_
  rintro e w1 ⟨rfl, hO1⟩
  have HE1 := Lib.hid (Only.ext ((alloc_ext w _).alloc _) hO1)
  have HX1 := Lib.hid (hO1)
  obtain ⟨hc1, hf1⟩ := bcell HX1.out
  clear hO1
  by_cases q1 : x.Tail = y.Tail
  rotate_left
  · have b1 : decide (x.Tail = y.Tail) = false := by simp [q1]
    have Q1 := Lib.hid q1
    clear q1
    go_wp2_with fail
    go_ret
    exact ⟨ret_bool (by symm; rw [decide_eq_false_iff_not]; rintro rfl; exact Q1.out rfl), HE1.out⟩
  have b1 : decide (x.Tail = y.Tail) = true := by simp [q1]
  have E_Tail := Lib.hid q1
  clear q1
  go_wp2_with fail
  go_ret
  exact ⟨ret_bool (by symm; rw [decide_eq_true_iff]; cases x; cases y; simp only [DLog.mk.injEq]; exact ⟨E_Sectors.out, E_Epoch.out, E_End.out, E_Flushed.out, E_Tail.out⟩), HE1.out⟩

def ctTopLog (x : DLog) : Nat := x.Tail.length
theorem ctTopLog_wt (x : DLog) : ctTopLog x ≤ 64 * wtLog x := by
  simp only [ctTopLog, wtLog]
  omega
def mkTopLog (k : Int) (x : DLog) : DLog := ⟨x.Sectors, x.Epoch, x.End, x.Flushed, mkB (k) x.Tail⟩

theorem markLog_at (x : DLog) (A1 : Option Addr) (c1 : Nat) (F1 : List Nat) (k : Int) (w : World) (s1 : (Rep.int .u8).sl w A1 c1 x.Tail F1) (hn : (F1).Nodup) (hu : Unfr w (F1)) (h0 : 0 ≤ k) (hk : k + ctTopLog x ≤ 4611686018427387904) :
    Calls Try.prog 47 #[.agg #[.int .i64 x.Sectors, .int .i64 x.Epoch, .int .i64 x.End, .int .i64 x.Flushed, .slice A1 x.Tail.length c1], .int .i64 k] w fun e w' => e = .returned (.int .i64 (k + ctTopLog x)) ∧ ((Rep.int .u8).sl w' A1 c1 (mkTopLog k x).Tail F1) ∧ Only (F1) w w' ∧ Unfr w' (F1) := by
  have hlF : ∀ g ∈ F1, g < w.heap.size := by
    intro g hg
    exact Rep.sl_lt s1 g hg
  have n1 := hn
  unfold ctTopLog at hk
  simp only [mkTopLog]
  have hu_impl_Log := Try.underlying67
  go_enter Try.func47, Try.ntmps47
  go_wp2_with fail
  have HF0 := Lib.hid (Box.start hlF hu #[.int .i64 x.Sectors, .int .i64 x.Epoch, .int .i64 x.End, .int .i64 x.Flushed, .slice A1 x.Tail.length c1] 67)
  replace s1 := Rep.sl_ext s1 (alloc_ext w (.cells #[.int .i64 x.Sectors, .int .i64 x.Epoch, .int .i64 x.End, .int .i64 x.Flushed, .slice A1 x.Tail.length c1] 67))
  refine (markByteS_calls _ _ _ _ _ _ s1 n1 (fun b hb o => HF0.out.unfr b (by simp [hb]) o) (by omega) (by omega)).mono ?_
  rintro e w1 ⟨rfl, s1', hO, hu1⟩
  have HF1 := Lib.hid (HF0.out.call hO (fun b hb => (by simp [hb])) hu1)
  clear s1
  have s1 := s1'
  clear s1'
  have hb1 := fun o => HF1.out.cell o
  clear hO hu1
  go_wp2
  go_ret
  exact ⟨ret_int (by unfold ctTopLog; omega), s1, HF1.out.only, HF1.out.unfr⟩

theorem markLog_calls (v : Value) (x : DLog) (F : List Nat) (k : Int) (w : World) (h : Rep.Log.V w v x F) (hn : F.Nodup) (hu : Unfr w F) (h0 : 0 ≤ k) (hk : k + ctTopLog x ≤ 4611686018427387904) :
    Calls Try.prog 47 #[v, .int .i64 k] w fun e w' => e = .returned (.int .i64 (k + ctTopLog x)) ∧ Rep.Log.V w' v (mkTopLog k x) F ∧ Only F w w' ∧ Unfr w' F := by
  obtain ⟨_, ⟨A1, c1, F1, rfl, rfl, hw, s1⟩, rfl⟩ := h
  refine (markLog_at x _ _ _ k w s1 hn hu h0 hk).mono ?_
  rintro e w1 ⟨rfl, s1', hO, hu1⟩
  exact ⟨rfl, ⟨_, ⟨A1, c1, _, (by simp [mkB_len, mkTopLog]), rfl, (by first | trivial | simpa [wfLog, mkTopLog] using hw), s1'⟩, rfl⟩, hO, hu1⟩

theorem heldLog_calls (v : Value) (x : DLog) (F : List Nat) (k : Int) (w : World) (h : Rep.Log.V w v (mkTopLog k x) F) (h0 : 0 ≤ k) (hk : k + ctTopLog x ≤ 4611686018427387904) :
    Calls Try.prog 48 #[v, .int .i64 k] w fun e w' => e = .returned (.int .i64 (k + ctTopLog x)) ∧ Ext w w' := by
  obtain ⟨_, ⟨A1, c1, F1, rfl, rfl, hw, s1⟩, rfl⟩ := h
  unfold ctTopLog at hk
  have hu_impl_Log := Try.underlying67
  show Calls _ _ #[.agg #[_, _, _, _, _], _] _ _
  simp only [mkB_len, mkTopLog] at s1
  simp only [mkB_len, mkTopLog]
  go_enter Try.func48, Try.ntmps48
  go_wp2_with fail
  refine (heldByteS_calls _ _ _ _ _ _ (Rep.sl_ext s1 (alloc_ext _ _)) (by omega) (by omega)).mono ?_
  rintro e w1 ⟨rfl, hO1⟩
  have HE1 := Lib.hid (Only.ext (alloc_ext w _) hO1)
  have HX1 := Lib.hid (hO1)
  obtain ⟨hc1, hf1⟩ := bcell HX1.out
  clear hO1
  go_wp2
  go_ret
  exact ⟨ret_int (by unfold ctTopLog; omega), HE1.out⟩

end Go.Proofs.Ytdjcfcgkldokgaa
