/- LockResult: the data, how they lie in cells, and the laws' own functions over them. Printed by gen_fam.py, a program of this session. -/
import Derived.Test.YtildfjlekplgjaaFLock
import Derived.StillTailTactics
namespace Go.Proofs.Ytildfjlekplgjaa
open Go.RowKit
set_option linter.unusedSimpArgs false
set_option linter.unusedVariables false
set_option maxRecDepth 100000
set_option maxHeartbeats 8000000

structure DLockResult where
  Code : Int
  Locks : List DLock
  deriving DecidableEq

def wfLockResult (x : DLockResult) : Prop := (Lit.int .i64 x.Code).wf = true

def Rep.LockResult : Rep DLockResult where
  sz := 2
  R := fun w x cs F => ∃ (A1 : Option Addr) (c1 : Nat) (F1 : List Nat), cs = [.int .i64 x.Code, .slice A1 x.Locks.length c1] ∧ F = F1 ∧ wfLockResult x ∧ Rep.Lock.sl w A1 c1 x.Locks F1
  val := fun | [a0, a1] => .agg #[a0, a1] | _ => undef
  len := by rintro w x cs F ⟨A1, c1, F1, rfl, -⟩; rfl
  lt := by
    rintro w x cs F ⟨A1, c1, F1, -, rfl, -, s1⟩ g hg
    exact Rep.sl_lt s1 g hg
  keep := by
    rintro w w' x cs F ⟨A1, c1, F1, rfl, rfl, hw, s1⟩ hk
    exact ⟨A1, c1, _, rfl, rfl, hw, Rep.sl_keep s1 (fun b hb => hk b (by simp [hb]))⟩

theorem val_LockResult : ∀ (l : List Value), l.length = 2 → Rep.LockResult.val l = .agg ⟨l⟩
  | [_, _], _ => rfl

theorem sl_LockResult {w : World} {A : Option Addr} {c : Nat} {xs : List DLockResult} {F : List Nat} (h : Rep.LockResult.sl w A c xs F) (i : Nat) (hi : i < xs.length) :
    ∃ (g off : Nat) (A1 : Option Addr) (c1 : Nat) (F1 : List Nat), A = some ⟨g, off, none⟩ ∧ g < w.heap.size ∧ wfLockResult (xs[i]) ∧ Rep.Lock.sl w A1 c1 (xs[i]).Locks F1 ∧
      w.cell? ⟨g, off + i * 2, none⟩ = some (.int .i64 (xs[i]).Code) ∧ w.cell? ⟨g, off + i * 2 + 1, none⟩ = some (.slice A1 (xs[i]).Locks.length c1) := by
  obtain ⟨g, off, d, G, e, hg, _, ⟨A1, c1, F1, rfl, rfl, hw, s1⟩, _, hc⟩ := Rep.sl_at h i hi
  exact ⟨g, off, A1, c1, _, e, hg, hw, s1, hc 0 _ rfl, hc 1 _ rfl⟩

def wtLockResult (x : DLockResult) : Nat := x.Locks.length
def wtLockResultS (xs : List DLockResult) : Nat := xs.length + (xs.map wtLockResult).sum

theorem cells_LockResult (w : World) (g o : Nat) (v0 v1 : Value) : ((w.setCell ⟨g, o, none⟩ v0).setCell ⟨g, o + 1, none⟩ v1) = w.setCells g o [v0, v1] := rfl

theorem eqLockResult_calls (v : Value) (x : DLockResult) (F : List Nat) (u : Value) (y : DLockResult) (G : List Nat) (w : World) (h : Rep.LockResult.V w v x F) (k : Rep.LockResult.V w u y G) :
    Calls Try.prog 12 #[v, u] w fun e w' => e = .returned (.bool (decide (x = y))) ∧ Ext w w' := by
  obtain ⟨_, ⟨A1, c1, F1, rfl, rfl, hw, s1⟩, rfl⟩ := h
  obtain ⟨_, ⟨B1, d1, G1, rfl, rfl, hv, t1⟩, rfl⟩ := k
  have hu_impl_LockResult := Try.underlying26
  show Calls _ _ #[.agg #[_, _], .agg #[_, _]] _ _
  go_enter Try.func12, Try.ntmps12
  go_wp2_with fail
  all_goals try (go_ret; exact ⟨ret_bool (by symm; rw [decide_eq_false_iff_not]; rintro rfl; exact absurd ‹(_ != _) = true› (by simp)), ((alloc_ext _ _).alloc _)⟩)
  have E_Code := Lib.hid (WalkArith.int_eq' (by assumption : (x.Code != y.Code) = false))
  refine (eqLockS_calls _ _ _ _ _ _ _ _ _ (Rep.sl_ext s1 ((alloc_ext _ _).alloc _)) (Rep.sl_ext t1 ((alloc_ext _ _).alloc _))).mono ?_
  rintro e w1 ⟨rfl, hO1⟩
  have HE1 := Lib.hid (Only.ext ((alloc_ext w _).alloc _) hO1)
  have HX1 := Lib.hid (hO1)
  obtain ⟨hc1, hf1⟩ := bcell HX1.out
  clear hO1
  by_cases q1 : x.Locks = y.Locks
  rotate_left
  · have b1 : decide (x.Locks = y.Locks) = false := by simp [q1]
    have Q1 := Lib.hid q1
    clear q1
    go_wp2_with fail
    go_ret
    exact ⟨ret_bool (by symm; rw [decide_eq_false_iff_not]; rintro rfl; exact Q1.out rfl), HE1.out⟩
  have b1 : decide (x.Locks = y.Locks) = true := by simp [q1]
  have E_Locks := Lib.hid q1
  clear q1
  go_wp2_with fail
  go_ret
  exact ⟨ret_bool (by symm; rw [decide_eq_true_iff]; cases x; cases y; simp only [DLockResult.mk.injEq]; exact ⟨E_Code.out, E_Locks.out⟩), HE1.out⟩

def ctTopLockResult (x : DLockResult) : Nat := ctLockS x.Locks
theorem ctTopLockResult_wt (x : DLockResult) : ctTopLockResult x ≤ 64 * wtLockResult x := by
  have := ctLockS_wt (x.Locks)
  simp only [ctTopLockResult, wtLockResult]
  omega
def mkTopLockResult (k : Int) (x : DLockResult) : DLockResult := ⟨x.Code, mkLockS (k) x.Locks⟩

theorem markLockResult_at (x : DLockResult) (A1 : Option Addr) (c1 : Nat) (F1 : List Nat) (k : Int) (w : World) (s1 : Rep.Lock.sl w A1 c1 x.Locks F1) (hn : (F1).Nodup) (hu : Unfr w (F1)) (h0 : 0 ≤ k) (hk : k + ctTopLockResult x ≤ 4611686018427387904) :
    Calls Try.prog 15 #[.agg #[.int .i64 x.Code, .slice A1 x.Locks.length c1], .int .i64 k] w fun e w' => e = .returned (.int .i64 (k + ctTopLockResult x)) ∧ (Rep.Lock.sl w' A1 c1 (mkTopLockResult k x).Locks F1) ∧ Only (F1) w w' ∧ Unfr w' (F1) := by
  have hlF : ∀ g ∈ F1, g < w.heap.size := by
    intro g hg
    exact Rep.sl_lt s1 g hg
  have n1 := hn
  unfold ctTopLockResult at hk
  simp only [mkTopLockResult]
  have hu_impl_LockResult := Try.underlying26
  go_enter Try.func15, Try.ntmps15
  go_wp2_with fail
  have HF0 := Lib.hid (Box.start hlF hu #[.int .i64 x.Code, .slice A1 x.Locks.length c1] 26)
  replace s1 := Rep.sl_ext s1 (alloc_ext w (.cells #[.int .i64 x.Code, .slice A1 x.Locks.length c1] 26))
  refine (markLockS_calls _ _ _ _ _ _ s1 n1 (fun b hb o => HF0.out.unfr b (by simp [hb]) o) (by omega) (by omega)).mono ?_
  rintro e w1 ⟨rfl, s1', hO, hu1⟩
  have HF1 := Lib.hid (HF0.out.call hO (fun b hb => (by simp [hb])) hu1)
  clear s1
  have s1 := s1'
  clear s1'
  have hb1 := fun o => HF1.out.cell o
  clear hO hu1
  go_wp2
  go_ret
  exact ⟨ret_int (by unfold ctTopLockResult; omega), s1, HF1.out.only, HF1.out.unfr⟩

theorem markLockResult_calls (v : Value) (x : DLockResult) (F : List Nat) (k : Int) (w : World) (h : Rep.LockResult.V w v x F) (hn : F.Nodup) (hu : Unfr w F) (h0 : 0 ≤ k) (hk : k + ctTopLockResult x ≤ 4611686018427387904) :
    Calls Try.prog 15 #[v, .int .i64 k] w fun e w' => e = .returned (.int .i64 (k + ctTopLockResult x)) ∧ Rep.LockResult.V w' v (mkTopLockResult k x) F ∧ Only F w w' ∧ Unfr w' F := by
  obtain ⟨_, ⟨A1, c1, F1, rfl, rfl, hw, s1⟩, rfl⟩ := h
  refine (markLockResult_at x _ _ _ k w s1 hn hu h0 hk).mono ?_
  rintro e w1 ⟨rfl, s1', hO, hu1⟩
  exact ⟨rfl, ⟨_, ⟨A1, c1, _, (by simp [mkLockS_len, mkTopLockResult]), rfl, (by first | trivial | simpa [wfLockResult, mkTopLockResult] using hw), s1'⟩, rfl⟩, hO, hu1⟩

theorem heldLockResult_calls (v : Value) (x : DLockResult) (F : List Nat) (k : Int) (w : World) (h : Rep.LockResult.V w v (mkTopLockResult k x) F) (h0 : 0 ≤ k) (hk : k + ctTopLockResult x ≤ 4611686018427387904) :
    Calls Try.prog 16 #[v, .int .i64 k] w fun e w' => e = .returned (.int .i64 (k + ctTopLockResult x)) ∧ Ext w w' := by
  obtain ⟨_, ⟨A1, c1, F1, rfl, rfl, hw, s1⟩, rfl⟩ := h
  unfold ctTopLockResult at hk
  have hu_impl_LockResult := Try.underlying26
  show Calls _ _ #[.agg #[_, _], _] _ _
  simp only [mkLockS_len, mkTopLockResult] at s1
  simp only [mkLockS_len, mkTopLockResult]
  go_enter Try.func16, Try.ntmps16
  go_wp2_with fail
  refine (heldLockS_calls _ _ _ _ _ _ (Rep.sl_ext s1 (alloc_ext _ _)) (by omega) (by omega)).mono ?_
  rintro e w1 ⟨rfl, hO1⟩
  have HE1 := Lib.hid (Only.ext (alloc_ext w _) hO1)
  have HX1 := Lib.hid (hO1)
  obtain ⟨hc1, hf1⟩ := bcell HX1.out
  clear hO1
  go_wp2
  go_ret
  exact ⟨ret_int (by unfold ctTopLockResult; omega), HE1.out⟩

end Go.Proofs.Ytildfjlekplgjaa
