/- PoolResult: the data, how they lie in cells, and the laws' own functions over them. Printed by gen_fam.py, a program of this session. -/
import Derived.Test.YtjjdainnofnmcaaFPool
import Derived.StillTailTactics
namespace Go.Proofs.Ytjjdainnofnmcaa
open Go.RowKit
set_option linter.unusedSimpArgs false
set_option linter.unusedVariables false

structure DPoolResult where
  Code : Int
  Frame : Int
  Pool : DPool
  deriving DecidableEq

def wfPoolResult (x : DPoolResult) : Prop := (Lit.int .i64 x.Code).wf = true ∧ (Lit.int .i64 x.Frame).wf = true ∧ (Lit.int .i64 x.Pool.Hand).wf = true

def Rep.PoolResult : Rep DPoolResult where
  sz := 4
  R := fun w x cs F => ∃ (A1 : Option Addr) (c1 : Nat) (F1 : List Nat), cs = [.int .i64 x.Code, .int .i64 x.Frame, .slice A1 x.Pool.Frames.length c1, .int .i64 x.Pool.Hand] ∧ F = F1 ∧ wfPoolResult x ∧ Rep.Frame.sl w A1 c1 x.Pool.Frames F1
  val := fun | [a0, a1, a2, a3] => .agg #[a0, a1, a2, a3] | _ => undef
  len := by rintro w x cs F ⟨A1, c1, F1, rfl, -⟩; rfl
  lt := by
    rintro w x cs F ⟨A1, c1, F1, -, rfl, -, s1⟩ g hg
    exact Rep.sl_lt s1 g hg
  keep := by
    rintro w w' x cs F ⟨A1, c1, F1, rfl, rfl, hw, s1⟩ hk
    exact ⟨A1, c1, _, rfl, rfl, hw, Rep.sl_keep s1 (fun b hb => hk b (by simp [hb]))⟩

theorem val_PoolResult : ∀ (l : List Value), l.length = 4 → Rep.PoolResult.val l = .agg ⟨l⟩
  | [_, _, _, _], _ => rfl

theorem sl_PoolResult {w : World} {A : Option Addr} {c : Nat} {xs : List DPoolResult} {F : List Nat} (h : Rep.PoolResult.sl w A c xs F) (i : Nat) (hi : i < xs.length) :
    ∃ (g off : Nat) (A1 : Option Addr) (c1 : Nat) (F1 : List Nat), A = some ⟨g, off, none⟩ ∧ g < w.heap.size ∧ wfPoolResult (xs[i]) ∧ Rep.Frame.sl w A1 c1 (xs[i]).Pool.Frames F1 ∧
      w.cell? ⟨g, off + i * 4, none⟩ = some (.int .i64 (xs[i]).Code) ∧ w.cell? ⟨g, off + i * 4 + 1, none⟩ = some (.int .i64 (xs[i]).Frame) ∧ w.cell? ⟨g, off + i * 4 + 2, none⟩ = some (.slice A1 (xs[i]).Pool.Frames.length c1) ∧ w.cell? ⟨g, off + i * 4 + 3, none⟩ = some (.int .i64 (xs[i]).Pool.Hand) := by
  obtain ⟨g, off, d, G, e, hg, _, ⟨A1, c1, F1, rfl, rfl, hw, s1⟩, _, hc⟩ := Rep.sl_at h i hi
  exact ⟨g, off, A1, c1, _, e, hg, hw, s1, hc 0 _ rfl, hc 1 _ rfl, hc 2 _ rfl, hc 3 _ rfl⟩

def wtPoolResult (x : DPoolResult) : Nat := wtPool x.Pool
def wtPoolResultS (xs : List DPoolResult) : Nat := xs.length + (xs.map wtPoolResult).sum

theorem cells_PoolResult (w : World) (g o : Nat) (v0 v1 v2 v3 : Value) : ((((w.setCell ⟨g, o, none⟩ v0).setCell ⟨g, o + 1, none⟩ v1).setCell ⟨g, o + 2, none⟩ v2).setCell ⟨g, o + 3, none⟩ v3) = w.setCells g o [v0, v1, v2, v3] := rfl

theorem eqPoolResult_calls (v : Value) (x : DPoolResult) (F : List Nat) (u : Value) (y : DPoolResult) (G : List Nat) (w : World) (h : Rep.PoolResult.V w v x F) (k : Rep.PoolResult.V w u y G) :
    Calls Try.prog 29 #[v, u] w fun e w' => e = .returned (.bool (decide (x = y))) ∧ Ext w w' := by
  obtain ⟨_, ⟨A1, c1, F1, rfl, rfl, hw, s1⟩, rfl⟩ := h
  obtain ⟨_, ⟨B1, d1, G1, rfl, rfl, hv, t1⟩, rfl⟩ := k
  have hu_impl_PoolResult := Try.underlying40
  show Calls _ _ #[.agg #[_, _, _, _], .agg #[_, _, _, _]] _ _
  go_enter Try.func29, Try.ntmps29
  go_wp2_with fail
  all_goals try (go_ret; exact ⟨ret_bool (by symm; rw [decide_eq_false_iff_not]; rintro rfl; exact absurd ‹(_ != _) = true› (by simp)), ((alloc_ext _ _).alloc _)⟩)
  have E_Code := Lib.hid (WalkArith.int_eq' (by assumption : (x.Code != y.Code) = false))
  have E_Frame := Lib.hid (WalkArith.int_eq' (by assumption : (x.Frame != y.Frame) = false))
  refine (eqPool_calls _ _ _ _ _ _ _ ⟨_, ⟨A1, c1, _, rfl, rfl, (by have := hw; simp only [wfPoolResult, wfPool] at this ⊢; simp only [this, and_self]), (Rep.sl_ext s1 ((alloc_ext _ _).alloc _))⟩, rfl⟩ ⟨_, ⟨B1, d1, _, rfl, rfl, (by have := hv; simp only [wfPoolResult, wfPool] at this ⊢; simp only [this, and_self]), (Rep.sl_ext t1 ((alloc_ext _ _).alloc _))⟩, rfl⟩).mono ?_
  rintro e w1 ⟨rfl, hO1⟩
  have HE1 := Lib.hid (Only.ext ((alloc_ext w _).alloc _) hO1)
  obtain ⟨hc1, hf1⟩ := bcell hO1
  clear hO1
  by_cases q1 : x.Pool = y.Pool
  rotate_left
  · have b1 : decide (x.Pool = y.Pool) = false := by simp [q1]
    have Q1 := Lib.hid q1
    clear q1
    go_wp2_with fail
    go_ret
    exact ⟨ret_bool (by symm; rw [decide_eq_false_iff_not]; rintro rfl; exact Q1.out rfl), HE1.out⟩
  have b1 : decide (x.Pool = y.Pool) = true := by simp [q1]
  have E_Pool := Lib.hid q1
  clear q1
  go_wp2_with fail
  go_ret
  exact ⟨ret_bool (by symm; rw [decide_eq_true_iff]; cases x; cases y; simp only [DPoolResult.mk.injEq]; exact ⟨E_Code.out, E_Frame.out, E_Pool.out⟩), HE1.out⟩

def ctTopPoolResult (x : DPoolResult) : Nat := ctTopPool x.Pool
theorem ctTopPoolResult_wt (x : DPoolResult) : ctTopPoolResult x ≤ 64 * wtPoolResult x := by
  have := ctFrameS_wt (x.Pool.Frames)
  simp only [ctTopPoolResult, ctTopPool, wtPoolResult, wtPool]
  omega
def mkTopPoolResult (k : Int) (x : DPoolResult) : DPoolResult := ⟨x.Code, x.Frame, mkTopPool (k) x.Pool⟩

theorem markPoolResult_at (x : DPoolResult) (A1 : Option Addr) (c1 : Nat) (F1 : List Nat) (k : Int) (w : World) (s1 : Rep.Frame.sl w A1 c1 x.Pool.Frames F1) (hn : (F1).Nodup) (hu : Unfr w (F1)) (h0 : 0 ≤ k) (hk : k + ctTopPoolResult x ≤ 4611686018427387904) :
    Calls Try.prog 33 #[.agg #[.int .i64 x.Code, .int .i64 x.Frame, .slice A1 x.Pool.Frames.length c1, .int .i64 x.Pool.Hand], .int .i64 k] w fun e w' => e = .returned (.int .i64 (k + ctTopPoolResult x)) ∧ (Rep.Frame.sl w' A1 c1 (mkTopPoolResult k x).Pool.Frames F1) ∧ Only (F1) w w' ∧ Unfr w' (F1) := by
  have hlF : ∀ g ∈ F1, g < w.heap.size := by
    intro g hg
    exact Rep.sl_lt s1 g hg
  have n1 := hn
  unfold ctTopPoolResult at hk
  simp only [mkTopPoolResult, mkTopPool]
  have hu_impl_PoolResult := Try.underlying40
  go_enter Try.func33, Try.ntmps33
  go_wp2_with fail
  have HF0 := Lib.hid (Box.start hlF hu #[.int .i64 x.Code, .int .i64 x.Frame, .slice A1 x.Pool.Frames.length c1, .int .i64 x.Pool.Hand] 40)
  replace s1 := Rep.sl_ext s1 (alloc_ext w (.cells #[.int .i64 x.Code, .int .i64 x.Frame, .slice A1 x.Pool.Frames.length c1, .int .i64 x.Pool.Hand] 40))
  refine (markPool_at x.Pool _ _ _ _ _ s1 n1 (fun b hb o => HF0.out.unfr b (by simp [hb]) o) (by omega) (by omega)).mono ?_
  rintro e w1 ⟨rfl, s1', hO, hu1⟩
  have HF1 := Lib.hid (HF0.out.call hO (fun b hb => (by simp [hb])) hu1)
  clear s1
  have s1 := s1'
  clear s1'
  have hb1 := fun o => HF1.out.cell o
  clear hO hu1
  go_wp2
  go_ret
  exact ⟨ret_int (by unfold ctTopPoolResult; omega), s1, HF1.out.only, HF1.out.unfr⟩

theorem markPoolResult_calls (v : Value) (x : DPoolResult) (F : List Nat) (k : Int) (w : World) (h : Rep.PoolResult.V w v x F) (hn : F.Nodup) (hu : Unfr w F) (h0 : 0 ≤ k) (hk : k + ctTopPoolResult x ≤ 4611686018427387904) :
    Calls Try.prog 33 #[v, .int .i64 k] w fun e w' => e = .returned (.int .i64 (k + ctTopPoolResult x)) ∧ Rep.PoolResult.V w' v (mkTopPoolResult k x) F ∧ Only F w w' ∧ Unfr w' F := by
  obtain ⟨_, ⟨A1, c1, F1, rfl, rfl, hw, s1⟩, rfl⟩ := h
  refine (markPoolResult_at x _ _ _ k w s1 hn hu h0 hk).mono ?_
  rintro e w1 ⟨rfl, s1', hO, hu1⟩
  exact ⟨rfl, ⟨_, ⟨A1, c1, _, (by simp [mkFrameS_len, mkTopPool, mkTopPoolResult]), rfl, (by simpa [wfPoolResult, mkTopPool, mkTopPoolResult] using hw), s1'⟩, rfl⟩, hO, hu1⟩

theorem heldPoolResult_calls (v : Value) (x : DPoolResult) (F : List Nat) (k : Int) (w : World) (h : Rep.PoolResult.V w v (mkTopPoolResult k x) F) (h0 : 0 ≤ k) (hk : k + ctTopPoolResult x ≤ 4611686018427387904) :
    Calls Try.prog 34 #[v, .int .i64 k] w fun e w' => e = .returned (.int .i64 (k + ctTopPoolResult x)) ∧ Ext w w' := by
  obtain ⟨_, ⟨A1, c1, F1, rfl, rfl, hw, s1⟩, rfl⟩ := h
  unfold ctTopPoolResult at hk
  have hu_impl_PoolResult := Try.underlying40
  show Calls _ _ #[.agg #[_, _, _, _], _] _ _
  simp only [mkFrameS_len, mkTopPool, mkTopPoolResult] at s1
  simp only [mkFrameS_len, mkTopPool, mkTopPoolResult]
  go_enter Try.func34, Try.ntmps34
  go_wp2_with fail
  refine (heldPool_calls _ x.Pool _ _ _ ⟨[.slice A1 x.Pool.Frames.length c1, .int .i64 x.Pool.Hand], ⟨A1, c1, _, (by simp [mkFrameS_len, mkTopPool]), rfl, (by have := hw; simp only [wfPoolResult, wfPool, mkTopPool, mkTopPoolResult] at this ⊢; simp only [this, and_self]), (Rep.sl_ext s1 (alloc_ext _ _))⟩, rfl⟩ (by omega) (by omega)).mono ?_
  rintro e w1 ⟨rfl, hO1⟩
  have HE1 := Lib.hid (Only.ext (alloc_ext w _) hO1)
  obtain ⟨hc1, hf1⟩ := bcell hO1
  clear hO1
  go_wp2
  go_ret
  exact ⟨ret_int (by unfold ctTopPoolResult; omega), HE1.out⟩

end Go.Proofs.Ytjjdainnofnmcaa
