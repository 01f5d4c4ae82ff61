/- PageResult: the data, how they lie in cells, and the laws' own functions over them. Printed by gen_fam.py, a program of this session. -/
import Derived.Test.YtghgjddiheebeaaDoorMF0
import Derived.StillTailTactics
namespace Go.Proofs.YtghgjddiheebeaaDoor
open Go.RowKit
set_option linter.unusedSimpArgs false
set_option linter.unusedVariables false
set_option maxRecDepth 100000
set_option maxHeartbeats 8000000

structure DPageResult where
  Code : Int
  Page : List Int
  deriving DecidableEq

def wfPageResult (x : DPageResult) : Prop := (Lit.int .i64 x.Code).wf = true

def Rep.PageResult : Rep DPageResult where
  sz := 2
  R := fun w x cs F => ∃ (A1 : Option Addr) (c1 : Nat) (F1 : List Nat), cs = [.int .i64 x.Code, .slice A1 x.Page.length c1] ∧ F = F1 ∧ wfPageResult x ∧ (Rep.int .u8).sl w A1 c1 x.Page F1
  val := fun | [a0, a1] => .agg #[a0, a1] | _ => undef
  len := by rintro w x cs F ⟨A1, c1, F1, rfl, -⟩; rfl
  lt := by
    rintro w x cs F ⟨A1, c1, F1, -, rfl, -, s1⟩ g hg
    exact Rep.sl_lt s1 g hg
  keep := by
    rintro w w' x cs F ⟨A1, c1, F1, rfl, rfl, hw, s1⟩ hk
    exact ⟨A1, c1, _, rfl, rfl, hw, Rep.sl_keep s1 (fun b hb => hk b (by simp [hb]))⟩

theorem val_PageResult : ∀ (l : List Value), l.length = 2 → Rep.PageResult.val l = .agg ⟨l⟩
  | [_, _], _ => rfl

theorem sl_PageResult {w : World} {A : Option Addr} {c : Nat} {xs : List DPageResult} {F : List Nat} (h : Rep.PageResult.sl w A c xs F) (i : Nat) (hi : i < xs.length) :
    ∃ (g off : Nat) (A1 : Option Addr) (c1 : Nat) (F1 : List Nat), A = some ⟨g, off, none⟩ ∧ g < w.heap.size ∧ wfPageResult (xs[i]) ∧ (Rep.int .u8).sl w A1 c1 (xs[i]).Page F1 ∧
      w.cell? ⟨g, off + i * 2, none⟩ = some (.int .i64 (xs[i]).Code) ∧ w.cell? ⟨g, off + i * 2 + 1, none⟩ = some (.slice A1 (xs[i]).Page.length c1) := by
  obtain ⟨g, off, d, G, e, hg, _, ⟨A1, c1, F1, rfl, rfl, hw, s1⟩, _, hc⟩ := Rep.sl_at h i hi
  exact ⟨g, off, A1, c1, _, e, hg, hw, s1, hc 0 _ rfl, hc 1 _ rfl⟩

def wtPageResult (x : DPageResult) : Nat := x.Page.length
def wtPageResultS (xs : List DPageResult) : Nat := xs.length + (xs.map wtPageResult).sum

theorem cells_PageResult (w : World) (g o : Nat) (v0 v1 : Value) : ((w.setCell ⟨g, o, none⟩ v0).setCell ⟨g, o + 1, none⟩ v1) = w.setCells g o [v0, v1] := rfl

theorem eqPageResult_calls (v : Value) (x : DPageResult) (F : List Nat) (u : Value) (y : DPageResult) (G : List Nat) (w : World) (h : Rep.PageResult.V w v x F) (k : Rep.PageResult.V w u y G) :
    Calls Tryd.prog 21 #[v, u] w fun e w' => e = .returned (.bool (decide (x = y))) ∧ Ext w w' := by
  obtain ⟨_, ⟨A1, c1, F1, rfl, rfl, hw, s1⟩, rfl⟩ := h
  obtain ⟨_, ⟨B1, d1, G1, rfl, rfl, hv, t1⟩, rfl⟩ := k
  have hu_impl_PageResult := Tryd.underlying31
  show Calls _ _ #[.agg #[_, _], .agg #[_, _]] _ _
  go_enter Tryd.func21, Tryd.ntmps21
  go_wp2_with fail
  all_goals try (go_ret; exact ⟨ret_bool (by symm; rw [decide_eq_false_iff_not]; rintro rfl; exact absurd ‹(_ != _) = true› (by simp)), ((alloc_ext _ _).alloc _)⟩)
  have E_Code := Lib.hid (WalkArith.int_eq' (by assumption : (x.Code != y.Code) = false))
  refine (eqByteS_calls _ _ _ _ _ _ _ _ _ (Rep.sl_ext s1 ((alloc_ext _ _).alloc _)) (Rep.sl_ext t1 ((alloc_ext _ _).alloc _))).mono ?_
  rintro e w1 ⟨rfl, hO1⟩
  have HE1 := Lib.hid (Only.ext ((alloc_ext w _).alloc _) hO1)
  have HX1 := Lib.hid (hO1)
  obtain ⟨hc1, hf1⟩ := bcell HX1.out
  clear hO1
  by_cases q1 : x.Page = y.Page
  rotate_left
  · have b1 : decide (x.Page = y.Page) = false := by simp [q1]
    have Q1 := Lib.hid q1
    clear q1
    go_wp2_with fail
    go_ret
    exact ⟨ret_bool (by symm; rw [decide_eq_false_iff_not]; rintro rfl; exact Q1.out rfl), HE1.out⟩
  have b1 : decide (x.Page = y.Page) = true := by simp [q1]
  have E_Page := Lib.hid q1
  clear q1
  go_wp2_with fail
  go_ret
  exact ⟨ret_bool (by symm; rw [decide_eq_true_iff]; cases x; cases y; simp only [DPageResult.mk.injEq]; exact ⟨E_Code.out, E_Page.out⟩), HE1.out⟩

def ctTopPageResult (x : DPageResult) : Nat := x.Page.length
theorem ctTopPageResult_wt (x : DPageResult) : ctTopPageResult x ≤ 64 * wtPageResult x := by
  simp only [ctTopPageResult, wtPageResult]
  omega
def mkTopPageResult (k : Int) (x : DPageResult) : DPageResult := ⟨x.Code, mkB (k) x.Page⟩

theorem markPageResult_at (x : DPageResult) (A1 : Option Addr) (c1 : Nat) (F1 : List Nat) (k : Int) (w : World) (s1 : (Rep.int .u8).sl w A1 c1 x.Page F1) (hn : (F1).Nodup) (hu : Unfr w (F1)) (h0 : 0 ≤ k) (hk : k + ctTopPageResult x ≤ 4611686018427387904) :
    Calls Tryd.prog 24 #[.agg #[.int .i64 x.Code, .slice A1 x.Page.length c1], .int .i64 k] w fun e w' => e = .returned (.int .i64 (k + ctTopPageResult x)) ∧ ((Rep.int .u8).sl w' A1 c1 (mkTopPageResult k x).Page F1) ∧ Only (F1) w w' ∧ Unfr w' (F1) := by
  have hlF : ∀ g ∈ F1, g < w.heap.size := by
    intro g hg
    exact Rep.sl_lt s1 g hg
  have n1 := hn
  unfold ctTopPageResult at hk
  simp only [mkTopPageResult]
  have hu_impl_PageResult := Tryd.underlying31
  go_enter Tryd.func24, Tryd.ntmps24
  go_wp2_with fail
  have HF0 := Lib.hid (Box.start hlF hu #[.int .i64 x.Code, .slice A1 x.Page.length c1] 31)
  replace s1 := Rep.sl_ext s1 (alloc_ext w (.cells #[.int .i64 x.Code, .slice A1 x.Page.length c1] 31))
  refine (markByteS_calls _ _ _ _ _ _ s1 n1 (fun b hb o => HF0.out.unfr b (by simp [hb]) o) (by omega) (by omega)).mono ?_
  rintro e w1 ⟨rfl, s1', hO, hu1⟩
  have HF1 := Lib.hid (HF0.out.call hO (fun b hb => (by simp [hb])) hu1)
  clear s1
  have s1 := s1'
  clear s1'
  have hb1 := fun o => HF1.out.cell o
  clear hO hu1
  go_wp2
  go_ret
  exact ⟨ret_int (by unfold ctTopPageResult; omega), s1, HF1.out.only, HF1.out.unfr⟩

theorem markPageResult_calls (v : Value) (x : DPageResult) (F : List Nat) (k : Int) (w : World) (h : Rep.PageResult.V w v x F) (hn : F.Nodup) (hu : Unfr w F) (h0 : 0 ≤ k) (hk : k + ctTopPageResult x ≤ 4611686018427387904) :
    Calls Tryd.prog 24 #[v, .int .i64 k] w fun e w' => e = .returned (.int .i64 (k + ctTopPageResult x)) ∧ Rep.PageResult.V w' v (mkTopPageResult k x) F ∧ Only F w w' ∧ Unfr w' F := by
  obtain ⟨_, ⟨A1, c1, F1, rfl, rfl, hw, s1⟩, rfl⟩ := h
  refine (markPageResult_at x _ _ _ k w s1 hn hu h0 hk).mono ?_
  rintro e w1 ⟨rfl, s1', hO, hu1⟩
  exact ⟨rfl, ⟨_, ⟨A1, c1, _, (by simp [mkB_len, mkTopPageResult]), rfl, (by first | trivial | simpa [wfPageResult, mkTopPageResult] using hw), s1'⟩, rfl⟩, hO, hu1⟩

theorem heldPageResult_calls (v : Value) (x : DPageResult) (F : List Nat) (k : Int) (w : World) (h : Rep.PageResult.V w v (mkTopPageResult k x) F) (h0 : 0 ≤ k) (hk : k + ctTopPageResult x ≤ 4611686018427387904) :
    Calls Tryd.prog 25 #[v, .int .i64 k] w fun e w' => e = .returned (.int .i64 (k + ctTopPageResult x)) ∧ Ext w w' := by
  obtain ⟨_, ⟨A1, c1, F1, rfl, rfl, hw, s1⟩, rfl⟩ := h
  unfold ctTopPageResult at hk
  have hu_impl_PageResult := Tryd.underlying31
  show Calls _ _ #[.agg #[_, _], _] _ _
  simp only [mkB_len, mkTopPageResult] at s1
  simp only [mkB_len, mkTopPageResult]
  go_enter Tryd.func25, Tryd.ntmps25
  go_wp2_with fail
  refine (heldByteS_calls _ _ _ _ _ _ (Rep.sl_ext s1 (alloc_ext _ _)) (by omega) (by omega)).mono ?_
  rintro e w1 ⟨rfl, hO1⟩
  have HE1 := Lib.hid (Only.ext (alloc_ext w _) hO1)
  have HX1 := Lib.hid (hO1)
  obtain ⟨hc1, hf1⟩ := bcell HX1.out
  clear hO1
  go_wp2
  go_ret
  exact ⟨ret_int (by unfold ctTopPageResult; omega), HE1.out⟩

end Go.Proofs.YtghgjddiheebeaaDoor
