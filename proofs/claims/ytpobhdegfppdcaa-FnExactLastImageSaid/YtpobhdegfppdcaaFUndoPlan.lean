/- UndoPlan: the data, how they lie in cells, and the laws' own functions over them. Printed by gen_fam.py, a program of this session. -/
import Derived.Test.YtpobhdegfppdcaaFUndoStep
import Derived.StillTailTactics
namespace Go.Proofs.Ytpobhdegfppdcaa
open Go.RowKit
set_option linter.unusedSimpArgs false
set_option linter.unusedVariables false
set_option maxRecDepth 100000
set_option maxHeartbeats 8000000

structure DUndoPlan where
  Code : Int
  Steps : List DUndoStep
  deriving DecidableEq

def wfUndoPlan (x : DUndoPlan) : Prop := (Lit.int .i64 x.Code).wf = true

def Rep.UndoPlan : Rep DUndoPlan where
  sz := 2
  R := fun w x cs F => ∃ (A1 : Option Addr) (c1 : Nat) (F1 : List Nat), cs = [.int .i64 x.Code, .slice A1 x.Steps.length c1] ∧ F = F1 ∧ wfUndoPlan x ∧ Rep.UndoStep.sl w A1 c1 x.Steps F1
  val := fun | [a0, a1] => .agg #[a0, a1] | _ => undef
  len := by rintro w x cs F ⟨A1, c1, F1, rfl, -⟩; rfl
  lt := by
    rintro w x cs F ⟨A1, c1, F1, -, rfl, -, s1⟩ g hg
    exact Rep.sl_lt s1 g hg
  keep := by
    rintro w w' x cs F ⟨A1, c1, F1, rfl, rfl, hw, s1⟩ hk
    exact ⟨A1, c1, _, rfl, rfl, hw, Rep.sl_keep s1 (fun b hb => hk b (by simp [hb]))⟩

theorem val_UndoPlan : ∀ (l : List Value), l.length = 2 → Rep.UndoPlan.val l = .agg ⟨l⟩
  | [_, _], _ => rfl

theorem sl_UndoPlan {w : World} {A : Option Addr} {c : Nat} {xs : List DUndoPlan} {F : List Nat} (h : Rep.UndoPlan.sl w A c xs F) (i : Nat) (hi : i < xs.length) :
    ∃ (g off : Nat) (A1 : Option Addr) (c1 : Nat) (F1 : List Nat), A = some ⟨g, off, none⟩ ∧ g < w.heap.size ∧ wfUndoPlan (xs[i]) ∧ Rep.UndoStep.sl w A1 c1 (xs[i]).Steps F1 ∧
      w.cell? ⟨g, off + i * 2, none⟩ = some (.int .i64 (xs[i]).Code) ∧ w.cell? ⟨g, off + i * 2 + 1, none⟩ = some (.slice A1 (xs[i]).Steps.length c1) := by
  obtain ⟨g, off, d, G, e, hg, _, ⟨A1, c1, F1, rfl, rfl, hw, s1⟩, _, hc⟩ := Rep.sl_at h i hi
  exact ⟨g, off, A1, c1, _, e, hg, hw, s1, hc 0 _ rfl, hc 1 _ rfl⟩

def wtUndoPlan (x : DUndoPlan) : Nat := x.Steps.length
def wtUndoPlanS (xs : List DUndoPlan) : Nat := xs.length + (xs.map wtUndoPlan).sum

theorem cells_UndoPlan (w : World) (g o : Nat) (v0 v1 : Value) : ((w.setCell ⟨g, o, none⟩ v0).setCell ⟨g, o + 1, none⟩ v1) = w.setCells g o [v0, v1] := rfl

theorem eqUndoPlan_calls (v : Value) (x : DUndoPlan) (F : List Nat) (u : Value) (y : DUndoPlan) (G : List Nat) (w : World) (h : Rep.UndoPlan.V w v x F) (k : Rep.UndoPlan.V w u y G) :
    Calls Try.prog 18 #[v, u] w fun e w' => e = .returned (.bool (decide (x = y))) ∧ Ext w w' := by
  obtain ⟨_, ⟨A1, c1, F1, rfl, rfl, hw, s1⟩, rfl⟩ := h
  obtain ⟨_, ⟨B1, d1, G1, rfl, rfl, hv, t1⟩, rfl⟩ := k
  have hu_impl_UndoPlan := Try.underlying39
  show Calls _ _ #[.agg #[_, _], .agg #[_, _]] _ _
  go_enter Try.func18, Try.ntmps18
  go_wp2_with fail
  all_goals try (go_ret; exact ⟨ret_bool (by symm; rw [decide_eq_false_iff_not]; rintro rfl; exact absurd ‹(_ != _) = true› (by simp)), ((alloc_ext _ _).alloc _)⟩)
  have E_Code := Lib.hid (WalkArith.int_eq' (by assumption : (x.Code != y.Code) = false))
  refine (eqUndoStepS_calls _ _ _ _ _ _ _ _ _ (Rep.sl_ext s1 ((alloc_ext _ _).alloc _)) (Rep.sl_ext t1 ((alloc_ext _ _).alloc _))).mono ?_
  rintro e w1 ⟨rfl, hO1⟩
  have HE1 := Lib.hid (Only.ext ((alloc_ext w _).alloc _) hO1)
  have HX1 := Lib.hid (hO1)
  obtain ⟨hc1, hf1⟩ := bcell HX1.out
  clear hO1
  by_cases q1 : x.Steps = y.Steps
  rotate_left
  · have b1 : decide (x.Steps = y.Steps) = false := by simp [q1]
    have Q1 := Lib.hid q1
    clear q1
    go_wp2_with fail
    go_ret
    exact ⟨ret_bool (by symm; rw [decide_eq_false_iff_not]; rintro rfl; exact Q1.out rfl), HE1.out⟩
  have b1 : decide (x.Steps = y.Steps) = true := by simp [q1]
  have E_Steps := Lib.hid q1
  clear q1
  go_wp2_with fail
  go_ret
  exact ⟨ret_bool (by symm; rw [decide_eq_true_iff]; cases x; cases y; simp only [DUndoPlan.mk.injEq]; exact ⟨E_Code.out, E_Steps.out⟩), HE1.out⟩

def ctTopUndoPlan (x : DUndoPlan) : Nat := ctUndoStepS x.Steps
theorem ctTopUndoPlan_wt (x : DUndoPlan) : ctTopUndoPlan x ≤ 64 * wtUndoPlan x := by
  have := ctUndoStepS_wt (x.Steps)
  simp only [ctTopUndoPlan, wtUndoPlan]
  omega
def mkTopUndoPlan (k : Int) (x : DUndoPlan) : DUndoPlan := ⟨x.Code, mkUndoStepS (k) x.Steps⟩

theorem markUndoPlan_at (x : DUndoPlan) (A1 : Option Addr) (c1 : Nat) (F1 : List Nat) (k : Int) (w : World) (s1 : Rep.UndoStep.sl w A1 c1 x.Steps F1) (hn : (F1).Nodup) (hu : Unfr w (F1)) (h0 : 0 ≤ k) (hk : k + ctTopUndoPlan x ≤ 4611686018427387904) :
    Calls Try.prog 21 #[.agg #[.int .i64 x.Code, .slice A1 x.Steps.length c1], .int .i64 k] w fun e w' => e = .returned (.int .i64 (k + ctTopUndoPlan x)) ∧ (Rep.UndoStep.sl w' A1 c1 (mkTopUndoPlan k x).Steps F1) ∧ Only (F1) w w' ∧ Unfr w' (F1) := by
  have hlF : ∀ g ∈ F1, g < w.heap.size := by
    intro g hg
    exact Rep.sl_lt s1 g hg
  have n1 := hn
  unfold ctTopUndoPlan at hk
  simp only [mkTopUndoPlan]
  have hu_impl_UndoPlan := Try.underlying39
  go_enter Try.func21, Try.ntmps21
  go_wp2_with fail
  have HF0 := Lib.hid (Box.start hlF hu #[.int .i64 x.Code, .slice A1 x.Steps.length c1] 39)
  replace s1 := Rep.sl_ext s1 (alloc_ext w (.cells #[.int .i64 x.Code, .slice A1 x.Steps.length c1] 39))
  refine (markUndoStepS_calls _ _ _ _ _ _ s1 n1 (fun b hb o => HF0.out.unfr b (by simp [hb]) o) (by omega) (by omega)).mono ?_
  rintro e w1 ⟨rfl, s1', hO, hu1⟩
  have HF1 := Lib.hid (HF0.out.call hO (fun b hb => (by simp [hb])) hu1)
  clear s1
  have s1 := s1'
  clear s1'
  have hb1 := fun o => HF1.out.cell o
  clear hO hu1
  go_wp2
  go_ret
  exact ⟨ret_int (by unfold ctTopUndoPlan; omega), s1, HF1.out.only, HF1.out.unfr⟩

theorem markUndoPlan_calls (v : Value) (x : DUndoPlan) (F : List Nat) (k : Int) (w : World) (h : Rep.UndoPlan.V w v x F) (hn : F.Nodup) (hu : Unfr w F) (h0 : 0 ≤ k) (hk : k + ctTopUndoPlan x ≤ 4611686018427387904) :
    Calls Try.prog 21 #[v, .int .i64 k] w fun e w' => e = .returned (.int .i64 (k + ctTopUndoPlan x)) ∧ Rep.UndoPlan.V w' v (mkTopUndoPlan k x) F ∧ Only F w w' ∧ Unfr w' F := by
  obtain ⟨_, ⟨A1, c1, F1, rfl, rfl, hw, s1⟩, rfl⟩ := h
  refine (markUndoPlan_at x _ _ _ k w s1 hn hu h0 hk).mono ?_
  rintro e w1 ⟨rfl, s1', hO, hu1⟩
  exact ⟨rfl, ⟨_, ⟨A1, c1, _, (by simp [mkTopUndoPlan, mkUndoStepS_len]), rfl, (by first | trivial | simpa [wfUndoPlan, mkTopUndoPlan] using hw), s1'⟩, rfl⟩, hO, hu1⟩

theorem heldUndoPlan_calls (v : Value) (x : DUndoPlan) (F : List Nat) (k : Int) (w : World) (h : Rep.UndoPlan.V w v (mkTopUndoPlan k x) F) (h0 : 0 ≤ k) (hk : k + ctTopUndoPlan x ≤ 4611686018427387904) :
    Calls Try.prog 22 #[v, .int .i64 k] w fun e w' => e = .returned (.int .i64 (k + ctTopUndoPlan x)) ∧ Ext w w' := by
  obtain ⟨_, ⟨A1, c1, F1, rfl, rfl, hw, s1⟩, rfl⟩ := h
  unfold ctTopUndoPlan at hk
  have hu_impl_UndoPlan := Try.underlying39
  show Calls _ _ #[.agg #[_, _], _] _ _
  simp only [mkTopUndoPlan, mkUndoStepS_len] at s1
  simp only [mkTopUndoPlan, mkUndoStepS_len]
  go_enter Try.func22, Try.ntmps22
  go_wp2_with fail
  refine (heldUndoStepS_calls _ _ _ _ _ _ (Rep.sl_ext s1 (alloc_ext _ _)) (by omega) (by omega)).mono ?_
  rintro e w1 ⟨rfl, hO1⟩
  have HE1 := Lib.hid (Only.ext (alloc_ext w _) hO1)
  have HX1 := Lib.hid (hO1)
  obtain ⟨hc1, hf1⟩ := bcell HX1.out
  clear hO1
  go_wp2
  go_ret
  exact ⟨ret_int (by unfold ctTopUndoPlan; omega), HE1.out⟩

end Go.Proofs.Ytpobhdegfppdcaa
