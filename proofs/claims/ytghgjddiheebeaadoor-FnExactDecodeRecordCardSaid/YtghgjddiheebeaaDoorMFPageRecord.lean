/- PageRecord: the data, how they lie in cells, and the laws' own functions over them. Printed by gen_fam.py, a program of this session. -/
import Derived.Test.YtghgjddiheebeaaDoorMF0
import Derived.StillTailTactics
namespace Go.Proofs.YtghgjddiheebeaaDoor
open Go.RowKit
set_option linter.unusedSimpArgs false
set_option linter.unusedVariables false
set_option maxRecDepth 100000
set_option maxHeartbeats 8000000

structure DPageRecord where
  Used : Bool
  Data : List Int
  deriving DecidableEq

def wfPageRecord (x : DPageRecord) : Prop := True

def Rep.PageRecord : Rep DPageRecord where
  sz := 2
  R := fun w x cs F => ∃ (A1 : Option Addr) (c1 : Nat) (F1 : List Nat), cs = [.bool x.Used, .slice A1 x.Data.length c1] ∧ F = F1 ∧ wfPageRecord x ∧ (Rep.int .u8).sl w A1 c1 x.Data F1
  val := fun | [a0, a1] => .agg #[a0, a1] | _ => undef
  len := by rintro w x cs F ⟨A1, c1, F1, rfl, -⟩; rfl
  lt := by
    rintro w x cs F ⟨A1, c1, F1, -, rfl, -, s1⟩ g hg
    exact Rep.sl_lt s1 g hg
  keep := by
    rintro w w' x cs F ⟨A1, c1, F1, rfl, rfl, hw, s1⟩ hk
    exact ⟨A1, c1, _, rfl, rfl, hw, Rep.sl_keep s1 (fun b hb => hk b (by simp [hb]))⟩

def wtPageRecord (x : DPageRecord) : Nat := x.Data.length
theorem eqPageRecord_calls (v : Value) (x : DPageRecord) (F : List Nat) (u : Value) (y : DPageRecord) (G : List Nat) (w : World) (h : Rep.PageRecord.V w v x F) (k : Rep.PageRecord.V w u y G) :
    Calls Tryd.prog 22 #[v, u] w fun e w' => e = .returned (.bool (decide (x = y))) ∧ Ext w w' := by
  obtain ⟨_, ⟨A1, c1, F1, rfl, rfl, hw, s1⟩, rfl⟩ := h
  obtain ⟨_, ⟨B1, d1, G1, rfl, rfl, hv, t1⟩, rfl⟩ := k
  have hu_impl_PageRecord := Tryd.underlying33
  show Calls _ _ #[.agg #[_, _], .agg #[_, _]] _ _
  go_enter Tryd.func22, Tryd.ntmps22
  go_wp2_with fail
  all_goals try (go_ret; exact ⟨ret_bool (by symm; rw [decide_eq_false_iff_not]; rintro rfl; exact absurd ‹(_ != _) = true› (by simp)), ((alloc_ext _ _).alloc _)⟩)
  have E_Used := Lib.hid (bool_eq' (by assumption : (x.Used != y.Used) = false))
  refine (eqByteS_calls _ _ _ _ _ _ _ _ _ (Rep.sl_ext s1 ((alloc_ext _ _).alloc _)) (Rep.sl_ext t1 ((alloc_ext _ _).alloc _))).mono ?_
  rintro e w1 ⟨rfl, hO1⟩
  have HE1 := Lib.hid (Only.ext ((alloc_ext w _).alloc _) hO1)
  have HX1 := Lib.hid (hO1)
  obtain ⟨hc1, hf1⟩ := bcell HX1.out
  clear hO1
  by_cases q1 : x.Data = y.Data
  rotate_left
  · have b1 : decide (x.Data = y.Data) = false := by simp [q1]
    have Q1 := Lib.hid q1
    clear q1
    go_wp2_with fail
    go_ret
    exact ⟨ret_bool (by symm; rw [decide_eq_false_iff_not]; rintro rfl; exact Q1.out rfl), HE1.out⟩
  have b1 : decide (x.Data = y.Data) = true := by simp [q1]
  have E_Data := Lib.hid q1
  clear q1
  go_wp2_with fail
  go_ret
  exact ⟨ret_bool (by symm; rw [decide_eq_true_iff]; cases x; cases y; simp only [DPageRecord.mk.injEq]; exact ⟨E_Used.out, E_Data.out⟩), HE1.out⟩

def ctTopPageRecord (x : DPageRecord) : Nat := x.Data.length
def mkTopPageRecord (k : Int) (x : DPageRecord) : DPageRecord := ⟨x.Used, mkB (k) x.Data⟩

theorem markPageRecord_at (x : DPageRecord) (A1 : Option Addr) (c1 : Nat) (F1 : List Nat) (k : Int) (w : World) (s1 : (Rep.int .u8).sl w A1 c1 x.Data F1) (hn : (F1).Nodup) (hu : Unfr w (F1)) (h0 : 0 ≤ k) (hk : k + ctTopPageRecord x ≤ 4611686018427387904) :
    Calls Tryd.prog 23 #[.agg #[.bool x.Used, .slice A1 x.Data.length c1], .int .i64 k] w fun e w' => e = .returned (.int .i64 (k + ctTopPageRecord x)) ∧ ((Rep.int .u8).sl w' A1 c1 (mkTopPageRecord k x).Data F1) ∧ Only (F1) w w' ∧ Unfr w' (F1) := by
  have hlF : ∀ g ∈ F1, g < w.heap.size := by
    intro g hg
    exact Rep.sl_lt s1 g hg
  have n1 := hn
  unfold ctTopPageRecord at hk
  simp only [mkTopPageRecord]
  have hu_impl_PageRecord := Tryd.underlying33
  go_enter Tryd.func23, Tryd.ntmps23
  go_wp2_with fail
  have HF0 := Lib.hid (Box.start hlF hu #[.bool x.Used, .slice A1 x.Data.length c1] 33)
  replace s1 := Rep.sl_ext s1 (alloc_ext w (.cells #[.bool x.Used, .slice A1 x.Data.length c1] 33))
  refine (markByteS_calls _ _ _ _ _ _ s1 n1 (fun b hb o => HF0.out.unfr b (by simp [hb]) o) (by omega) (by omega)).mono ?_
  rintro e w1 ⟨rfl, s1', hO, hu1⟩
  have HF1 := Lib.hid (HF0.out.call hO (fun b hb => (by simp [hb])) hu1)
  clear s1
  have s1 := s1'
  clear s1'
  have hb1 := fun o => HF1.out.cell o
  clear hO hu1
  go_wp2
  go_ret
  exact ⟨ret_int (by unfold ctTopPageRecord; omega), s1, HF1.out.only, HF1.out.unfr⟩

theorem heldPageRecord_calls (v : Value) (x : DPageRecord) (F : List Nat) (k : Int) (w : World) (h : Rep.PageRecord.V w v (mkTopPageRecord k x) F) (h0 : 0 ≤ k) (hk : k + ctTopPageRecord x ≤ 4611686018427387904) :
    Calls Tryd.prog 87 #[v, .int .i64 k] w fun e w' => e = .returned (.int .i64 (k + ctTopPageRecord x)) ∧ Ext w w' := by
  obtain ⟨_, ⟨A1, c1, F1, rfl, rfl, hw, s1⟩, rfl⟩ := h
  unfold ctTopPageRecord at hk
  have hu_impl_PageRecord := Tryd.underlying33
  show Calls _ _ #[.agg #[_, _], _] _ _
  simp only [mkB_len, mkTopPageRecord] at s1
  simp only [mkB_len, mkTopPageRecord]
  go_enter Tryd.func87, Tryd.ntmps87
  go_wp2_with fail
  refine (heldByteS_calls _ _ _ _ _ _ (Rep.sl_ext s1 (alloc_ext _ _)) (by omega) (by omega)).mono ?_
  rintro e w1 ⟨rfl, hO1⟩
  have HE1 := Lib.hid (Only.ext (alloc_ext w _) hO1)
  have HX1 := Lib.hid (hO1)
  obtain ⟨hc1, hf1⟩ := bcell HX1.out
  clear hO1
  go_wp2
  go_ret
  exact ⟨ret_int (by unfold ctTopPageRecord; omega), HE1.out⟩

end Go.Proofs.YtghgjddiheebeaaDoor
