/- OpsResult: the data, how they lie in cells, and the laws' own functions over them. Printed by gen_fam.py, a program of this session. -/
import Derived.Test.YtdjcfcgkldokgaaFDisk
import Derived.StillTailTactics
namespace Go.Proofs.Ytdjcfcgkldokgaa
open Go.RowKit
set_option linter.unusedSimpArgs false
set_option linter.unusedVariables false
set_option maxRecDepth 100000
set_option maxHeartbeats 8000000

structure DOpsResult where
  Done : Bool
  Used : Int
  Disk : DDisk
  deriving DecidableEq

def wfOpsResult (x : DOpsResult) : Prop := (Lit.int .i64 x.Used).wf = true

def Rep.OpsResult : Rep DOpsResult where
  sz := 4
  R := fun w x cs F => ∃ (A1 : Option Addr) (c1 : Nat) (F1 : List Nat), ∃ (A2 : Option Addr) (c2 : Nat) (F2 : List Nat), cs = [.bool x.Done, .int .i64 x.Used, .slice A1 x.Disk.Durable.length c1, .slice A2 x.Disk.Pending.length c2] ∧ F = F1 ++ F2 ∧ wfOpsResult x ∧ (Rep.int .u8).sl w A1 c1 x.Disk.Durable F1 ∧ Rep.SectorWrite.sl w A2 c2 x.Disk.Pending F2
  val := fun | [a0, a1, a2, a3] => .agg #[a0, a1, a2, a3] | _ => undef
  len := by rintro w x cs F ⟨A1, c1, F1, A2, c2, F2, rfl, -⟩; rfl
  lt := by
    rintro w x cs F ⟨A1, c1, F1, A2, c2, F2, -, rfl, -, s1, s2⟩ g hg
    simp only [List.mem_append] at hg
    rcases hg with (hg | hg)
    · exact Rep.sl_lt s1 g hg
    · exact Rep.sl_lt s2 g hg
  keep := by
    rintro w w' x cs F ⟨A1, c1, F1, A2, c2, F2, rfl, rfl, hw, s1, s2⟩ hk
    exact ⟨A1, c1, _, A2, c2, _, rfl, rfl, hw, Rep.sl_keep s1 (fun b hb => hk b (by simp [hb])), Rep.sl_keep s2 (fun b hb => hk b (by simp [hb]))⟩

theorem val_OpsResult : ∀ (l : List Value), l.length = 4 → Rep.OpsResult.val l = .agg ⟨l⟩
  | [_, _, _, _], _ => rfl

theorem sl_OpsResult {w : World} {A : Option Addr} {c : Nat} {xs : List DOpsResult} {F : List Nat} (h : Rep.OpsResult.sl w A c xs F) (i : Nat) (hi : i < xs.length) :
    ∃ (g off : Nat) (A1 : Option Addr) (c1 : Nat) (F1 : List Nat) (A2 : Option Addr) (c2 : Nat) (F2 : List Nat), A = some ⟨g, off, none⟩ ∧ g < w.heap.size ∧ wfOpsResult (xs[i]) ∧ (Rep.int .u8).sl w A1 c1 (xs[i]).Disk.Durable F1 ∧ Rep.SectorWrite.sl w A2 c2 (xs[i]).Disk.Pending F2 ∧
      w.cell? ⟨g, off + i * 4, none⟩ = some (.bool (xs[i]).Done) ∧ w.cell? ⟨g, off + i * 4 + 1, none⟩ = some (.int .i64 (xs[i]).Used) ∧ w.cell? ⟨g, off + i * 4 + 2, none⟩ = some (.slice A1 (xs[i]).Disk.Durable.length c1) ∧ w.cell? ⟨g, off + i * 4 + 3, none⟩ = some (.slice A2 (xs[i]).Disk.Pending.length c2) := by
  obtain ⟨g, off, d, G, e, hg, _, ⟨A1, c1, F1, A2, c2, F2, rfl, rfl, hw, s1, s2⟩, _, hc⟩ := Rep.sl_at h i hi
  exact ⟨g, off, A1, c1, _, A2, c2, _, e, hg, hw, s1, s2, hc 0 _ rfl, hc 1 _ rfl, hc 2 _ rfl, hc 3 _ rfl⟩

def wtOpsResult (x : DOpsResult) : Nat := wtDisk x.Disk
def wtOpsResultS (xs : List DOpsResult) : Nat := xs.length + (xs.map wtOpsResult).sum

theorem cells_OpsResult (w : World) (g o : Nat) (v0 v1 v2 v3 : Value) : ((((w.setCell ⟨g, o, none⟩ v0).setCell ⟨g, o + 1, none⟩ v1).setCell ⟨g, o + 2, none⟩ v2).setCell ⟨g, o + 3, none⟩ v3) = w.setCells g o [v0, v1, v2, v3] := rfl

theorem eqOpsResult_calls (v : Value) (x : DOpsResult) (F : List Nat) (u : Value) (y : DOpsResult) (G : List Nat) (w : World) (h : Rep.OpsResult.V w v x F) (k : Rep.OpsResult.V w u y G) :
    Calls Try.prog 31 #[v, u] w fun e w' => e = .returned (.bool (decide (x = y))) ∧ Ext w w' := by
  obtain ⟨_, ⟨A1, c1, F1, A2, c2, F2, rfl, rfl, hw, s1, s2⟩, rfl⟩ := h
  obtain ⟨_, ⟨B1, d1, G1, B2, d2, G2, rfl, rfl, hv, t1, t2⟩, rfl⟩ := k
  have hu_impl_OpsResult := Try.underlying49
  have hu_impl_Disk := Try.underlying29
  show Calls _ _ #[.agg #[_, _, _, _], .agg #[_, _, _, _]] _ _
  go_enter Try.func31, Try.ntmps31
  go_wp2_with fail
  all_goals try (go_ret; exact ⟨ret_bool (by symm; rw [decide_eq_false_iff_not]; rintro rfl; exact absurd ‹(_ != _) = true› (by simp)), ((alloc_ext _ _).alloc _)⟩)
  have E_Done := Lib.hid (bool_eq' (by assumption : (x.Done != y.Done) = false))
  have E_Used := Lib.hid (WalkArith.int_eq' (by assumption : (x.Used != y.Used) = false))
  refine (eqDisk_calls _ _ _ _ _ _ _ ⟨_, ⟨A1, c1, _, A2, c2, _, rfl, rfl, (by first | trivial | (have := hw; simp only [wfOpsResult, wfDisk] at this ⊢; simp only [this, and_self])), (Rep.sl_ext s1 ((alloc_ext _ _).alloc _)), (Rep.sl_ext s2 ((alloc_ext _ _).alloc _))⟩, rfl⟩ ⟨_, ⟨B1, d1, _, B2, d2, _, rfl, rfl, (by first | trivial | (have := hv; simp only [wfOpsResult, wfDisk] at this ⊢; simp only [this, and_self])), (Rep.sl_ext t1 ((alloc_ext _ _).alloc _)), (Rep.sl_ext t2 ((alloc_ext _ _).alloc _))⟩, rfl⟩).mono ?_
  rintro e w1 ⟨rfl, hO1⟩
  have HE1 := Lib.hid (Only.ext ((alloc_ext w _).alloc _) hO1)
  have HX1 := Lib.hid (hO1)
  obtain ⟨hc1, hf1⟩ := bcell HX1.out
  clear hO1
  by_cases q1 : x.Disk = y.Disk
  rotate_left
  · have b1 : decide (x.Disk = y.Disk) = false := by simp [q1]
    have Q1 := Lib.hid q1
    clear q1
    go_wp2_with fail
    go_ret
    exact ⟨ret_bool (by symm; rw [decide_eq_false_iff_not]; rintro rfl; exact Q1.out rfl), HE1.out⟩
  have b1 : decide (x.Disk = y.Disk) = true := by simp [q1]
  have E_Disk := Lib.hid q1
  clear q1
  go_wp2_with fail
  go_ret
  exact ⟨ret_bool (by symm; rw [decide_eq_true_iff]; cases x; cases y; simp only [DOpsResult.mk.injEq]; exact ⟨E_Done.out, E_Used.out, E_Disk.out⟩), HE1.out⟩

def ctTopOpsResult (x : DOpsResult) : Nat := ctTopDisk x.Disk
theorem ctTopOpsResult_wt (x : DOpsResult) : ctTopOpsResult x ≤ 64 * wtOpsResult x := by
  have := ctSectorWriteS_wt (x.Disk.Pending)
  simp only [ctTopOpsResult, ctTopDisk, wtOpsResult, wtDisk]
  omega
def mkTopOpsResult (k : Int) (x : DOpsResult) : DOpsResult := ⟨x.Done, x.Used, mkTopDisk (k) x.Disk⟩

theorem markOpsResult_at (x : DOpsResult) (A1 : Option Addr) (c1 : Nat) (F1 : List Nat) (A2 : Option Addr) (c2 : Nat) (F2 : List Nat) (k : Int) (w : World) (s1 : (Rep.int .u8).sl w A1 c1 x.Disk.Durable F1) (s2 : Rep.SectorWrite.sl w A2 c2 x.Disk.Pending F2) (hn : (F1 ++ F2).Nodup) (hu : Unfr w (F1 ++ F2)) (h0 : 0 ≤ k) (hk : k + ctTopOpsResult x ≤ 4611686018427387904) :
    Calls Try.prog 34 #[.agg #[.bool x.Done, .int .i64 x.Used, .slice A1 x.Disk.Durable.length c1, .slice A2 x.Disk.Pending.length c2], .int .i64 k] w fun e w' => e = .returned (.int .i64 (k + ctTopOpsResult x)) ∧ ((Rep.int .u8).sl w' A1 c1 (mkTopOpsResult k x).Disk.Durable F1 ∧ Rep.SectorWrite.sl w' A2 c2 (mkTopOpsResult k x).Disk.Pending F2) ∧ Only (F1 ++ F2) w w' ∧ Unfr w' (F1 ++ F2) := by
  have hlF : ∀ g ∈ F1 ++ F2, g < w.heap.size := by
    intro g hg
    simp only [List.mem_append] at hg
    rcases hg with (hg | hg)
    · exact Rep.sl_lt s1 g hg
    · exact Rep.sl_lt s2 g hg
  obtain ⟨n1, n2, D2⟩ := List.nodup_append.1 hn
  unfold ctTopOpsResult at hk
  simp only [mkTopOpsResult, mkTopDisk]
  have hu_impl_OpsResult := Try.underlying49
  have hu_impl_Disk := Try.underlying29
  go_enter Try.func34, Try.ntmps34
  go_wp2_with fail
  have HF0 := Lib.hid (Box.start hlF hu #[.bool x.Done, .int .i64 x.Used, .slice A1 x.Disk.Durable.length c1, .slice A2 x.Disk.Pending.length c2] 49)
  replace s1 := Rep.sl_ext s1 (alloc_ext w (.cells #[.bool x.Done, .int .i64 x.Used, .slice A1 x.Disk.Durable.length c1, .slice A2 x.Disk.Pending.length c2] 49))
  replace s2 := Rep.sl_ext s2 (alloc_ext w (.cells #[.bool x.Done, .int .i64 x.Used, .slice A1 x.Disk.Durable.length c1, .slice A2 x.Disk.Pending.length c2] 49))
  refine (markDisk_at x.Disk _ _ _ _ _ _ _ _ s1 s2 (List.nodup_append.2 ⟨n1, n2, fun a ha b hb => D2 a (by first | exact ha | (simp only [List.mem_append] at ha ⊢; simp [ha])) b hb⟩) (fun b hb o => HF0.out.unfr b (by simp only [List.mem_append] at hb ⊢; rcases hb with (hb | hb) <;> simp [hb]) o) (by omega) (by omega)).mono ?_
  rintro e w1 ⟨rfl, ⟨s1', s2'⟩, hO, hu1⟩
  have HF1 := Lib.hid (HF0.out.call hO (fun b hb => (by simp only [List.mem_append] at hb ⊢; rcases hb with (hb | hb) <;> simp [hb])) hu1)
  clear s1
  have s1 := s1'
  clear s1'
  clear s2
  have s2 := s2'
  clear s2'
  have hb1 := fun o => HF1.out.cell o
  clear hO hu1
  go_wp2
  go_ret
  exact ⟨ret_int (by unfold ctTopOpsResult; omega), ⟨s1, s2⟩, HF1.out.only, HF1.out.unfr⟩

theorem markOpsResult_calls (v : Value) (x : DOpsResult) (F : List Nat) (k : Int) (w : World) (h : Rep.OpsResult.V w v x F) (hn : F.Nodup) (hu : Unfr w F) (h0 : 0 ≤ k) (hk : k + ctTopOpsResult x ≤ 4611686018427387904) :
    Calls Try.prog 34 #[v, .int .i64 k] w fun e w' => e = .returned (.int .i64 (k + ctTopOpsResult x)) ∧ Rep.OpsResult.V w' v (mkTopOpsResult k x) F ∧ Only F w w' ∧ Unfr w' F := by
  obtain ⟨_, ⟨A1, c1, F1, A2, c2, F2, rfl, rfl, hw, s1, s2⟩, rfl⟩ := h
  refine (markOpsResult_at x _ _ _ _ _ _ k w s1 s2 hn hu h0 hk).mono ?_
  rintro e w1 ⟨rfl, ⟨s1', s2'⟩, hO, hu1⟩
  exact ⟨rfl, ⟨_, ⟨A1, c1, _, A2, c2, _, (by simp [mkB_len, mkSectorWriteS_len, mkTopDisk, mkTopOpsResult]), rfl, (by first | trivial | simpa [wfOpsResult, mkTopDisk, mkTopOpsResult] using hw), s1', s2'⟩, rfl⟩, hO, hu1⟩

theorem heldOpsResult_calls (v : Value) (x : DOpsResult) (F : List Nat) (k : Int) (w : World) (h : Rep.OpsResult.V w v (mkTopOpsResult k x) F) (h0 : 0 ≤ k) (hk : k + ctTopOpsResult x ≤ 4611686018427387904) :
    Calls Try.prog 35 #[v, .int .i64 k] w fun e w' => e = .returned (.int .i64 (k + ctTopOpsResult x)) ∧ Ext w w' := by
  obtain ⟨_, ⟨A1, c1, F1, A2, c2, F2, rfl, rfl, hw, s1, s2⟩, rfl⟩ := h
  unfold ctTopOpsResult at hk
  have hu_impl_OpsResult := Try.underlying49
  have hu_impl_Disk := Try.underlying29
  show Calls _ _ #[.agg #[_, _, _, _], _] _ _
  simp only [mkB_len, mkSectorWriteS_len, mkTopDisk, mkTopOpsResult] at s1 s2
  simp only [mkB_len, mkSectorWriteS_len, mkTopDisk, mkTopOpsResult]
  go_enter Try.func35, Try.ntmps35
  go_wp2_with fail
  refine (heldDisk_calls _ x.Disk _ _ _ ⟨[.slice A1 x.Disk.Durable.length c1, .slice A2 x.Disk.Pending.length c2], ⟨A1, c1, _, A2, c2, _, (by simp [mkB_len, mkSectorWriteS_len, mkTopDisk]), rfl, (by first | trivial | (have := hw; simp only [wfOpsResult, wfDisk, mkTopDisk, mkTopOpsResult] at this ⊢; simp only [this, and_self])), (Rep.sl_ext s1 (alloc_ext _ _)), (Rep.sl_ext s2 (alloc_ext _ _))⟩, rfl⟩ (by omega) (by omega)).mono ?_
  rintro e w1 ⟨rfl, hO1⟩
  have HE1 := Lib.hid (Only.ext (alloc_ext w _) hO1)
  have HX1 := Lib.hid (hO1)
  obtain ⟨hc1, hf1⟩ := bcell HX1.out
  clear hO1
  go_wp2
  go_ret
  exact ⟨ret_int (by unfold ctTopOpsResult; omega), HE1.out⟩

end Go.Proofs.Ytdjcfcgkldokgaa
