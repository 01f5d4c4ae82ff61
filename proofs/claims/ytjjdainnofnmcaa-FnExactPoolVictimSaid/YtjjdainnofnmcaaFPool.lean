/- Pool: the data, how they lie in cells, and the laws' own functions over them. Printed by gen_fam.py, a program of this session. -/
import Derived.Test.YtjjdainnofnmcaaFFrame
import Derived.StillTailTactics
namespace Go.Proofs.Ytjjdainnofnmcaa
open Go.RowKit
set_option linter.unusedSimpArgs false
set_option linter.unusedVariables false

structure DPool where
  Frames : List DFrame
  Hand : Int
  deriving DecidableEq

def wfPool (x : DPool) : Prop := (Lit.int .i64 x.Hand).wf = true

def Rep.Pool : Rep DPool where
  sz := 2
  R := fun w x cs F => ∃ (A1 : Option Addr) (c1 : Nat) (F1 : List Nat), cs = [.slice A1 x.Frames.length c1, .int .i64 x.Hand] ∧ F = F1 ∧ wfPool x ∧ Rep.Frame.sl w A1 c1 x.Frames F1
  val := fun | [a0, a1] => .agg #[a0, a1] | _ => undef
  len := by rintro w x cs F ⟨A1, c1, F1, rfl, -⟩; rfl
  lt := by
    rintro w x cs F ⟨A1, c1, F1, -, rfl, -, s1⟩ g hg
    exact Rep.sl_lt s1 g hg
  keep := by
    rintro w w' x cs F ⟨A1, c1, F1, rfl, rfl, hw, s1⟩ hk
    exact ⟨A1, c1, _, rfl, rfl, hw, Rep.sl_keep s1 (fun b hb => hk b (by simp [hb]))⟩

theorem val_Pool : ∀ (l : List Value), l.length = 2 → Rep.Pool.val l = .agg ⟨l⟩
  | [_, _], _ => rfl

theorem sl_Pool {w : World} {A : Option Addr} {c : Nat} {xs : List DPool} {F : List Nat} (h : Rep.Pool.sl w A c xs F) (i : Nat) (hi : i < xs.length) :
    ∃ (g off : Nat) (A1 : Option Addr) (c1 : Nat) (F1 : List Nat), A = some ⟨g, off, none⟩ ∧ g < w.heap.size ∧ wfPool (xs[i]) ∧ Rep.Frame.sl w A1 c1 (xs[i]).Frames F1 ∧
      w.cell? ⟨g, off + i * 2, none⟩ = some (.slice A1 (xs[i]).Frames.length c1) ∧ w.cell? ⟨g, off + i * 2 + 1, none⟩ = some (.int .i64 (xs[i]).Hand) := by
  obtain ⟨g, off, d, G, e, hg, _, ⟨A1, c1, F1, rfl, rfl, hw, s1⟩, _, hc⟩ := Rep.sl_at h i hi
  exact ⟨g, off, A1, c1, _, e, hg, hw, s1, hc 0 _ rfl, hc 1 _ rfl⟩

def wtPool (x : DPool) : Nat := wtFrameS x.Frames
def wtPoolS (xs : List DPool) : Nat := xs.length + (xs.map wtPool).sum

theorem cells_Pool (w : World) (g o : Nat) (v0 v1 : Value) : ((w.setCell ⟨g, o, none⟩ v0).setCell ⟨g, o + 1, none⟩ v1) = w.setCells g o [v0, v1] := rfl

theorem szPool_calls (v : Value) (x : DPool) (F : List Nat) (left : Int) (w : World) (h : Rep.Pool.V w v x F) (h0 : 0 ≤ left) (h1 : left ≤ 4611686018427387904) :
    Calls Try.prog 11 #[v, .int .i64 left] w (SzPost left (wtPool x) w) := by
  obtain ⟨_, ⟨A1, c1, F1, rfl, rfl, hw, s1⟩, rfl⟩ := h
  have hu_laws_Pool := Try.underlying24
  show Calls _ _ #[.agg #[_, _], _] _ _
  go_enter Try.func11, Try.ntmps11
  go_wp2_with fail
  refine (szFrameS_calls _ _ _ _ _ _ (Rep.sl_ext s1 (alloc_ext _ _)) h0 h1).mono ?_
  rintro e w1 ⟨⟨r1, rfl, hr1⟩, hO1⟩
  have HE1 := Lib.hid (Only.ext (alloc_ext w _) hO1)
  obtain ⟨hc1, hf1⟩ := bcell hO1
  clear hO1
  rcases hr1 with rfl | ⟨ha1, hb1⟩
  · go_wp2
    go_ret
    exact ⟨⟨-1, rfl, .inl rfl⟩, HE1.out⟩
  have hl1 : r1 ≤ 4611686018427387904 := by omega
  have HB1 := Lib.hid hb1
  clear hb1
  go_wp2
  go_ret
  refine ⟨⟨r1, rfl, .inr ⟨ha1, ?_⟩⟩, HE1.out⟩
  have q1 := HB1.out
  unfold wtPool
  omega

theorem toPool_calls (v : Value) (x : DPool) (F : List Nat) (w : World) (h : Rep.Pool.V w v x F) (hs : wtPool x ≤ 1048576) :
    Calls Try.prog 13 #[v] w (NewPost Rep.Pool x w) := by
  obtain ⟨_, ⟨A1, c1, F1, rfl, rfl, hw, s1⟩, rfl⟩ := h
  have hu_laws_Pool := Try.underlying24
  have hu_impl_Pool := Try.underlying29
  simp only [wtPool] at hs
  show Calls _ _ #[.agg #[_, _]] _ _
  go_enter Try.func13, Try.ntmps13
  go_wp2_with fail
  refine (toFrameS_calls _ _ _ _ _ (Rep.sl_ext s1 (((alloc_ext _ _).alloc _).alloc _)) (by omega)).mono ?_
  rintro e w1 ⟨_, _, rfl, hV1, hN1⟩
  obtain ⟨B1, d1, rfl, q1⟩ := Rep.slice_V hV1
  clear hV1
  have HE1 := Lib.hid (Only.ext (((alloc_ext w _).alloc _).alloc _) hN1.ext)
  have HI1 : NewIn (w.heap.size + 3) w1 _ := NewIn.one hN1 (fun b hb => Rep.sl_lt q1 b hb) (by simp)
  obtain ⟨hc1, hf1⟩ := bcell hN1.ext
  have hz1 : w.heap.size + 3 ≤ w1.heap.size := by have := hN1.ext.size; simp at this; omega
  clear hN1
  go_wp2
  refine bodyPost_ret (v := .agg #[.slice B1 x.Frames.length d1, .int .i64 x.Hand]) (by simp [results, Try.results13, go_sem, hc1]) rfl ?_
  exact ⟨_, _, rfl, ⟨_, ⟨B1, d1, _, rfl, rfl, hw, Rep.sl_far q1 (n := w.heap.size + 3) (G := [w.heap.size + 1, w.heap.size + 2]) (by repeat (first | ((with_reducible apply Only.set); · simp) | with_reducible exact Only.refl _ _)) (fun b hb => HI1.ge b (by simp [hb])) (by simp)⟩, rfl⟩, NewIn.mk_ (NewIn.more (HI1.step (G := [w.heap.size + 1, w.heap.size + 2]) (by repeat (first | ((with_reducible apply Only.set); · simp) | with_reducible exact Only.refl _ _)) (by simp)) (by omega)) (by repeat (first | ((with_reducible apply Only.set); · exact fun h => absurd h (by dsimp only; omega)) | (with_reducible apply Only.alloc) | with_reducible exact HE1.out | with_reducible exact Only.refl _ _))⟩

theorem eqPool_calls (v : Value) (x : DPool) (F : List Nat) (u : Value) (y : DPool) (G : List Nat) (w : World) (h : Rep.Pool.V w v x F) (k : Rep.Pool.V w u y G) :
    Calls Try.prog 15 #[v, u] w fun e w' => e = .returned (.bool (decide (x = y))) ∧ Ext w w' := by
  obtain ⟨_, ⟨A1, c1, F1, rfl, rfl, hw, s1⟩, rfl⟩ := h
  obtain ⟨_, ⟨B1, d1, G1, rfl, rfl, hv, t1⟩, rfl⟩ := k
  have hu_impl_Pool := Try.underlying29
  show Calls _ _ #[.agg #[_, _], .agg #[_, _]] _ _
  go_enter Try.func15, Try.ntmps15
  go_wp2_with fail
  refine (eqFrameS_calls _ _ _ _ _ _ _ _ _ (Rep.sl_ext s1 ((alloc_ext _ _).alloc _)) (Rep.sl_ext t1 ((alloc_ext _ _).alloc _))).mono ?_
  rintro e w1 ⟨rfl, hO1⟩
  have HE1 := Lib.hid (Only.ext ((alloc_ext w _).alloc _) hO1)
  obtain ⟨hc1, hf1⟩ := bcell hO1
  clear hO1
  by_cases q1 : x.Frames = y.Frames
  rotate_left
  · have b1 : decide (x.Frames = y.Frames) = false := by simp [q1]
    have Q1 := Lib.hid q1
    clear q1
    go_wp2_with fail
    go_ret
    exact ⟨ret_bool (by symm; rw [decide_eq_false_iff_not]; rintro rfl; exact Q1.out rfl), HE1.out⟩
  have b1 : decide (x.Frames = y.Frames) = true := by simp [q1]
  have E_Frames := Lib.hid q1
  clear q1
  go_wp2_with fail
  all_goals try (go_ret; exact ⟨ret_bool (by symm; rw [decide_eq_false_iff_not]; rintro rfl; exact absurd ‹(_ != _) = true› (by simp)), HE1.out⟩)
  have E_Hand := Lib.hid (WalkArith.int_eq' (by assumption : (x.Hand != y.Hand) = false))
  go_ret
  exact ⟨ret_bool (by symm; rw [decide_eq_true_iff]; cases x; cases y; simp only [DPool.mk.injEq]; exact ⟨E_Frames.out, E_Hand.out⟩), HE1.out⟩

def ctTopPool (x : DPool) : Nat := ctFrameS x.Frames
theorem ctTopPool_wt (x : DPool) : ctTopPool x ≤ 64 * wtPool x := by
  have := ctFrameS_wt (x.Frames)
  simp only [ctTopPool, wtPool]
  omega
def mkTopPool (k : Int) (x : DPool) : DPool := ⟨mkFrameS (k) x.Frames, x.Hand⟩

theorem markPool_at (x : DPool) (A1 : Option Addr) (c1 : Nat) (F1 : List Nat) (k : Int) (w : World) (s1 : Rep.Frame.sl w A1 c1 x.Frames F1) (hn : (F1).Nodup) (hu : Unfr w (F1)) (h0 : 0 ≤ k) (hk : k + ctTopPool x ≤ 4611686018427387904) :
    Calls Try.prog 31 #[.agg #[.slice A1 x.Frames.length c1, .int .i64 x.Hand], .int .i64 k] w fun e w' => e = .returned (.int .i64 (k + ctTopPool x)) ∧ (Rep.Frame.sl w' A1 c1 (mkTopPool k x).Frames F1) ∧ Only (F1) w w' ∧ Unfr w' (F1) := by
  have hlF : ∀ g ∈ F1, g < w.heap.size := by
    intro g hg
    exact Rep.sl_lt s1 g hg
  have n1 := hn
  unfold ctTopPool at hk
  simp only [mkTopPool]
  have hu_impl_Pool := Try.underlying29
  go_enter Try.func31, Try.ntmps31
  go_wp2_with fail
  have HF0 := Lib.hid (Box.start hlF hu #[.slice A1 x.Frames.length c1, .int .i64 x.Hand] 29)
  replace s1 := Rep.sl_ext s1 (alloc_ext w (.cells #[.slice A1 x.Frames.length c1, .int .i64 x.Hand] 29))
  refine (markFrameS_calls _ _ _ _ _ _ s1 n1 (fun b hb o => HF0.out.unfr b (by simp [hb]) o) (by omega) (by omega)).mono ?_
  rintro e w1 ⟨rfl, s1', hO, hu1⟩
  have HF1 := Lib.hid (HF0.out.call hO (fun b hb => (by simp [hb])) hu1)
  clear s1
  have s1 := s1'
  clear s1'
  have hb1 := fun o => HF1.out.cell o
  clear hO hu1
  go_wp2
  go_ret
  exact ⟨ret_int (by unfold ctTopPool; omega), s1, HF1.out.only, HF1.out.unfr⟩

theorem markPool_calls (v : Value) (x : DPool) (F : List Nat) (k : Int) (w : World) (h : Rep.Pool.V w v x F) (hn : F.Nodup) (hu : Unfr w F) (h0 : 0 ≤ k) (hk : k + ctTopPool x ≤ 4611686018427387904) :
    Calls Try.prog 31 #[v, .int .i64 k] w fun e w' => e = .returned (.int .i64 (k + ctTopPool x)) ∧ Rep.Pool.V w' v (mkTopPool k x) F ∧ Only F w w' ∧ Unfr w' F := by
  obtain ⟨_, ⟨A1, c1, F1, rfl, rfl, hw, s1⟩, rfl⟩ := h
  refine (markPool_at x _ _ _ k w s1 hn hu h0 hk).mono ?_
  rintro e w1 ⟨rfl, s1', hO, hu1⟩
  exact ⟨rfl, ⟨_, ⟨A1, c1, _, (by simp [mkFrameS_len, mkTopPool]), rfl, (by simpa [wfPool, mkTopPool] using hw), s1'⟩, rfl⟩, hO, hu1⟩

theorem heldPool_calls (v : Value) (x : DPool) (F : List Nat) (k : Int) (w : World) (h : Rep.Pool.V w v (mkTopPool k x) F) (h0 : 0 ≤ k) (hk : k + ctTopPool x ≤ 4611686018427387904) :
    Calls Try.prog 63 #[v, .int .i64 k] w fun e w' => e = .returned (.int .i64 (k + ctTopPool x)) ∧ Ext w w' := by
  obtain ⟨_, ⟨A1, c1, F1, rfl, rfl, hw, s1⟩, rfl⟩ := h
  unfold ctTopPool at hk
  have hu_impl_Pool := Try.underlying29
  show Calls _ _ #[.agg #[_, _], _] _ _
  simp only [mkFrameS_len, mkTopPool] at s1
  simp only [mkFrameS_len, mkTopPool]
  go_enter Try.func63, Try.ntmps63
  go_wp2_with fail
  refine (heldFrameS_calls _ _ _ _ _ _ (Rep.sl_ext s1 (alloc_ext _ _)) (by omega) (by omega)).mono ?_
  rintro e w1 ⟨rfl, hO1⟩
  have HE1 := Lib.hid (Only.ext (alloc_ext w _) hO1)
  obtain ⟨hc1, hf1⟩ := bcell hO1
  clear hO1
  go_wp2
  go_ret
  exact ⟨ret_int (by unfold ctTopPool; omega), HE1.out⟩

end Go.Proofs.Ytjjdainnofnmcaa
