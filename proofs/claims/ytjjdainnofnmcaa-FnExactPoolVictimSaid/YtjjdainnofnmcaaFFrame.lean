/- Frame: the data, how they lie in cells, and the laws' own functions over them. Printed by gen_fam.py, a program of this session. -/
import Derived.Test.YtjjdainnofnmcaaF0
import Derived.StillTailTactics
namespace Go.Proofs.Ytjjdainnofnmcaa
open Go.RowKit
set_option linter.unusedSimpArgs false
set_option linter.unusedVariables false

structure DFrame where
  Page : Int
  Bytes : List Int
  Pins : Int
  Dirty : Bool
  RecLSN : Int
  Ref : Bool
  deriving DecidableEq

def wfFrame (x : DFrame) : Prop := (Lit.int .i64 x.Page).wf = true ∧ (Lit.int .i64 x.Pins).wf = true ∧ (Lit.int .i64 x.RecLSN).wf = true

def Rep.Frame : Rep DFrame where
  sz := 6
  R := fun w x cs F => ∃ (A1 : Option Addr) (c1 : Nat) (F1 : List Nat), cs = [.int .i64 x.Page, .slice A1 x.Bytes.length c1, .int .i64 x.Pins, .bool x.Dirty, .int .i64 x.RecLSN, .bool x.Ref] ∧ F = F1 ∧ wfFrame x ∧ (Rep.int .u8).sl w A1 c1 x.Bytes F1
  val := fun | [a0, a1, a2, a3, a4, a5] => .agg #[a0, a1, a2, a3, a4, a5] | _ => undef
  len := by rintro w x cs F ⟨A1, c1, F1, rfl, -⟩; rfl
  lt := by
    rintro w x cs F ⟨A1, c1, F1, -, rfl, -, s1⟩ g hg
    exact Rep.sl_lt s1 g hg
  keep := by
    rintro w w' x cs F ⟨A1, c1, F1, rfl, rfl, hw, s1⟩ hk
    exact ⟨A1, c1, _, rfl, rfl, hw, Rep.sl_keep s1 (fun b hb => hk b (by simp [hb]))⟩

theorem val_Frame : ∀ (l : List Value), l.length = 6 → Rep.Frame.val l = .agg ⟨l⟩
  | [_, _, _, _, _, _], _ => rfl

theorem sl_Frame {w : World} {A : Option Addr} {c : Nat} {xs : List DFrame} {F : List Nat} (h : Rep.Frame.sl w A c xs F) (i : Nat) (hi : i < xs.length) :
    ∃ (g off : Nat) (A1 : Option Addr) (c1 : Nat) (F1 : List Nat), A = some ⟨g, off, none⟩ ∧ g < w.heap.size ∧ wfFrame (xs[i]) ∧ (Rep.int .u8).sl w A1 c1 (xs[i]).Bytes F1 ∧
      w.cell? ⟨g, off + i * 6, none⟩ = some (.int .i64 (xs[i]).Page) ∧ w.cell? ⟨g, off + i * 6 + 1, none⟩ = some (.slice A1 (xs[i]).Bytes.length c1) ∧ w.cell? ⟨g, off + i * 6 + 2, none⟩ = some (.int .i64 (xs[i]).Pins) ∧ w.cell? ⟨g, off + i * 6 + 3, none⟩ = some (.bool (xs[i]).Dirty) ∧ w.cell? ⟨g, off + i * 6 + 4, none⟩ = some (.int .i64 (xs[i]).RecLSN) ∧ w.cell? ⟨g, off + i * 6 + 5, none⟩ = some (.bool (xs[i]).Ref) := by
  obtain ⟨g, off, d, G, e, hg, _, ⟨A1, c1, F1, rfl, rfl, hw, s1⟩, _, hc⟩ := Rep.sl_at h i hi
  exact ⟨g, off, A1, c1, _, e, hg, hw, s1, hc 0 _ rfl, hc 1 _ rfl, hc 2 _ rfl, hc 3 _ rfl, hc 4 _ rfl, hc 5 _ rfl⟩

def wtFrame (x : DFrame) : Nat := x.Bytes.length
def wtFrameS (xs : List DFrame) : Nat := xs.length + (xs.map wtFrame).sum

theorem cells_Frame (w : World) (g o : Nat) (v0 v1 v2 v3 v4 v5 : Value) : ((((((w.setCell ⟨g, o, none⟩ v0).setCell ⟨g, o + 1, none⟩ v1).setCell ⟨g, o + 2, none⟩ v2).setCell ⟨g, o + 3, none⟩ v3).setCell ⟨g, o + 4, none⟩ v4).setCell ⟨g, o + 5, none⟩ v5) = w.setCells g o [v0, v1, v2, v3, v4, v5] := rfl

theorem szFrame_calls (v : Value) (x : DFrame) (F : List Nat) (left : Int) (w : World) (h : Rep.Frame.V w v x F) (h0 : 0 ≤ left) (h1 : left ≤ 4611686018427387904) :
    Calls Try.prog 66 #[v, .int .i64 left] w (SzPost left (wtFrame x) w) := by
  obtain ⟨_, ⟨A1, c1, F1, rfl, rfl, hw, s1⟩, rfl⟩ := h
  have hu_laws_Frame := Try.underlying77
  show Calls _ _ #[.agg #[_, _, _, _, _, _], _] _ _
  go_enter Try.func66, Try.ntmps66
  go_wp2_with fail
  refine (szByteS_calls _ _ _ _ _ h0 h1 (Nat.le_trans s1.1 s1.2.1)).mono ?_
  rintro e w1 ⟨⟨r1, rfl, hr1⟩, hO1⟩
  have HE1 := Lib.hid (Only.ext (alloc_ext w _) hO1)
  obtain ⟨hc1, hf1⟩ := bcell hO1
  clear hO1
  rcases hr1 with rfl | ⟨ha1, hb1⟩
  · go_wp2
    go_ret
    exact ⟨⟨-1, rfl, .inl rfl⟩, HE1.out⟩
  have hl1 : r1 ≤ 4611686018427387904 := by omega
  have HB1 := Lib.hid hb1
  clear hb1
  go_wp2
  go_ret
  refine ⟨⟨r1, rfl, .inr ⟨ha1, ?_⟩⟩, HE1.out⟩
  have q1 := HB1.out
  unfold wtFrame
  omega

theorem szFrameS_calls (A : Option Addr) (c : Nat) (xs : List DFrame) (F : List Nat) (left : Int) (w : World) (h : Rep.Frame.sl w A c xs F) (h0 : 0 ≤ left) (h1 : left ≤ 4611686018427387904) :
    Calls Try.prog 40 #[.slice A xs.length c, .int .i64 left] w (SzPost left (wtFrameS xs) w) := by
  have hu_laws_Frame := Try.underlying77
  have hm := Nat.le_trans h.1 h.2.1
  unfold maxLen at hm
  by_cases hlt0 : left - xs.length < 0
  · go_enter Try.func40, Try.ntmps40
    go_wp2
    go_ret
    exact ⟨⟨-1, rfl, .inl rfl⟩, Only.refl _ _⟩
  · go_enter Try.func40, Try.ntmps40
    go_wp2
    go_loopg [5, 1] (xs.length) (fun m i q wr => ∃ (j : Nat) (r : Int), m + j = xs.length ∧ i = .int .i64 j ∧ q = .int .i64 r ∧ 0 ≤ r ∧ r + ((xs.length + ((xs.take j).map wtFrame).sum : Nat) : Int) = left ∧ Ext w wr)
    case atStart => exact ⟨0, _, by simp, rfl, rfl, by omega, by simp, Only.refl _ _⟩
    case round =>
      obtain ⟨j, r, hj, rfl, rfl, hr0, hr1, hO⟩ := hrel
      have hr2 : r ≤ left := by omega
      have HO := Lib.hid hO; have HR := Lib.hid hr1; have HJ := Lib.hid hj
      clear hO hr1 hj
      by_cases hlt : j < xs.length
      · obtain ⟨g, off, A1, c1, F1, rfl, hg, hw, s1, k0, k1, k2, k3, k4, k5⟩ := sl_Frame (Rep.sl_ext h HO.out) j hlt
        clear h
        go_wp2_with fail
        refine (szFrame_calls _ xs[j] _ _ _ ⟨_, ⟨A1, c1, F1, rfl, rfl, hw, s1⟩, rfl⟩ hr0 (by omega)).mono ?_
        rintro e w1 ⟨⟨q, rfl, hq⟩, hO1⟩
        have HO1 := Lib.hid (HO.out.ext hO1)
        clear hO1 k0 k1 k2 k3 k4 k5 s1
        rcases hq with rfl | ⟨hq0, hq1⟩
        · go_wp2
          go_ret
          exact ⟨⟨-1, rfl, .inl rfl⟩, HO1.out⟩
        · have HQ := Lib.hid hq1
          clear hq1
          go_wp2
          go_roundg (xs.length - (j + 1))
          case measure => have := HJ.out; omega
          case rel =>
            refine ⟨j + 1, q, by omega, by go_num, rfl, hq0, ?_, HO1.out⟩
            have := HQ.out
            have := HR.out
            rw [map_sum_take _ _ _ hlt]
            omega
      · go_wp2
        go_ret
        have hj := HJ.out
        have hr := HR.out
        rw [List.take_of_length_le (by omega)] at hr
        exact ⟨⟨r, rfl, .inr ⟨hr0, hr⟩⟩, HO.out⟩

theorem toFrame_calls (v : Value) (x : DFrame) (F : List Nat) (w : World) (h : Rep.Frame.V w v x F) (hs : wtFrame x ≤ 1048576) :
    Calls Try.prog 67 #[v] w (NewPost Rep.Frame x w) := by
  obtain ⟨_, ⟨A1, c1, F1, rfl, rfl, hw, s1⟩, rfl⟩ := h
  have hu_laws_Frame := Try.underlying77
  have hu_impl_Frame := Try.underlying43
  simp only [wtFrame] at hs
  show Calls _ _ #[.agg #[_, _, _, _, _, _]] _ _
  go_enter Try.func67, Try.ntmps67
  go_wp2_with fail
  refine (toByteS_calls _ _ _ _ _ (Rep.sl_ext s1 (((alloc_ext _ _).alloc _).alloc _)) (by omega)).mono ?_
  rintro e w1 ⟨_, _, rfl, hV1, hN1⟩
  obtain ⟨B1, d1, rfl, q1⟩ := Rep.slice_V hV1
  clear hV1
  have HE1 := Lib.hid (Only.ext (((alloc_ext w _).alloc _).alloc _) hN1.ext)
  have HI1 : NewIn (w.heap.size + 3) w1 _ := NewIn.one hN1 (fun b hb => Rep.sl_lt q1 b hb) (by simp)
  obtain ⟨hc1, hf1⟩ := bcell hN1.ext
  have hz1 : w.heap.size + 3 ≤ w1.heap.size := by have := hN1.ext.size; simp at this; omega
  clear hN1
  go_wp2
  refine bodyPost_ret (v := .agg #[.int .i64 x.Page, .slice B1 x.Bytes.length d1, .int .i64 x.Pins, .bool x.Dirty, .int .i64 x.RecLSN, .bool x.Ref]) (by simp [results, Try.results67, go_sem, hc1]) rfl ?_
  exact ⟨_, _, rfl, ⟨_, ⟨B1, d1, _, rfl, rfl, hw, Rep.sl_far q1 (n := w.heap.size + 3) (G := [w.heap.size + 1, w.heap.size + 2]) (by repeat (first | ((with_reducible apply Only.set); · simp) | with_reducible exact Only.refl _ _)) (fun b hb => HI1.ge b (by simp [hb])) (by simp)⟩, rfl⟩, NewIn.mk_ (NewIn.more (HI1.step (G := [w.heap.size + 1, w.heap.size + 2]) (by repeat (first | ((with_reducible apply Only.set); · simp) | with_reducible exact Only.refl _ _)) (by simp)) (by omega)) (by repeat (first | ((with_reducible apply Only.set); · exact fun h => absurd h (by dsimp only; omega)) | (with_reducible apply Only.alloc) | with_reducible exact HE1.out | with_reducible exact Only.refl _ _))⟩

theorem mem_wtFrameS {xs : List DFrame} (i : Nat) (hi : i < xs.length) : wtFrame xs[i] ≤ wtFrameS xs := by
  have := map_sum_mem wtFrame xs i hi
  unfold wtFrameS
  omega

theorem info43 : (Try.prog.info? 43).map (fun i => (i.zero, i.size, i.bytes)) = some (some (.agg #[.int .i64 0, .slice none 0 0, .int .i64 0, .bool false, .int .i64 0, .bool false]), 6, 64) := by kernel_rfl
theorem toFrameS_calls (A : Option Addr) (c : Nat) (xs : List DFrame) (F : List Nat) (w : World) (h : Rep.Frame.sl w A c xs F) (hs : wtFrameS xs ≤ 1048576) :
    Calls Try.prog 42 #[.slice A xs.length c] w (NewPost Rep.Frame.slice xs w) := by
  have hu_laws_Frame := Try.underlying77
  have hu_impl_Frame := Try.underlying43
  have hn : xs.length ≤ 1048576 := by unfold wtFrameS at hs; omega
  obtain ⟨i0, hi, hz0, hz1, hz2⟩ := info_parts info43
  have hmk := fun (W : World) => run_make (P := Try.prog) W 27 43 i0 _ Try.underlying27 hi hz0 .i64 .i64 xs.length xs.length (by omega) (by omega) (by rw [hz2]; omega) (by omega)
  rw [hz1] at hmk
  clear hz1 hz2 hz0
  go_enter Try.func42, Try.ntmps42
  go_wp2
  clear hmk
  go_loopg [4] (xs.length) (fun m i wr => ∃ (k : Nat) (G : List Nat), m + k = xs.length ∧ i = .int .i64 k ∧ Ext w wr ∧ Fill Rep.Frame 43 wr w.heap.size xs.length (xs.take k) G ∧ (∀ b ∈ G, w.heap.size ≤ b) ∧ G.Nodup ∧ Unfr wr G)
  case atStart => exact ⟨0, [], by simp, rfl, alloc_ext _ _, Fill.made _ _ (by simp [size_madeCells, Rep.Frame]), by simp, by simp, by simp [Unfr]⟩
  case round =>
    obtain ⟨k, G, hk, rfl, hO, hF, hG, hGn, hGu⟩ := hrel
    have HO := Lib.hid hO; have HF := Lib.hid hF; have HG := Lib.hid hG; have HN := Lib.hid hGn; have HU := Lib.hid hGu; have HK := Lib.hid hk
    clear hO hF hG hGn hGu hk
    by_cases hlt : k < xs.length
    · have hw0 := mem_wtFrameS k hlt
      obtain ⟨g, off, A1, c1, F1, rfl, hg, hw, s1, k0, k1, k2, k3, k4, k5⟩ := sl_Frame (Rep.sl_ext h HO.out) k hlt
      clear h
      go_wp2_with fail
      refine (toFrame_calls _ xs[k] _ _ ⟨_, ⟨A1, c1, F1, rfl, rfl, hw, s1⟩, rfl⟩ (by omega)).mono ?_
      clear k0 k1 k2 k3 k4 k5 s1
      rintro e w1 ⟨v, G1, rfl, ⟨cs, hR, hv⟩, hN⟩
      obtain ⟨A1', c1', F1', rfl, rfl, -⟩ := id hR
      replace hv : v = .agg #[_, _, _, _, _, _] := hv
      subst hv
      have hF1 := HF.out.ext hN.ext
      obtain ⟨u0, q0⟩ := hF1.cell (j := k * 6) (by simp only [Rep.Frame]; omega)
      obtain ⟨u1, q1⟩ := hF1.cell (j := k * 6 + 1) (by simp only [Rep.Frame]; omega)
      obtain ⟨u2, q2⟩ := hF1.cell (j := k * 6 + 2) (by simp only [Rep.Frame]; omega)
      obtain ⟨u3, q3⟩ := hF1.cell (j := k * 6 + 3) (by simp only [Rep.Frame]; omega)
      obtain ⟨u4, q4⟩ := hF1.cell (j := k * 6 + 4) (by simp only [Rep.Frame]; omega)
      obtain ⟨u5, q5⟩ := hF1.cell (j := k * 6 + 5) (by simp only [Rep.Frame]; omega)
      have hfz := hF1.frozen
      have HF1 := Lib.hid hF1; have HR := Lib.hid hR; have HNN := Lib.hid hN
      clear hF1 hR hN
      go_wp2
      go_roundg (xs.length - (k + 1))
      case measure => have := HK.out; omega
      case rel =>
        have hl : (xs.take k).length = k := by simp; omega
        have hst := HF1.out.step HR.out (fun hb => by have := HNN.out.new _ hb; have := HF.out.lt; omega) (by rw [hl]; exact hlt)
        rw [hl, ← List.take_succ_eq_append_getElem hlt] at hst
        have hN := HNN.out
        rw [cells_Frame]
        refine ⟨k + 1, _, by omega, by go_num, (HO.out.ext HNN.out.ext).cells (fun h => absurd h (Nat.lt_irrefl _)) (k * 6) _, hst, fun b hb => ?_, ?_, ?_⟩
        · rcases List.mem_append.1 hb with hb | hb
          · exact HG.out b hb
          · exact Nat.le_trans HO.out.size (hN.new b hb)
        · refine List.nodup_append.2 ⟨HN.out, HNN.out.nodup, fun a ha b hb e => ?_⟩
          subst e
          have := hN.new a hb
          have := HF.out.glt a ha
          omega
        · refine Unfr.cells (fun b hb => ?_) _ (k * 6) _
          rcases List.mem_append.1 hb with hb | hb
          · exact HU.out.ext HNN.out.ext HF.out.glt b hb
          · exact HNN.out.unfr b hb
    · have hk := HK.out
      go_wp2
      go_ret
      have hf := HF.out
      have hg := HG.out
      have hu := HU.out
      have hn := HN.out
      rw [List.take_of_length_le (by omega)] at hf
      refine ⟨_, _, rfl, hf.done (by unfold maxLen; omega), HO.out, fun b hb => ?_, hf.nodup hn, hf.unfr hu⟩
      rcases List.mem_cons.1 hb with rfl | hb
      · exact Nat.le_refl _
      · exact hg b hb

theorem eqFrame_calls (v : Value) (x : DFrame) (F : List Nat) (u : Value) (y : DFrame) (G : List Nat) (w : World) (h : Rep.Frame.V w v x F) (k : Rep.Frame.V w u y G) :
    Calls Try.prog 68 #[v, u] w fun e w' => e = .returned (.bool (decide (x = y))) ∧ Ext w w' := by
  obtain ⟨_, ⟨A1, c1, F1, rfl, rfl, hw, s1⟩, rfl⟩ := h
  obtain ⟨_, ⟨B1, d1, G1, rfl, rfl, hv, t1⟩, rfl⟩ := k
  have hu_impl_Frame := Try.underlying43
  show Calls _ _ #[.agg #[_, _, _, _, _, _], .agg #[_, _, _, _, _, _]] _ _
  go_enter Try.func68, Try.ntmps68
  go_wp2_with fail
  all_goals try (go_ret; exact ⟨ret_bool (by symm; rw [decide_eq_false_iff_not]; rintro rfl; exact absurd ‹(_ != _) = true› (by simp)), ((alloc_ext _ _).alloc _)⟩)
  have E_Page := Lib.hid (WalkArith.int_eq' (by assumption : (x.Page != y.Page) = false))
  refine (eqByteS_calls _ _ _ _ _ _ _ _ _ (Rep.sl_ext s1 ((alloc_ext _ _).alloc _)) (Rep.sl_ext t1 ((alloc_ext _ _).alloc _))).mono ?_
  rintro e w1 ⟨rfl, hO1⟩
  have HE1 := Lib.hid (Only.ext ((alloc_ext w _).alloc _) hO1)
  obtain ⟨hc1, hf1⟩ := bcell hO1
  clear hO1
  by_cases q1 : x.Bytes = y.Bytes
  rotate_left
  · have b1 : decide (x.Bytes = y.Bytes) = false := by simp [q1]
    have Q1 := Lib.hid q1
    clear q1
    go_wp2_with fail
    go_ret
    exact ⟨ret_bool (by symm; rw [decide_eq_false_iff_not]; rintro rfl; exact Q1.out rfl), HE1.out⟩
  have b1 : decide (x.Bytes = y.Bytes) = true := by simp [q1]
  have E_Bytes := Lib.hid q1
  clear q1
  go_wp2_with fail
  all_goals try (go_ret; exact ⟨ret_bool (by symm; rw [decide_eq_false_iff_not]; rintro rfl; exact absurd ‹(_ != _) = true› (by simp)), HE1.out⟩)
  have E_Pins := Lib.hid (WalkArith.int_eq' (by assumption : (x.Pins != y.Pins) = false))
  have E_Dirty := Lib.hid (bool_eq' (by assumption : (x.Dirty != y.Dirty) = false))
  have E_RecLSN := Lib.hid (WalkArith.int_eq' (by assumption : (x.RecLSN != y.RecLSN) = false))
  have E_Ref := Lib.hid (bool_eq' (by assumption : (x.Ref != y.Ref) = false))
  go_ret
  exact ⟨ret_bool (by symm; rw [decide_eq_true_iff]; cases x; cases y; simp only [DFrame.mk.injEq]; exact ⟨E_Page.out, E_Bytes.out, E_Pins.out, E_Dirty.out, E_RecLSN.out, E_Ref.out⟩), HE1.out⟩

theorem eqFrameS_calls (A : Option Addr) (c : Nat) (xs : List DFrame) (F : List Nat) (B : Option Addr) (d : Nat) (ys : List DFrame) (G : List Nat) (w : World) (h : Rep.Frame.sl w A c xs F) (k : Rep.Frame.sl w B d ys G) :
    Calls Try.prog 44 #[.slice A xs.length c, .slice B ys.length d] w fun e w' => e = .returned (.bool (decide (xs = ys))) ∧ Ext w w' := by
  have hu_impl_Frame := Try.underlying43
  have hm1 := h.1; have hm2 := h.2.1; have hm3 := k.1; have hm4 := k.2.1
  unfold maxLen at hm2 hm4
  by_cases hl : xs.length = ys.length
  · have hb : ((xs.length : Int) != ys.length) = false := by simp [hl]
    have HL := Lib.hid hl
    clear hl
    go_enter Try.func44, Try.ntmps44
    go_wp2
    go_loopg [5] (xs.length) (fun m i wr => ∃ j : Nat, m + j = xs.length ∧ i = .int .i64 j ∧ Ext w wr ∧ Hid (xs.take j = ys.take j))
    case atStart => exact ⟨0, by simp, rfl, Only.refl _ _, by simp [Hid]⟩
    case round =>
      obtain ⟨j, hj, rfl, hO, HT⟩ := hrel
      have HO := Lib.hid hO; have HJ := Lib.hid hj
      clear hO hj
      by_cases hlt : j < xs.length
      · have hlt2 : j < ys.length := by have := HL.out; omega
        obtain ⟨g1, o1, A1, c1, F1, rfl, hg1, hw, s1, k0, k1, k2, k3, k4, k5⟩ := sl_Frame (Rep.sl_ext h HO.out) j hlt
        obtain ⟨g2, o2, B1, d1, G1, rfl, hg2, hv, t1, l0, l1, l2, l3, l4, l5⟩ := sl_Frame (Rep.sl_ext k HO.out) j hlt2
        clear h k
        go_wp2_with fail
        go_still_tail 8, (by kernel_rfl)
        change wpList _ _ _ _ _ wr.drew
        go_wp2_with fail
        refine (eqFrame_calls _ xs[j] _ _ ys[j] _ _ ⟨_, ⟨A1, c1, F1, rfl, rfl, hw, Rep.sl_ext s1 (Only.refl [] _).drew⟩, rfl⟩ ⟨_, ⟨B1, d1, G1, rfl, rfl, hv, Rep.sl_ext t1 (Only.refl [] _).drew⟩, rfl⟩).mono ?_
        rintro e w1 ⟨rfl, hO1⟩
        have HO1 := Lib.hid ((HO.out.drew).ext hO1)
        clear hO1 k0 l0 k1 l1 k2 l2 k3 l3 k4 l4 k5 l5 s1 t1
        by_cases he : xs[j] = ys[j]
        · have hb2 : decide (xs[j] = ys[j]) = true := by simp [he]
          have HE := Lib.hid he
          clear he
          go_wp2
          go_roundg (xs.length - (j + 1))
          case measure => have := HJ.out; omega
          case rel =>
            refine ⟨j + 1, by omega, by go_num, HO1.out, ?_⟩
            show _ = _
            rw [List.take_succ_eq_append_getElem hlt, List.take_succ_eq_append_getElem hlt2, HT.out, HE.out]
        · have hb2 : decide (xs[j] = ys[j]) = false := by simp [he]
          have HE := Lib.hid he
          clear he
          go_wp2
          go_ret
          exact ⟨ret_bool (by symm; rw [decide_eq_false_iff_not]; rintro rfl; exact HE.out rfl), HO1.out⟩
      · have hj := HJ.out
        have hj2 := HL.out
        have ht := HT.out
        clear HJ HL HT
        rw [List.take_of_length_le (by omega), List.take_of_length_le (by omega)] at ht
        clear hj2
        have HT := Lib.hid ht
        clear ht
        go_wp2
        go_ret
        exact ⟨ret_bool (by simp [HT.out]), HO.out⟩
  · have hb : ((xs.length : Int) != ys.length) = true := by simp; omega
    go_enter Try.func44, Try.ntmps44
    go_wp2
    go_ret
    exact ⟨ret_bool (by symm; rw [decide_eq_false_iff_not]; rintro rfl; exact hl rfl), Only.refl _ _⟩

def ctFrame (x : DFrame) : Nat := x.Bytes.length + 5
def mkFrame (k : Int) (x : DFrame) : DFrame := ⟨k, mkB (k + 1) x.Bytes, k + 1 + x.Bytes.length, ((k + 1 + x.Bytes.length + 1) % 3 == 0), k + 1 + x.Bytes.length + 1 + 1, ((k + 1 + x.Bytes.length + 1 + 1 + 1) % 3 == 0)⟩
def ctFrameS (xs : List DFrame) : Nat := (xs.map ctFrame).sum
def mkFrameS : Int → List DFrame → List DFrame
  | _, [] => []
  | k, x :: xs => mkFrame k x :: mkFrameS (k + ctFrame x) xs
theorem mkFrameS_len : ∀ (k : Int) (xs : List DFrame), (mkFrameS k xs).length = xs.length
  | _, [] => rfl
  | k, x :: xs => by simp [mkFrameS, mkFrameS_len]
theorem ctFrameS_take (xs : List DFrame) (j : Nat) (h : j < xs.length) : ctFrameS (xs.take (j + 1)) = ctFrameS (xs.take j) + ctFrame xs[j] := map_sum_take _ _ _ h
theorem mkFrameS_at : ∀ (k : Int) (xs : List DFrame) (j : Nat) (h : j < (mkFrameS k xs).length), (mkFrameS k xs)[j] = mkFrame (k + ctFrameS (xs.take j)) (xs[j]'(by rw [mkFrameS_len] at h; exact h))
  | k, x :: xs, 0, _ => by simp [mkFrameS, ctFrameS]
  | k, x :: xs, j + 1, h => by
    simp only [mkFrameS, List.getElem_cons_succ, mkFrameS_at, List.take_succ_cons]
    congr 1
    simp [ctFrameS]
    omega
theorem mkFrameS_step (k : Int) (xs : List DFrame) (j : Nat) (h : j < xs.length) :
    ((mkFrameS k xs).take j ++ xs.drop j).set j (mkFrame (k + ctFrameS (xs.take j)) xs[j]) = (mkFrameS k xs).take (j + 1) ++ xs.drop (j + 1) := by
  have hl : ((mkFrameS k xs).take j).length = j := by simp [mkFrameS_len]; omega
  rw [List.set_append_right _ _ (by omega), hl, Nat.sub_self, List.drop_eq_getElem_cons h, List.set_cons_zero, List.take_succ_eq_append_getElem (by rw [mkFrameS_len]; exact h), mkFrameS_at]
  simp
theorem ctFrameS_mem (xs : List DFrame) (j : Nat) (h : j < xs.length) : ctFrameS (xs.take j) + ctFrame xs[j] ≤ ctFrameS xs := map_sum_mem _ _ _ h

theorem ctFrame_wt (x : DFrame) : ctFrame x ≤ 64 + 64 * wtFrame x := by
  simp only [ctFrame, wtFrame]
  omega
theorem ctFrameS_wt (xs : List DFrame) : ctFrameS xs ≤ 64 * wtFrameS xs := by
  unfold ctFrameS wtFrameS
  induction xs with
  | nil => simp
  | cons x xs ih => have := ctFrame_wt x; simp only [List.map_cons, List.sum_cons, List.length_cons] at *; omega

theorem markFrameS_calls (A : Option Addr) (c : Nat) (xs : List DFrame) (F : List Nat) (k : Int) (w : World) (h : Rep.Frame.sl w A c xs F) (hn : F.Nodup) (hu : Unfr w F)
    (h0 : 0 ≤ k) (hk : k + ctFrameS xs ≤ 4611686018427387904) :
    Calls Try.prog 62 #[.slice A xs.length c, .int .i64 k] w (MarkPost Rep.Frame A c (mkFrameS k xs) F (k + ctFrameS xs) w) := by
  have hu_impl_Frame := Try.underlying43
  have hm := Nat.le_trans h.1 h.2.1
  unfold maxLen at hm
  go_enter Try.func62, Try.ntmps62
  go_wp2
  go_loopg [5, 1] (xs.length) (fun m i q wr => ∃ (j : Nat) (p : Int), m + j = xs.length ∧ i = .int .i64 j ∧ q = .int .i64 p ∧ p = k + ctFrameS (xs.take j) ∧ Only F w wr ∧ Unfr wr F ∧ Rep.Frame.sl wr A c ((mkFrameS k xs).take j ++ xs.drop j) F)
  case atStart => exact ⟨0, _, by simp, rfl, rfl, by simp [ctFrameS], Only.refl _ _, hu, by simpa using h⟩
  case round =>
    obtain ⟨j, p, hj, rfl, rfl, hp, hO, hU, hS⟩ := hrel
    have HO := Lib.hid hO; have HU := Lib.hid hU; have HS := Lib.hid hS; have HJ := Lib.hid hj; have HP := Lib.hid hp
    clear hO hU hS hj hp
    by_cases hlt : j < xs.length
    · have hlen : j < ((mkFrameS k xs).take j ++ xs.drop j).length := by simp [mkFrameS_len]; omega
      have hct := ctFrameS_mem xs j hlt
      have hp0 : 0 ≤ p := by have := HP.out; omega
      have hp1 : p + ctFrame xs[j] ≤ 4611686018427387904 := by have := HP.out; omega
      obtain ⟨g, off, d, G, rfl, hgF, hgG, hGF, hGn, hR, hf, hdone⟩ := Rep.sl_foc HS.out hn HU.out j hlen
      rw [mid_at (mkFrameS_len k xs) hlt] at hR
      obtain ⟨A1, c1, F1, rfl, rfl, hw, s1⟩ := hR
      have hst := mkFrameS_step k xs j hlt
      rw [← HP.out] at hst
      generalize hx : xs[j] = x at *
      have HST := Lib.hid hst
      have HX := Lib.hid hx
      clear hst hx hlen hct
      unfold ctFrame at hp1
      have n1 := hGn
      replace hf : Foc wr wr g (off + j * 6) 6 F _ _ := hf
      have k0 : wr.cell? ⟨g, off + j * 6, none⟩ = some _ := hf.cell 0 _ rfl
      have k1 := hf.cell 1 _ rfl
      have k2 := hf.cell 2 _ rfl
      have k3 := hf.cell 3 _ rfl
      have k4 := hf.cell 4 _ rfl
      have k5 := hf.cell 5 _ rfl
      have kf := fun o => hf.unfr g hgF o
      have HF0 := Lib.hid hf
      have HD := Lib.hid hdone
      clear hf hdone
      have hlF := fun b hb => Rep.sl_lt HS.out b hb
      go_wp2_with fail
      have hf1 := (HF0.out.set hgF 0 (by omega) (.int .i64 (p)))
      replace s1 := Rep.sl_only s1 (G := [g]) ((Only.refl _ wr).setCell (p := ⟨g, off + j * 6 + 0, none⟩) (fun _ => by simp) (.int .i64 (p))) (fun b hb h => hgG (by have := List.mem_singleton.1 h; subst this; simp [hb]))
      refine (markByteS_calls _ _ _ _ _ _ s1 n1 (fun b hb o => hf1.unfr b (hGF b (by simp [hb])) o) (by omega) (by omega)).mono ?_
      rintro e w1 ⟨rfl, s1', hO, hu1⟩
      replace hf1 := hf1.call hO (fun b hb => by simp [hb]) hGF hgG hu1 hlF
      clear hO hu1 s1 k0 k1 k2 k3 k4 k5 kf
      have s1 := s1'
      clear s1'
      have k0 : w1.cell? ⟨g, off + j * 6, none⟩ = some _ := hf1.cell 0 _ rfl
      have k1 := hf1.cell 1 _ rfl
      have k2 := hf1.cell 2 _ rfl
      have k3 := hf1.cell 3 _ rfl
      have k4 := hf1.cell 4 _ rfl
      have k5 := hf1.cell 5 _ rfl
      have kf := fun o => hf1.unfr g hgF o
      have HF1 := Lib.hid hf1
      clear hf1
      go_wp2
      go_roundg (xs.length - (j + 1))
      case measure => have := HJ.out; omega
      case rel =>
        have hfe := ((((HF1.out.set hgF 2 (by omega) (.int .i64 (p + 1 + x.Bytes.length))).set hgF 3 (by omega) (.bool ((p + 1 + x.Bytes.length + 1) % 3 == 0))).set hgF 4 (by omega) (.int .i64 (p + 1 + x.Bytes.length + 1 + 1))).set hgF 5 (by omega) (.bool ((p + 1 + x.Bytes.length + 1 + 1 + 1) % 3 == 0)))
        have hr := HD.out _ (mkFrame p x) _ hfe ⟨A1, c1, _, (by simp [mkFrame, mkB_len]), rfl, (by simp only [wfFrame, mkFrame]; (repeat' apply And.intro) <;> exact WalkArith.wf_i64 (by omega)), Rep.sl_only s1 (G := [g]) (((((Only.refl _ w1).setCell (p := ⟨g, off + j * 6 + 2, none⟩) (fun _ => by simp) (.int .i64 (p + 1 + x.Bytes.length))).setCell (p := ⟨g, off + j * 6 + 3, none⟩) (fun _ => by simp) (.bool ((p + 1 + x.Bytes.length + 1) % 3 == 0))).setCell (p := ⟨g, off + j * 6 + 4, none⟩) (fun _ => by simp) (.int .i64 (p + 1 + x.Bytes.length + 1 + 1))).setCell (p := ⟨g, off + j * 6 + 5, none⟩) (fun _ => by simp) (.bool ((p + 1 + x.Bytes.length + 1 + 1 + 1) % 3 == 0))) (fun b hb h => hgG (by have := List.mem_singleton.1 h; subst this; simp [hb]))⟩
        rw [HST.out] at hr
        refine ⟨j + 1, _, by omega, by go_num, rfl, ?_, (HO.out.trans hfe.only), hfe.unfr, hr⟩
        have := HP.out
        rw [ctFrameS_take xs j hlt, HX.out]
        unfold ctFrame
        omega
    · have hj := HJ.out
      have hs := HS.out
      have hp := HP.out
      rw [List.take_of_length_le (by rw [mkFrameS_len]; omega), List.drop_of_length_le (by omega), List.append_nil] at hs
      rw [List.take_of_length_le (by omega)] at hp
      have HP2 := Lib.hid hp
      clear hp HP
      go_wp2
      go_ret
      exact ⟨ret_int HP2.out, hs, HO.out, HU.out⟩

theorem heldFrameS_calls (A : Option Addr) (c : Nat) (xs : List DFrame) (F : List Nat) (k : Int) (w : World) (h : Rep.Frame.sl w A c (mkFrameS k xs) F)
    (h0 : 0 ≤ k) (hk : k + ctFrameS xs ≤ 4611686018427387904) :
    Calls Try.prog 72 #[.slice A xs.length c, .int .i64 k] w fun e w' => e = .returned (.int .i64 (k + ctFrameS xs)) ∧ Ext w w' := by
  have hu_impl_Frame := Try.underlying43
  have hm := Nat.le_trans h.1 h.2.1
  rw [mkFrameS_len] at hm
  unfold maxLen at hm
  go_enter Try.func72, Try.ntmps72
  go_wp2
  go_loopg [5, 1] (xs.length) (fun m i q wr => ∃ (j : Nat) (p : Int), m + j = xs.length ∧ i = .int .i64 j ∧ q = .int .i64 p ∧ p = k + ctFrameS (xs.take j) ∧ Ext w wr)
  case atStart => exact ⟨0, _, by simp, rfl, rfl, by simp [ctFrameS], Only.refl _ _⟩
  case round =>
    obtain ⟨j, p, hj, rfl, rfl, hp, hO⟩ := hrel
    have HO0 := Lib.hid hO; have HJ := Lib.hid hj; have HP := Lib.hid hp
    clear hO hj hp
    by_cases hlt : j < xs.length
    · have hct := ctFrameS_mem xs j hlt
      have hp0 : 0 ≤ p := by have := HP.out; omega
      have hp1 : p + ctFrame xs[j] ≤ 4611686018427387904 := by have := HP.out; omega
      obtain ⟨g, off, A1, c1, F1, rfl, hg, hw, s1, k0, k1, k2, k3, k4, k5⟩ := sl_Frame (Rep.sl_ext h HO0.out) j (by rw [mkFrameS_len]; exact hlt)
      clear h hw
      simp only [mkFrameS_at, ← HP.out] at s1 k0 k1 k2 k3 k4 k5
      generalize hx : xs[j] = x at *
      have HX := Lib.hid hx
      clear hx hct
      simp only [mkFrame, mkB_len] at s1 k0 k1 k2 k3 k4 k5
      unfold ctFrame at hp1
      go_wp2_with fail
      refine (heldByteS_calls _ _ _ _ _ _ s1 (by omega) (by omega)).mono ?_
      rintro e w1 ⟨rfl, hO⟩
      have HO1 := Lib.hid (HO0.out.ext hO)
      replace k0 := hO.ecell k0; replace k1 := hO.ecell k1; replace k2 := hO.ecell k2; replace k3 := hO.ecell k3; replace k4 := hO.ecell k4; replace k5 := hO.ecell k5
      clear hO s1
      go_wp2
      go_roundg (xs.length - (j + 1))
      case measure => have := HJ.out; omega
      case rel =>
        refine ⟨j + 1, _, by omega, by go_num, rfl, ?_, HO1.out⟩
        have := HP.out
        rw [ctFrameS_take xs j hlt, HX.out]
        unfold ctFrame
        omega
    · have hj := HJ.out
      have hp := HP.out
      rw [List.take_of_length_le (by omega)] at hp
      have HP2 := Lib.hid hp
      clear hp HP
      go_wp2
      go_ret
      exact ⟨ret_int HP2.out, HO0.out⟩

end Go.Proofs.Ytjjdainnofnmcaa
