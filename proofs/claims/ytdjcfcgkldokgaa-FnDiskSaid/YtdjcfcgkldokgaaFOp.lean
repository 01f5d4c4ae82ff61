/- Op: the data, how they lie in cells, and the laws' own functions over them. Printed by gen_fam.py, a program of this session. -/
import Derived.Test.YtdjcfcgkldokgaaF0
import Derived.StillTailTactics
namespace Go.Proofs.Ytdjcfcgkldokgaa
open Go.RowKit
set_option linter.unusedSimpArgs false
set_option linter.unusedVariables false
set_option maxRecDepth 100000
set_option maxHeartbeats 8000000

structure DOp where
  Kind : Int
  Sector : Int
  Data : List Int
  deriving DecidableEq

def wfOp (x : DOp) : Prop := (Lit.int .i64 x.Kind).wf = true ∧ (Lit.int .i64 x.Sector).wf = true

def Rep.Op : Rep DOp where
  sz := 3
  R := fun w x cs F => ∃ (A1 : Option Addr) (c1 : Nat) (F1 : List Nat), cs = [.int .i64 x.Kind, .int .i64 x.Sector, .slice A1 x.Data.length c1] ∧ F = F1 ∧ wfOp x ∧ (Rep.int .u8).sl w A1 c1 x.Data F1
  val := fun | [a0, a1, a2] => .agg #[a0, a1, a2] | _ => undef
  len := by rintro w x cs F ⟨A1, c1, F1, rfl, -⟩; rfl
  lt := by
    rintro w x cs F ⟨A1, c1, F1, -, rfl, -, s1⟩ g hg
    exact Rep.sl_lt s1 g hg
  keep := by
    rintro w w' x cs F ⟨A1, c1, F1, rfl, rfl, hw, s1⟩ hk
    exact ⟨A1, c1, _, rfl, rfl, hw, Rep.sl_keep s1 (fun b hb => hk b (by simp [hb]))⟩

theorem val_Op : ∀ (l : List Value), l.length = 3 → Rep.Op.val l = .agg ⟨l⟩
  | [_, _, _], _ => rfl

theorem sl_Op {w : World} {A : Option Addr} {c : Nat} {xs : List DOp} {F : List Nat} (h : Rep.Op.sl w A c xs F) (i : Nat) (hi : i < xs.length) :
    ∃ (g off : Nat) (A1 : Option Addr) (c1 : Nat) (F1 : List Nat), A = some ⟨g, off, none⟩ ∧ g < w.heap.size ∧ wfOp (xs[i]) ∧ (Rep.int .u8).sl w A1 c1 (xs[i]).Data F1 ∧
      w.cell? ⟨g, off + i * 3, none⟩ = some (.int .i64 (xs[i]).Kind) ∧ w.cell? ⟨g, off + i * 3 + 1, none⟩ = some (.int .i64 (xs[i]).Sector) ∧ w.cell? ⟨g, off + i * 3 + 2, none⟩ = some (.slice A1 (xs[i]).Data.length c1) := by
  obtain ⟨g, off, d, G, e, hg, _, ⟨A1, c1, F1, rfl, rfl, hw, s1⟩, _, hc⟩ := Rep.sl_at h i hi
  exact ⟨g, off, A1, c1, _, e, hg, hw, s1, hc 0 _ rfl, hc 1 _ rfl, hc 2 _ rfl⟩

def wtOp (x : DOp) : Nat := x.Data.length
def wtOpS (xs : List DOp) : Nat := xs.length + (xs.map wtOp).sum

theorem cells_Op (w : World) (g o : Nat) (v0 v1 v2 : Value) : (((w.setCell ⟨g, o, none⟩ v0).setCell ⟨g, o + 1, none⟩ v1).setCell ⟨g, o + 2, none⟩ v2) = w.setCells g o [v0, v1, v2] := rfl

theorem szOp_calls (v : Value) (x : DOp) (F : List Nat) (left : Int) (w : World) (h : Rep.Op.V w v x F) (h0 : 0 ≤ left) (h1 : left ≤ 4611686018427387904) :
    Calls Try.prog 67 #[v, .int .i64 left] w (SzPost left (wtOp x) w) := by
  obtain ⟨_, ⟨A1, c1, F1, rfl, rfl, hw, s1⟩, rfl⟩ := h
  have hu_laws_Op := Try.underlying88
  show Calls _ _ #[.agg #[_, _, _], _] _ _
  go_enter Try.func67, Try.ntmps67
  go_wp2_with fail
  refine (szByteS_calls _ _ _ _ _ h0 h1 (Nat.le_trans s1.1 s1.2.1)).mono ?_
  rintro e w1 ⟨⟨r1, rfl, hr1⟩, hO1⟩
  have HE1 := Lib.hid (Only.ext (alloc_ext w _) hO1)
  have HX1 := Lib.hid (hO1)
  obtain ⟨hc1, hf1⟩ := bcell HX1.out
  clear hO1
  rcases hr1 with rfl | ⟨ha1, hb1⟩
  · go_wp2
    go_ret
    exact ⟨⟨-1, rfl, .inl rfl⟩, HE1.out⟩
  have hl1 : r1 ≤ 4611686018427387904 := by omega
  have HB1 := Lib.hid hb1
  clear hb1
  go_wp2
  go_ret
  refine ⟨⟨r1, rfl, .inr ⟨ha1, ?_⟩⟩, HE1.out⟩
  have q1 := HB1.out
  unfold wtOp
  omega

theorem szOpS_calls (A : Option Addr) (c : Nat) (xs : List DOp) (F : List Nat) (left : Int) (w : World) (h : Rep.Op.sl w A c xs F) (h0 : 0 ≤ left) (h1 : left ≤ 4611686018427387904) :
    Calls Try.prog 27 #[.slice A xs.length c, .int .i64 left] w (SzPost left (wtOpS xs) w) := by
  have hu_laws_Op := Try.underlying88
  have hm := Nat.le_trans h.1 h.2.1
  unfold maxLen at hm
  by_cases hlt0 : left - xs.length < 0
  · go_enter Try.func27, Try.ntmps27
    go_wp2
    go_ret
    exact ⟨⟨-1, rfl, .inl rfl⟩, Only.refl _ _⟩
  · go_enter Try.func27, Try.ntmps27
    go_wp2
    go_loopg [5, 1] (xs.length) (fun m i q wr => ∃ (j : Nat) (r : Int), m + j = xs.length ∧ i = .int .i64 j ∧ q = .int .i64 r ∧ 0 ≤ r ∧ r + ((xs.length + ((xs.take j).map wtOp).sum : Nat) : Int) = left ∧ Ext w wr)
    case atStart => exact ⟨0, _, by simp, rfl, rfl, by omega, by simp, Only.refl _ _⟩
    case round =>
      obtain ⟨j, r, hj, rfl, rfl, hr0, hr1, hO⟩ := hrel
      have hr2 : r ≤ left := by omega
      have HO := Lib.hid hO; have HR := Lib.hid hr1; have HJ := Lib.hid hj
      clear hO hr1 hj
      by_cases hlt : j < xs.length
      · obtain ⟨g, off, A1, c1, F1, rfl, hg, hw, s1, k0, k1, k2⟩ := sl_Op (Rep.sl_ext h HO.out) j hlt
        clear h
        go_wp2_with fail
        refine (szOp_calls _ xs[j] _ _ _ ⟨_, ⟨A1, c1, F1, rfl, rfl, hw, s1⟩, rfl⟩ hr0 (by omega)).mono ?_
        rintro e w1 ⟨⟨q, rfl, hq⟩, hO1⟩
        have HO1 := Lib.hid (HO.out.ext hO1)
        clear hO1 k0 k1 k2 s1
        rcases hq with rfl | ⟨hq0, hq1⟩
        · go_wp2
          go_ret
          exact ⟨⟨-1, rfl, .inl rfl⟩, HO1.out⟩
        · have HQ := Lib.hid hq1
          clear hq1
          go_wp2
          go_roundg (xs.length - (j + 1))
          case measure => have := HJ.out; omega
          case rel =>
            refine ⟨j + 1, q, by omega, by go_num, rfl, hq0, ?_, HO1.out⟩
            have := HQ.out
            have := HR.out
            rw [map_sum_take _ _ _ hlt]
            omega
      · go_wp2
        go_ret
        have hj := HJ.out
        have hr := HR.out
        rw [List.take_of_length_le (by omega)] at hr
        exact ⟨⟨r, rfl, .inr ⟨hr0, hr⟩⟩, HO.out⟩

theorem toOp_calls (v : Value) (x : DOp) (F : List Nat) (w : World) (h : Rep.Op.V w v x F) (hs : wtOp x ≤ 1048576) :
    Calls Try.prog 69 #[v] w (NewPost Rep.Op x w) := by
  obtain ⟨_, ⟨A1, c1, F1, rfl, rfl, hw, s1⟩, rfl⟩ := h
  have hu_laws_Op := Try.underlying88
  have hu_impl_Op := Try.underlying90
  simp only [wtOp] at hs
  show Calls _ _ #[.agg #[_, _, _]] _ _
  go_enter Try.func69, Try.ntmps69
  go_wp2_with fail
  refine (toByteS_calls _ _ _ _ _ (Rep.sl_ext s1 (((alloc_ext _ _).alloc _).alloc _)) (by omega)).mono ?_
  rintro e w1 ⟨_, _, rfl, hV1, hN1⟩
  obtain ⟨B1, d1, rfl, q1⟩ := Rep.slice_V hV1
  clear hV1
  have HE1 := Lib.hid (Only.ext (F := []) (w := w) (((alloc_ext w _).alloc _).alloc _) hN1.ext)
  have HI1 : NewIn (w.heap.size + 3) w1 _ := NewIn.one hN1 (fun b hb => Rep.sl_lt q1 b hb) (by simp)
  obtain ⟨hc1, hf1⟩ := bcell hN1.ext
  have hz1 : w.heap.size + 3 ≤ w1.heap.size := by have := hN1.ext.size; simp at this; omega
  clear hN1
  go_wp2
  refine bodyPost_ret (v := .agg #[.int .i64 x.Kind, .int .i64 x.Sector, .slice B1 x.Data.length d1]) (by simp [results, Try.results69, go_sem, hc1]) rfl ?_
  exact ⟨_, _, rfl, ⟨_, ⟨B1, d1, _, rfl, rfl, hw, Rep.sl_far q1 (n := w.heap.size + 3) (G := [w.heap.size + 1, w.heap.size + 2]) (by repeat (first | ((with_reducible apply Only.set); · simp) | with_reducible exact Only.refl _ _)) (fun b hb => HI1.ge b (by simp [hb])) (by simp)⟩, rfl⟩, NewIn.mk_ (NewIn.more (HI1.step (G := [w.heap.size + 1, w.heap.size + 2]) (by repeat (first | ((with_reducible apply Only.set); · simp) | with_reducible exact Only.refl _ _)) (by simp)) (by omega)) (by repeat (first | ((with_reducible apply Only.set); · exact fun h => absurd h (by dsimp only; omega)) | (with_reducible apply Only.alloc) | with_reducible exact HE1.out | with_reducible exact Only.refl _ _))⟩

theorem mem_wtOpS {xs : List DOp} (i : Nat) (hi : i < xs.length) : wtOp xs[i] ≤ wtOpS xs := by
  have := map_sum_mem wtOp xs i hi
  unfold wtOpS
  omega

theorem info90 : (Try.prog.info? 90).map (fun i => (i.zero, i.size, i.bytes)) = some (some (.agg #[.int .i64 0, .int .i64 0, .slice none 0 0]), 3, 40) := by kernel_rfl
theorem toOpS_calls (A : Option Addr) (c : Nat) (xs : List DOp) (F : List Nat) (w : World) (h : Rep.Op.sl w A c xs F) (hs : wtOpS xs ≤ 1048576) :
    Calls Try.prog 29 #[.slice A xs.length c] w (NewPost Rep.Op.slice xs w) := by
  have hu_laws_Op := Try.underlying88
  have hu_impl_Op := Try.underlying90
  have hn : xs.length ≤ 1048576 := by unfold wtOpS at hs; omega
  obtain ⟨i0, hi, hz0, hz1, hz2⟩ := info_parts info90
  have hmk := fun (W : World) => run_make (P := Try.prog) W 51 90 i0 _ Try.underlying51 hi hz0 .i64 .i64 xs.length xs.length (by omega) (by omega) (by rw [hz2]; omega) (by omega)
  rw [hz1] at hmk
  clear hz1 hz2 hz0
  go_enter Try.func29, Try.ntmps29
  go_wp2
  clear hmk
  go_loopg [4] (xs.length) (fun m i wr => ∃ (k : Nat) (G : List Nat), m + k = xs.length ∧ i = .int .i64 k ∧ Ext w wr ∧ Fill Rep.Op 90 wr w.heap.size xs.length (xs.take k) G ∧ (∀ b ∈ G, w.heap.size ≤ b) ∧ G.Nodup ∧ Unfr wr G)
  case atStart => exact ⟨0, [], by simp, rfl, alloc_ext _ _, Fill.made _ _ (by simp [size_madeCells, Rep.Op]), by simp, by simp, by simp [Unfr]⟩
  case round =>
    obtain ⟨k, G, hk, rfl, hO, hF, hG, hGn, hGu⟩ := hrel
    have HO := Lib.hid hO; have HF := Lib.hid hF; have HG := Lib.hid hG; have HN := Lib.hid hGn; have HU := Lib.hid hGu; have HK := Lib.hid hk
    clear hO hF hG hGn hGu hk
    by_cases hlt : k < xs.length
    · have hw0 := mem_wtOpS k hlt
      obtain ⟨g, off, A1, c1, F1, rfl, hg, hw, s1, k0, k1, k2⟩ := sl_Op (Rep.sl_ext h HO.out) k hlt
      clear h
      go_wp2_with fail
      refine (toOp_calls _ xs[k] _ _ ⟨_, ⟨A1, c1, F1, rfl, rfl, hw, s1⟩, rfl⟩ (by omega)).mono ?_
      clear k0 k1 k2 s1
      rintro e w1 ⟨v, G1, rfl, ⟨cs, hR, hv⟩, hN⟩
      obtain ⟨A1', c1', F1', rfl, rfl, -⟩ := id hR
      replace hv : v = .agg #[_, _, _] := hv
      subst hv
      have hF1 := HF.out.ext hN.ext
      obtain ⟨u0, q0⟩ := hF1.cell (j := k * 3) (by simp only [Rep.Op]; omega)
      obtain ⟨u1, q1⟩ := hF1.cell (j := k * 3 + 1) (by simp only [Rep.Op]; omega)
      obtain ⟨u2, q2⟩ := hF1.cell (j := k * 3 + 2) (by simp only [Rep.Op]; omega)
      have hfz := hF1.frozen
      have HF1 := Lib.hid hF1; have HR := Lib.hid hR; have HNN := Lib.hid hN
      clear hF1 hR hN
      go_wp2
      go_roundg (xs.length - (k + 1))
      case measure => have := HK.out; omega
      case rel =>
        have hl : (xs.take k).length = k := by simp; omega
        have hst := HF1.out.step HR.out (fun hb => by have := HNN.out.new _ hb; have := HF.out.lt; omega) (by rw [hl]; exact hlt)
        rw [hl, ← List.take_succ_eq_append_getElem hlt] at hst
        have hN := HNN.out
        rw [cells_Op]
        refine ⟨k + 1, _, by omega, by go_num, (HO.out.ext HNN.out.ext).cells (fun h => absurd h (Nat.lt_irrefl _)) (k * 3) _, hst, fun b hb => ?_, ?_, ?_⟩
        · rcases List.mem_append.1 hb with hb | hb
          · exact HG.out b hb
          · exact Nat.le_trans HO.out.size (hN.new b hb)
        · refine List.nodup_append.2 ⟨HN.out, HNN.out.nodup, fun a ha b hb e => ?_⟩
          subst e
          have := hN.new a hb
          have := HF.out.glt a ha
          omega
        · refine Unfr.cells (fun b hb => ?_) _ (k * 3) _
          rcases List.mem_append.1 hb with hb | hb
          · exact HU.out.ext HNN.out.ext HF.out.glt b hb
          · exact HNN.out.unfr b hb
    · have hk := HK.out
      go_wp2
      go_ret
      have hf := HF.out
      have hg := HG.out
      have hu := HU.out
      have hn := HN.out
      rw [List.take_of_length_le (by omega)] at hf
      refine ⟨_, _, rfl, hf.done (by unfold maxLen; omega), HO.out, fun b hb => ?_, hf.nodup hn, hf.unfr hu⟩
      rcases List.mem_cons.1 hb with rfl | hb
      · exact Nat.le_refl _
      · exact hg b hb

theorem eqOp_calls (v : Value) (x : DOp) (F : List Nat) (u : Value) (y : DOp) (G : List Nat) (w : World) (h : Rep.Op.V w v x F) (k : Rep.Op.V w u y G) :
    Calls Try.prog 71 #[v, u] w fun e w' => e = .returned (.bool (decide (x = y))) ∧ Ext w w' := by
  obtain ⟨_, ⟨A1, c1, F1, rfl, rfl, hw, s1⟩, rfl⟩ := h
  obtain ⟨_, ⟨B1, d1, G1, rfl, rfl, hv, t1⟩, rfl⟩ := k
  have hu_impl_Op := Try.underlying90
  show Calls _ _ #[.agg #[_, _, _], .agg #[_, _, _]] _ _
  go_enter Try.func71, Try.ntmps71
  go_wp2_with fail
  all_goals try (go_ret; exact ⟨ret_bool (by symm; rw [decide_eq_false_iff_not]; rintro rfl; exact absurd ‹(_ != _) = true› (by simp)), ((alloc_ext _ _).alloc _)⟩)
  have E_Kind := Lib.hid (WalkArith.int_eq' (by assumption : (x.Kind != y.Kind) = false))
  have E_Sector := Lib.hid (WalkArith.int_eq' (by assumption : (x.Sector != y.Sector) = false))
  refine (eqByteS_calls _ _ _ _ _ _ _ _ _ (Rep.sl_ext s1 ((alloc_ext _ _).alloc _)) (Rep.sl_ext t1 ((alloc_ext _ _).alloc _))).mono ?_
  rintro e w1 ⟨rfl, hO1⟩
  have HE1 := Lib.hid (Only.ext ((alloc_ext w _).alloc _) hO1)
  have HX1 := Lib.hid (hO1)
  obtain ⟨hc1, hf1⟩ := bcell HX1.out
  clear hO1
  by_cases q1 : x.Data = y.Data
  rotate_left
  · have b1 : decide (x.Data = y.Data) = false := by simp [q1]
    have Q1 := Lib.hid q1
    clear q1
    go_wp2_with fail
    go_ret
    exact ⟨ret_bool (by symm; rw [decide_eq_false_iff_not]; rintro rfl; exact Q1.out rfl), HE1.out⟩
  have b1 : decide (x.Data = y.Data) = true := by simp [q1]
  have E_Data := Lib.hid q1
  clear q1
  go_wp2_with fail
  go_ret
  exact ⟨ret_bool (by symm; rw [decide_eq_true_iff]; cases x; cases y; simp only [DOp.mk.injEq]; exact ⟨E_Kind.out, E_Sector.out, E_Data.out⟩), HE1.out⟩

theorem eqOpS_calls (A : Option Addr) (c : Nat) (xs : List DOp) (F : List Nat) (B : Option Addr) (d : Nat) (ys : List DOp) (G : List Nat) (w : World) (h : Rep.Op.sl w A c xs F) (k : Rep.Op.sl w B d ys G) :
    Calls Try.prog 32 #[.slice A xs.length c, .slice B ys.length d] w fun e w' => e = .returned (.bool (decide (xs = ys))) ∧ Ext w w' := by
  have hu_impl_Op := Try.underlying90
  have hm1 := h.1; have hm2 := h.2.1; have hm3 := k.1; have hm4 := k.2.1
  unfold maxLen at hm2 hm4
  by_cases hl : xs.length = ys.length
  · have hb : ((xs.length : Int) != ys.length) = false := by simp [hl]
    have HL := Lib.hid hl
    clear hl
    go_enter Try.func32, Try.ntmps32
    go_wp2
    go_loopg [5] (xs.length) (fun m i wr => ∃ j : Nat, m + j = xs.length ∧ i = .int .i64 j ∧ Ext w wr ∧ Hid (xs.take j = ys.take j))
    case atStart => exact ⟨0, by simp, rfl, Only.refl _ _, by simp [Hid]⟩
    case round =>
      obtain ⟨j, hj, rfl, hO, HT⟩ := hrel
      have HO := Lib.hid hO; have HJ := Lib.hid hj
      clear hO hj
      by_cases hlt : j < xs.length
      · have hlt2 : j < ys.length := by have := HL.out; omega
        obtain ⟨g1, o1, A1, c1, F1, rfl, hg1, hw, s1, k0, k1, k2⟩ := sl_Op (Rep.sl_ext h HO.out) j hlt
        obtain ⟨g2, o2, B1, d1, G1, rfl, hg2, hv, t1, l0, l1, l2⟩ := sl_Op (Rep.sl_ext k HO.out) j hlt2
        clear h k
        go_wp2_with fail
        go_still_tail 8, (by kernel_rfl)
        change wpList _ _ _ _ _ wr.drew
        go_wp2_with fail
        refine (eqOp_calls _ xs[j] _ _ ys[j] _ _ ⟨_, ⟨A1, c1, F1, rfl, rfl, hw, Rep.sl_ext s1 (Only.refl [] _).drew⟩, rfl⟩ ⟨_, ⟨B1, d1, G1, rfl, rfl, hv, Rep.sl_ext t1 (Only.refl [] _).drew⟩, rfl⟩).mono ?_
        rintro e w1 ⟨rfl, hO1⟩
        have HO1 := Lib.hid ((HO.out.drew).ext hO1)
        clear hO1 k0 l0 k1 l1 k2 l2 s1 t1
        by_cases he : xs[j] = ys[j]
        · have hb2 : decide (xs[j] = ys[j]) = true := by simp [he]
          have HE := Lib.hid he
          clear he
          go_wp2
          go_roundg (xs.length - (j + 1))
          case measure => have := HJ.out; omega
          case rel =>
            refine ⟨j + 1, by omega, by go_num, HO1.out, ?_⟩
            show _ = _
            rw [List.take_succ_eq_append_getElem hlt, List.take_succ_eq_append_getElem hlt2, HT.out, HE.out]
        · have hb2 : decide (xs[j] = ys[j]) = false := by simp [he]
          have HE := Lib.hid he
          clear he
          go_wp2
          go_ret
          exact ⟨ret_bool (by symm; rw [decide_eq_false_iff_not]; rintro rfl; exact HE.out rfl), HO1.out⟩
      · have hj := HJ.out
        have hj2 := HL.out
        have ht := HT.out
        clear HJ HL HT
        rw [List.take_of_length_le (by omega), List.take_of_length_le (by omega)] at ht
        clear hj2
        have HT := Lib.hid ht
        clear ht
        go_wp2
        go_ret
        exact ⟨ret_bool (by simp [HT.out]), HO.out⟩
  · have hb : ((xs.length : Int) != ys.length) = true := by simp; omega
    go_enter Try.func32, Try.ntmps32
    go_wp2
    go_ret
    exact ⟨ret_bool (by symm; rw [decide_eq_false_iff_not]; rintro rfl; exact hl rfl), Only.refl _ _⟩

def ctOp (x : DOp) : Nat := x.Data.length + 2
def mkOp (k : Int) (x : DOp) : DOp := ⟨k, k + 1, mkB (k + 1 + 1) x.Data⟩
def ctOpS (xs : List DOp) : Nat := (xs.map ctOp).sum
def mkOpS : Int → List DOp → List DOp
  | _, [] => []
  | k, x :: xs => mkOp k x :: mkOpS (k + ctOp x) xs
theorem mkOpS_len : ∀ (k : Int) (xs : List DOp), (mkOpS k xs).length = xs.length
  | _, [] => rfl
  | k, x :: xs => by simp [mkOpS, mkOpS_len]
theorem ctOpS_take (xs : List DOp) (j : Nat) (h : j < xs.length) : ctOpS (xs.take (j + 1)) = ctOpS (xs.take j) + ctOp xs[j] := map_sum_take _ _ _ h
theorem mkOpS_at : ∀ (k : Int) (xs : List DOp) (j : Nat) (h : j < (mkOpS k xs).length), (mkOpS k xs)[j] = mkOp (k + ctOpS (xs.take j)) (xs[j]'(by rw [mkOpS_len] at h; exact h))
  | k, x :: xs, 0, _ => by simp [mkOpS, ctOpS]
  | k, x :: xs, j + 1, h => by
    simp only [mkOpS, List.getElem_cons_succ, mkOpS_at, List.take_succ_cons]
    congr 1
    simp [ctOpS]
    omega
theorem mkOpS_step (k : Int) (xs : List DOp) (j : Nat) (h : j < xs.length) :
    ((mkOpS k xs).take j ++ xs.drop j).set j (mkOp (k + ctOpS (xs.take j)) xs[j]) = (mkOpS k xs).take (j + 1) ++ xs.drop (j + 1) := by
  have hl : ((mkOpS k xs).take j).length = j := by simp [mkOpS_len]; omega
  rw [List.set_append_right _ _ (by omega), hl, Nat.sub_self, List.drop_eq_getElem_cons h, List.set_cons_zero, List.take_succ_eq_append_getElem (by rw [mkOpS_len]; exact h), mkOpS_at]
  simp
theorem ctOpS_mem (xs : List DOp) (j : Nat) (h : j < xs.length) : ctOpS (xs.take j) + ctOp xs[j] ≤ ctOpS xs := map_sum_mem _ _ _ h

theorem ctOp_wt (x : DOp) : ctOp x ≤ 64 + 64 * wtOp x := by
  simp only [ctOp, wtOp]
  omega
theorem ctOpS_wt (xs : List DOp) : ctOpS xs ≤ 64 * wtOpS xs := by
  unfold ctOpS wtOpS
  induction xs with
  | nil => simp
  | cons x xs ih => have := ctOp_wt x; simp only [List.map_cons, List.sum_cons, List.length_cons] at *; omega

theorem markOpS_calls (A : Option Addr) (c : Nat) (xs : List DOp) (F : List Nat) (k : Int) (w : World) (h : Rep.Op.sl w A c xs F) (hn : F.Nodup) (hu : Unfr w F)
    (h0 : 0 ≤ k) (hk : k + ctOpS xs ≤ 4611686018427387904) :
    Calls Try.prog 33 #[.slice A xs.length c, .int .i64 k] w (MarkPost Rep.Op A c (mkOpS k xs) F (k + ctOpS xs) w) := by
  have hu_impl_Op := Try.underlying90
  have hm := Nat.le_trans h.1 h.2.1
  unfold maxLen at hm
  go_enter Try.func33, Try.ntmps33
  go_wp2
  go_loopg [5, 1] (xs.length) (fun m i q wr => ∃ (j : Nat) (p : Int), m + j = xs.length ∧ i = .int .i64 j ∧ q = .int .i64 p ∧ p = k + ctOpS (xs.take j) ∧ Only F w wr ∧ Unfr wr F ∧ Rep.Op.sl wr A c ((mkOpS k xs).take j ++ xs.drop j) F)
  case atStart => exact ⟨0, _, by simp, rfl, rfl, by simp [ctOpS], Only.refl _ _, hu, by simpa using h⟩
  case round =>
    obtain ⟨j, p, hj, rfl, rfl, hp, hO, hU, hS⟩ := hrel
    have HO := Lib.hid hO; have HU := Lib.hid hU; have HS := Lib.hid hS; have HJ := Lib.hid hj; have HP := Lib.hid hp
    clear hO hU hS hj hp
    by_cases hlt : j < xs.length
    · have hlen : j < ((mkOpS k xs).take j ++ xs.drop j).length := by simp [mkOpS_len]; omega
      have hct := ctOpS_mem xs j hlt
      have hp0 : 0 ≤ p := by have := HP.out; omega
      have hp1 : p + ctOp xs[j] ≤ 4611686018427387904 := by have := HP.out; omega
      obtain ⟨g, off, d, G, rfl, hgF, hgG, hGF, hGn, hR, hf, hdone⟩ := Rep.sl_foc HS.out hn HU.out j hlen
      rw [mid_at (mkOpS_len k xs) hlt] at hR
      obtain ⟨A1, c1, F1, rfl, rfl, hw, s1⟩ := hR
      have hst := mkOpS_step k xs j hlt
      rw [← HP.out] at hst
      generalize hx : xs[j] = x at *
      have HST := Lib.hid hst
      have HX := Lib.hid hx
      clear hst hx hlen hct
      unfold ctOp at hp1
      have n1 := hGn
      replace hf : Foc wr wr g (off + j * 3) 3 F _ _ := hf
      have k0 : wr.cell? ⟨g, off + j * 3, none⟩ = some _ := hf.cell 0 _ rfl
      have k1 := hf.cell 1 _ rfl
      have k2 := hf.cell 2 _ rfl
      have kf := fun o => hf.unfr g hgF o
      have HF0 := Lib.hid hf
      have HD := Lib.hid hdone
      clear hf hdone
      have hlF := fun b hb => Rep.sl_lt HS.out b hb
      go_wp2_with fail
      have hf1 := ((HF0.out.set hgF 0 (by omega) (.int .i64 (p))).set hgF 1 (by omega) (.int .i64 (p + 1)))
      replace s1 := Rep.sl_only s1 (G := [g]) (((Only.refl _ wr).setCell (p := ⟨g, off + j * 3 + 0, none⟩) (fun _ => by simp) (.int .i64 (p))).setCell (p := ⟨g, off + j * 3 + 1, none⟩) (fun _ => by simp) (.int .i64 (p + 1))) (fun b hb h => hgG (by have := List.mem_singleton.1 h; subst this; simp [hb]))
      refine (markByteS_calls _ _ _ _ _ _ s1 n1 (fun b hb o => hf1.unfr b (hGF b (by simp [hb])) o) (by omega) (by omega)).mono ?_
      rintro e w1 ⟨rfl, s1', hO, hu1⟩
      replace hf1 := hf1.call hO (fun b hb => by simp [hb]) hGF hgG hu1 hlF
      clear hO hu1 s1 k0 k1 k2 kf
      have s1 := s1'
      clear s1'
      have k0 : w1.cell? ⟨g, off + j * 3, none⟩ = some _ := hf1.cell 0 _ rfl
      have k1 := hf1.cell 1 _ rfl
      have k2 := hf1.cell 2 _ rfl
      have kf := fun o => hf1.unfr g hgF o
      have HF1 := Lib.hid hf1
      clear hf1
      go_wp2
      go_roundg (xs.length - (j + 1))
      case measure => have := HJ.out; omega
      case rel =>
        have hfe := HF1.out
        have hr := HD.out _ (mkOp p x) _ hfe ⟨A1, c1, _, (by simp [mkOp, mkB_len]), rfl, (by simp only [wfOp, mkOp]; (repeat' apply And.intro) <;> exact WalkArith.wf_i64 (by omega)), s1⟩
        rw [HST.out] at hr
        refine ⟨j + 1, _, by omega, by go_num, rfl, ?_, (HO.out.trans hfe.only), hfe.unfr, hr⟩
        have := HP.out
        rw [ctOpS_take xs j hlt, HX.out]
        unfold ctOp
        omega
    · have hj := HJ.out
      have hs := HS.out
      have hp := HP.out
      rw [List.take_of_length_le (by rw [mkOpS_len]; omega), List.drop_of_length_le (by omega), List.append_nil] at hs
      rw [List.take_of_length_le (by omega)] at hp
      have HP2 := Lib.hid hp
      clear hp HP
      go_wp2
      go_ret
      exact ⟨ret_int HP2.out, hs, HO.out, HU.out⟩

end Go.Proofs.Ytdjcfcgkldokgaa
