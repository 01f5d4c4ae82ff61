/- Pools copied. -/
import Derived.Test.YtjjdainnofnmcaaP2
import Derived.Test.YtjjdainnofnmcaaC0
namespace Go.Proofs.Ytjjdainnofnmcaa
open Go.RowKit
set_option linter.unusedSimpArgs false
set_option linter.unusedVariables false

theorem wt_frame {xs : List DFrame} (k : Nat) (hk : k < xs.length) (h : wtFrameS xs ≤ 1048576) : (xs[k]).Bytes.length ≤ 1048576 := by
  have := mem_wtFrameS k hk
  unfold wtFrame at this
  omega
set_option maxHeartbeats 1000000 in
theorem l7Copy_calls (v : Value) (p : DPool) (F : List Nat) (w : World) (h : Rep.Pool.V w v p F) (hs : wtPool p ≤ 1048576) :
    Calls Try.prog 60 #[v] w (NewPost Rep.Pool p w) := by
  obtain ⟨_, ⟨A1, c1, F1, rfl, rfl, hw, s1⟩, rfl⟩ := h
  have hu := Try.underlying29
  have hu2 := Try.underlying43
  have hsl : wtFrameS p.Frames ≤ 1048576 := hs
  have hn : p.Frames.length ≤ 1048576 := by unfold wtFrameS at hsl; omega
  have HSL := Lib.hid hsl
  clear hs hsl
  obtain ⟨i0, hi, hz0, hz1, hz2⟩ := info_parts info43
  show Calls _ _ #[.agg #[_, _]] _ _
  obtain ⟨xs, hand⟩ := p
  dsimp only at *
  go_enter Try.func60, Try.ntmps60
  go_wp2
  go_loopg [4] (xs.length) (fun m i wr => ∃ (k : Nat) (v : Value), m + k = xs.length ∧ i = .int .i64 k ∧ Ext w wr ∧ Own Rep.Frame 43 (w.heap.size + 3) wr v (xs.take k) ∧
    wr.heap[w.heap.size]? = some (.cells #[.slice A1 xs.length c1, .int .i64 hand] 29 (0, 0)) ∧ wr.heap[w.heap.size + 1]? = some (.cells #[.slice none 0 0, .int .i64 0] 29 (0, 0)) ∧
    wr.heap[w.heap.size + 1 + 1]? = some (.cells #[v, .int .i64 hand] 29 (0, 0)))
  case atStart => exact ⟨0, _, by simp, rfl, ((alloc_ext _ _).alloc _).alloc _, Own.nil (by simp), Only.heap (F := []) (((Only.refl _ _).alloc _).alloc _) (heap_alloc_new _ _) (by simp), Only.heap (F := []) ((Only.refl _ _).alloc _) (heap_at _ _ (by simp)) (by simp), heap_at _ _ (by simp)⟩
  case round =>
    obtain ⟨k, v, hk, rfl, hO, hOwn, hb1, hb2, hb3⟩ := hrel
    have HO := Lib.hid hO; have HK := Lib.hid hk; have HW := Lib.hid hOwn; have HB1 := Lib.hid hb1; have HB2 := Lib.hid hb2; have HB3 := Lib.hid hb3
    have hz := hOwn.le
    have m1 := fun o => cell_of_row _ _ o _ _ _ hb1
    have m2 := fun o => cell_of_row _ _ o _ _ _ hb2
    have m3 := fun o => cell_of_row _ _ o _ _ _ hb3
    clear hO hk hOwn hb1 hb2 hb3
    by_cases hlt : k < xs.length
    · obtain ⟨g, off, A, c, F1, rfl, hg, hwf, t1, k0, k1, k2, k3, k4, k5⟩ := sl_Frame (Rep.sl_ext s1 HO.out) k hlt
      have hwt := wt_frame k hlt HSL.out
      clear s1
      generalize hx : xs[k] = x at *
      have HX := Lib.hid hx
      clear hx
      go_wp2_with fail
      refine (l1Copy_calls _ _ _ _ _ (Rep.sl_ext t1 (alloc_ext _ _)) (by omega)).mono ?_
      rintro e w2 ⟨v2, F2, rfl, hV, hN⟩
      obtain ⟨B, d, rfl, q⟩ := Rep.slice_V hV
      clear hV t1 k0 k1 k2 k3 k4 k5 m1 m2 m3
      have hE := (alloc_ext wr (.cells #[.int .i64 x.Page, .slice A x.Bytes.length c, .int .i64 x.Pins, .bool x.Dirty, .int .i64 x.RecLSN, .bool x.Ref] 43)).ext hN.ext
      have hb4 := hN.ext.heap (heap_alloc_new _ _) (by simp)
      have hzE := hE.size
      have m3 := fun o => cell_of_row _ _ o _ _ _ (hE.heap HB3.out (by simp))
      have m4 := fun o => cell_of_row _ _ o _ _ _ hb4
      have hf4 := fun o => frozen_of_row _ _ o _ _ hb4
      have hf3 := fun o => frozen_of_row _ _ o _ _ (hE.heap HB3.out (by simp))
      have hK : Only [wr.heap.size] w2 ((w2.setCell ⟨wr.heap.size, 1, none⟩ (.slice B x.Bytes.length d)).alloc (.cells #[.int .i64 x.Page, .slice B x.Bytes.length d, .int .i64 x.Pins, .bool x.Dirty, .int .i64 x.RecLSN, .bool x.Ref] 43)) :=
        ((Only.refl _ _).setCell (by simp) _).alloc _
      have HB3W := Lib.hid (hK.heap (hE.heap HB3.out (by simp)) (by simp; omega))
      have HB2W := Lib.hid (hK.heap (hE.heap HB2.out (by simp)) (by simp; omega))
      have HB1W := Lib.hid (hK.heap (hE.heap HB1.out (by simp)) (by simp; omega))
      have hF := NewIn.one (n := wr.heap.size + 1) hN (fun b hb => Rep.sl_lt q b hb) (by simp)
      have q' := Rep.sl_only q hK (fun b hb hb' => by have := hF.ge b hb; simp at hb'; omega)
      obtain ⟨cs, ho, hle, happ⟩ := Own.app HW.out (((hE.more (G := [wr.heap.size]) (by simp)).then_ hK (by simp))) (by simp) ((hF.keep hK (by simp)).more (Nat.le_succ _)) (x := x) ⟨B, d, F2, rfl, rfl, hwf, q'⟩
      rw [show (xs.take k).length = k by simp; omega] at ho happ
      have HEW := Lib.hid (hE.then_ hK (F := []) (by simp))
      clear hN hF q q' hE hK
      have HAPP := Lib.hid happ
      have HOWN := Lib.hid ho
      clear happ ho
      go_wp2_with (at_builtin; go_must (refine wpList_append_own_at _ rfl _ _ 27 rfl (w.heap.size + 3) 43 i0 _ 6 64 Try.underlying27 hi hz0 hz1 hz2 rfl (by decide) v k cs rfl HOWN.out ⟨w2.heap.size, 0, none⟩ 1 1 [.int .i64 x.Page, .slice B x.Bytes.length d, .int .i64 x.Pins, .bool x.Dirty, .int .i64 x.RecLSN, .bool x.Ref] rfl rfl (cells_new' _ _ _ (by simp [World.setCell])) (by intro u hu; simp at hu; rcases hu with rfl | rfl | rfl | rfl | rfl | rfl <;> rfl) (by unfold maxLen; omega) (by omega) hle ?_); intro v' w' hown hgrow hnil hat; obtain ⟨Av, cv, rfl⟩ := ownsRow_form hown; have hb3' := (hgrow.block (w.heap.size + 1 + 1) (Array.getElem?_eq_some_iff.1 HB3W.out).1 (fun he => by have := HOWN.out.lt _ he.symm; omega)).trans HB3W.out; have m3' := fun o => cell_of_row _ _ o _ _ _ hb3'; have hf3' := fun o => frozen_of_row _ _ o _ _ hb3')
      go_roundg (xs.length - (k + 1))
      case measure => have := HK.out; omega
      case rel =>
        obtain ⟨r1, r2⟩ := HAPP.out _ w' hown hgrow hat
        have hlt' : ∀ g, v.ownBlock = some g → w.heap.size + 3 ≤ g := fun g hg => (HOWN.out.lt g hg).1
        have hS : Only [w.heap.size + 1 + 1] w' (w'.setCell ⟨w.heap.size + 1 + 1, 0, none⟩ (.slice Av (k + 1) cv)) := (Only.refl _ _).setCell (by simp) _
        have hkeep : ∀ (g : Nat) (o : Obj), g < w.heap.size + 1 + 1 → ((w2.setCell ⟨wr.heap.size, 1, none⟩ (.slice B x.Bytes.length d)).alloc (.cells #[.int .i64 x.Page, .slice B x.Bytes.length d, .int .i64 x.Pins, .bool x.Dirty, .int .i64 x.RecLSN, .bool x.Ref] 43)).heap[g]? = some o →
            (w'.setCell ⟨w.heap.size + 1 + 1, 0, none⟩ (.slice Av (k + 1) cv)).heap[g]? = some o := fun g o hg h =>
          hS.heap ((hgrow.block g (Array.getElem?_eq_some_iff.1 h).1 (fun he => by have := hlt' g he.symm; omega)).trans h) (by simp; omega)
        refine ⟨k + 1, .slice Av (k + 1) cv, by omega, by go_num, ?_, ?_, ?_, ?_, ?_⟩
        · exact (r2 [] w (HO.out.trans HEW.out) (by omega)).setCell (by simp; omega) _
        · rw [List.take_succ_eq_append_getElem hlt, HX.out]
          exact r1.keep hS (by simp)
        · exact hkeep _ _ (by omega) HB1W.out
        · exact hkeep _ _ (by omega) HB2W.out
        · exact heap_setCell_same _ _ 0 _ _ _ hb3'
    · have hk := HK.out
      have hown := HW.out
      rw [List.take_of_length_le (by omega)] at hown
      obtain ⟨Fr, hV, hF⟩ := hown.done
      obtain ⟨B, d, rfl, q⟩ := Rep.slice_V hV
      have HF := Lib.hid hF
      have hf2 := fun o => frozen_of_row _ _ o _ _ HB2.out
      clear hown hF hV
      go_wp2
      refine bodyPost_ret (v := .agg #[.slice B xs.length d, .int .i64 hand]) (by simp [results, Try.results60, go_sem, m2]) rfl ?_
      refine ⟨_, _, rfl, ⟨_, ⟨B, d, _, rfl, rfl, hw, Rep.sl_far q (n := w.heap.size + 3) (G := [w.heap.size + 1]) (((Only.refl _ _).setCell (by simp) _).setCell (by simp) _) HF.out.ge (by simp)⟩, rfl⟩, NewIn.mk_ (NewIn.more (HF.out.step (G := [w.heap.size + 1]) (((Only.refl _ _).setCell (by simp) _).setCell (by simp) _) (by simp)) (by omega)) ((HO.out.setCell (by simp) _).setCell (by simp) _)⟩
set_option maxHeartbeats 1000000 in
theorem clonePool_calls (v : Value) (p : DPool) (F : List Nat) (w : World) (h : Rep.Pool.V w v p F) (hs : wtPool p ≤ 1048576) :
    Calls Try.prog 52 #[v] w (NewPost Rep.Pool p w) := by
  obtain ⟨_, ⟨A1, c1, F1, rfl, rfl, hw, s1⟩, rfl⟩ := h
  have hu := Try.underlying29
  have hu2 := Try.underlying43
  have hsl : wtFrameS p.Frames ≤ 1048576 := hs
  have hn : p.Frames.length ≤ 1048576 := by unfold wtFrameS at hsl; omega
  have HSL := Lib.hid hsl
  clear hs hsl
  obtain ⟨i0, hi, hz0, hz1, hz2⟩ := info_parts info43
  show Calls _ _ #[.agg #[_, _]] _ _
  obtain ⟨xs, hand⟩ := p
  dsimp only at *
  go_enter Try.func52, Try.ntmps52
  go_wp2
  go_loopg [12] (xs.length) (fun m i wr => ∃ (k : Nat) (v : Value), m + k = xs.length ∧ i = .int .i64 k ∧ Ext w wr ∧ Own Rep.Frame 43 (w.heap.size + 3) wr v (xs.take k) ∧
    wr.heap[w.heap.size]? = some (.cells #[.slice A1 xs.length c1, .int .i64 hand] 29 (0, 0)) ∧ wr.heap[w.heap.size + 1]? = some (.cells #[.slice none 0 0, .int .i64 0] 29 (0, 0)) ∧
    wr.heap[w.heap.size + 1 + 1]? = some (.cells #[v, .int .i64 hand] 29 (0, 0)))
  case atStart => exact ⟨0, _, by simp, rfl, ((alloc_ext _ _).alloc _).alloc _, Own.nil (by simp), Only.heap (F := []) (((Only.refl _ _).alloc _).alloc _) (heap_alloc_new _ _) (by simp), Only.heap (F := []) ((Only.refl _ _).alloc _) (heap_at _ _ (by simp)) (by simp), heap_at _ _ (by simp)⟩
  case round =>
    obtain ⟨k, v, hk, rfl, hO, hOwn, hb1, hb2, hb3⟩ := hrel
    have HO := Lib.hid hO; have HK := Lib.hid hk; have HW := Lib.hid hOwn; have HB1 := Lib.hid hb1; have HB2 := Lib.hid hb2; have HB3 := Lib.hid hb3
    have hz := hOwn.le
    have m1 := fun o => cell_of_row _ _ o _ _ _ hb1
    have m2 := fun o => cell_of_row _ _ o _ _ _ hb2
    have m3 := fun o => cell_of_row _ _ o _ _ _ hb3
    clear hO hk hOwn hb1 hb2 hb3
    by_cases hlt : k < xs.length
    · obtain ⟨g, off, A, c, F1, rfl, hg, hwf, t1, k0, k1, k2, k3, k4, k5⟩ := sl_Frame (Rep.sl_ext s1 HO.out) k hlt
      have hwt := wt_frame k hlt HSL.out
      clear s1
      generalize hx : xs[k] = x at *
      have HX := Lib.hid hx
      clear hx
      go_wp2_with fail
      refine (Clone_calls _ _ _ _ _ (Rep.sl_ext t1 (alloc_ext _ _)) (by omega)).mono ?_
      rintro e w2 ⟨v2, F2, rfl, hV, hN⟩
      obtain ⟨B, d, rfl, q⟩ := Rep.slice_V hV
      clear hV t1 k0 k1 k2 k3 k4 k5 m1 m2 m3
      have hE := (alloc_ext wr (.cells #[.int .i64 x.Page, .slice A x.Bytes.length c, .int .i64 x.Pins, .bool x.Dirty, .int .i64 x.RecLSN, .bool x.Ref] 43)).ext hN.ext
      have hb4 := hN.ext.heap (heap_alloc_new _ _) (by simp)
      have hzE := hE.size
      have m3 := fun o => cell_of_row _ _ o _ _ _ (hE.heap HB3.out (by simp))
      have m4 := fun o => cell_of_row _ _ o _ _ _ hb4
      have hf4 := fun o => frozen_of_row _ _ o _ _ hb4
      have hf3 := fun o => frozen_of_row _ _ o _ _ (hE.heap HB3.out (by simp))
      have hK : Only [wr.heap.size] w2 ((w2.setCell ⟨wr.heap.size, 1, none⟩ (.slice B x.Bytes.length d)).alloc (.cells #[.int .i64 x.Page, .slice B x.Bytes.length d, .int .i64 x.Pins, .bool x.Dirty, .int .i64 x.RecLSN, .bool x.Ref] 43)) :=
        ((Only.refl _ _).setCell (by simp) _).alloc _
      have HB3W := Lib.hid (hK.heap (hE.heap HB3.out (by simp)) (by simp; omega))
      have HB2W := Lib.hid (hK.heap (hE.heap HB2.out (by simp)) (by simp; omega))
      have HB1W := Lib.hid (hK.heap (hE.heap HB1.out (by simp)) (by simp; omega))
      have hF := NewIn.one (n := wr.heap.size + 1) hN (fun b hb => Rep.sl_lt q b hb) (by simp)
      have q' := Rep.sl_only q hK (fun b hb hb' => by have := hF.ge b hb; simp at hb'; omega)
      obtain ⟨cs, ho, hle, happ⟩ := Own.app HW.out (((hE.more (G := [wr.heap.size]) (by simp)).then_ hK (by simp))) (by simp) ((hF.keep hK (by simp)).more (Nat.le_succ _)) (x := x) ⟨B, d, F2, rfl, rfl, hwf, q'⟩
      rw [show (xs.take k).length = k by simp; omega] at ho happ
      have HEW := Lib.hid (hE.then_ hK (F := []) (by simp))
      clear hN hF q q' hE hK
      have HAPP := Lib.hid happ
      have HOWN := Lib.hid ho
      clear happ ho
      go_wp2_with (at_builtin; go_must (refine wpList_append_own_at _ rfl _ _ 27 rfl (w.heap.size + 3) 43 i0 _ 6 64 Try.underlying27 hi hz0 hz1 hz2 rfl (by decide) v k cs rfl HOWN.out ⟨w2.heap.size, 0, none⟩ 1 1 [.int .i64 x.Page, .slice B x.Bytes.length d, .int .i64 x.Pins, .bool x.Dirty, .int .i64 x.RecLSN, .bool x.Ref] rfl rfl (cells_new' _ _ _ (by simp [World.setCell])) (by intro u hu; simp at hu; rcases hu with rfl | rfl | rfl | rfl | rfl | rfl <;> rfl) (by unfold maxLen; omega) (by omega) hle ?_); intro v' w' hown hgrow hnil hat; obtain ⟨Av, cv, rfl⟩ := ownsRow_form hown; have hb3' := (hgrow.block (w.heap.size + 1 + 1) (Array.getElem?_eq_some_iff.1 HB3W.out).1 (fun he => by have := HOWN.out.lt _ he.symm; omega)).trans HB3W.out; have m3' := fun o => cell_of_row _ _ o _ _ _ hb3'; have hf3' := fun o => frozen_of_row _ _ o _ _ hb3')
      go_roundg (xs.length - (k + 1))
      case measure => have := HK.out; omega
      case rel =>
        obtain ⟨r1, r2⟩ := HAPP.out _ w' hown hgrow hat
        have hlt' : ∀ g, v.ownBlock = some g → w.heap.size + 3 ≤ g := fun g hg => (HOWN.out.lt g hg).1
        have hS : Only [w.heap.size + 1 + 1] w' (w'.setCell ⟨w.heap.size + 1 + 1, 0, none⟩ (.slice Av (k + 1) cv)) := (Only.refl _ _).setCell (by simp) _
        have hkeep : ∀ (g : Nat) (o : Obj), g < w.heap.size + 1 + 1 → ((w2.setCell ⟨wr.heap.size, 1, none⟩ (.slice B x.Bytes.length d)).alloc (.cells #[.int .i64 x.Page, .slice B x.Bytes.length d, .int .i64 x.Pins, .bool x.Dirty, .int .i64 x.RecLSN, .bool x.Ref] 43)).heap[g]? = some o →
            (w'.setCell ⟨w.heap.size + 1 + 1, 0, none⟩ (.slice Av (k + 1) cv)).heap[g]? = some o := fun g o hg h =>
          hS.heap ((hgrow.block g (Array.getElem?_eq_some_iff.1 h).1 (fun he => by have := hlt' g he.symm; omega)).trans h) (by simp; omega)
        refine ⟨k + 1, .slice Av (k + 1) cv, by omega, by go_num, ?_, ?_, ?_, ?_, ?_⟩
        · exact (r2 [] w (HO.out.trans HEW.out) (by omega)).setCell (by simp; omega) _
        · rw [List.take_succ_eq_append_getElem hlt, HX.out]
          exact r1.keep hS (by simp)
        · exact hkeep _ _ (by omega) HB1W.out
        · exact hkeep _ _ (by omega) HB2W.out
        · exact heap_setCell_same _ _ 0 _ _ _ hb3'
    · have hk := HK.out
      have hown := HW.out
      rw [List.take_of_length_le (by omega)] at hown
      obtain ⟨Fr, hV, hF⟩ := hown.done
      obtain ⟨B, d, rfl, q⟩ := Rep.slice_V hV
      have HF := Lib.hid hF
      have hf2 := fun o => frozen_of_row _ _ o _ _ HB2.out
      clear hown hF hV
      go_wp2
      refine bodyPost_ret (v := .agg #[.slice B xs.length d, .int .i64 hand]) (by simp [results, Try.results52, go_sem, m2]) rfl ?_
      refine ⟨_, _, rfl, ⟨_, ⟨B, d, _, rfl, rfl, hw, Rep.sl_far q (n := w.heap.size + 3) (G := [w.heap.size + 1]) (((Only.refl _ _).setCell (by simp) _).setCell (by simp) _) HF.out.ge (by simp)⟩, rfl⟩, NewIn.mk_ (NewIn.more (HF.out.step (G := [w.heap.size + 1]) (((Only.refl _ _).setCell (by simp) _).setCell (by simp) _) (by simp)) (by omega)) ((HO.out.setCell (by simp) _).setCell (by simp) _)⟩
end Go.Proofs.Ytjjdainnofnmcaa
