/- The laws' own small functions over lists of int64. -/
import Derived.Test.YtdjcfcgkldokgaaF0
namespace Go.Proofs.Ytdjcfcgkldokgaa
open Go.RowKit
set_option maxRecDepth 100000
theorem info2 : (Try.prog.info? 2).map (fun i => (i.zero, i.size, i.bytes)) = some (some (.int .i64 0), 1, 8) := by kernel_rfl

theorem toInt64S_calls (A : Option Addr) (c : Nat) (xs : List Int) (F : List Nat) (w : World) (h : (Rep.int .i64).sl w A c xs F) (hn : xs.length ≤ 8796093022208) :
    Calls Try.prog 23 #[.slice A xs.length c] w (NewPost (Rep.int .i64).slice xs w) := by
  have Hwf := Lib.hid (sl_wf h)
  obtain ⟨i0, hi, hz0, hz1, hz2⟩ := info_parts info2
  have hmk := fun (W : World) => run_make (P := Try.prog) W 40 2 i0 _ Try.underlying40 hi hz0 .i64 .i64 xs.length xs.length (by omega) (by omega) (by rw [hz2]; omega) (by omega)
  rw [hz1] at hmk
  clear hz1 hz2 hz0
  go_enter Try.func23, Try.ntmps23
  go_wp2
  clear hmk
  go_loopg [4] (xs.length) (fun m i wr => ∃ k : Nat, m + k = xs.length ∧ i = .int .i64 k ∧ Ext w wr ∧ ∃ arr, wr.heap[w.heap.size]? = some (.cells arr 2 (0, 0)) ∧ arr.size = xs.length ∧ ∀ j, j < k → arr[j]? = xs[j]?.map (.int .i64))
  case atStart => exact ⟨0, by simp, rfl, (Only.refl _ _).alloc _, _, heap_alloc_new _ _, by simp [size_madeCells], fun j hj => by omega⟩
  case round =>
    obtain ⟨k, hk, rfl, hO, arr, harr, hsz, hall⟩ := hrel
    have HO := Lib.hid hO; have HA := Lib.hid harr; have HS := Lib.hid hsz; have HL := Lib.hid hall; have HK := Lib.hid hk
    clear hO harr hsz hall hk
    by_cases hlt : k < xs.length
    · obtain ⟨g, off, rfl, hg, _, hc, _⟩ := Rep.sl_int h k hlt
      have hc' := HO.out.ecell hc
      have hc2 : wr.cell? ⟨w.heap.size, k, none⟩ = some (arr[k]'(by rw [HS.out]; omega)) := by rw [cell_of_row wr _ k arr _ (0, 0) HA.out]; simp
      have hf2 : wr.frozen? ⟨w.heap.size, k, none⟩ = false := frozen_of_row wr _ k arr _ HA.out
      clear hc h
      go_wp2
      go_roundg (xs.length - (k + 1))
      case measure => have := HK.out; omega
      case rel =>
        refine ⟨k + 1, by omega, by go_num, HO.out.setCell (fun h => absurd h (by simp)) _, _, heap_setCell_same _ _ _ _ _ _ HA.out, by simp [HS.out], fun j hj => ?_⟩
        rw [Array.getElem?_setIfInBounds]
        have := HS.out
        split
        · subst k; rw [if_pos (by omega)]; simp [hlt]
        · exact HL.out j (by omega)
    · have hk := HK.out
      go_wp2
      go_ret
      have earr : arr = (xs.map (Value.int .i64)).toArray := by
        apply Array.ext_getElem?
        intro j
        by_cases hj : j < xs.length
        · rw [HL.out j (by omega)]; simp
        · rw [Array.getElem?_eq_none (by have := HS.out; omega), Array.getElem?_eq_none (by simp; omega)]
      subst earr
      refine ⟨_, [w.heap.size], rfl, ⟨_, ⟨_, _, rfl, Nat.le_refl _, by unfold maxLen; omega, .inr ⟨w.heap.size, 0, [], _, rfl, rfl, (Array.getElem?_eq_some_iff.1 HA.out).1, cells_ints xs Hwf.out, fun j u hu => ?_⟩⟩, rfl⟩, HO.out, by simp, by simp, ?_⟩
      · rw [Nat.zero_add, cell_of_row _ _ _ _ _ _ HA.out]; simpa using hu
      · intro g hg j
        rw [List.mem_singleton] at hg
        subst hg
        exact frozen_of_row _ _ _ _ _ HA.out

theorem eqInt64S_calls (A : Option Addr) (c : Nat) (xs : List Int) (F : List Nat) (B : Option Addr) (d : Nat) (ys : List Int) (G : List Nat) (w : World) (h : (Rep.int .i64).sl w A c xs F) (k : (Rep.int .i64).sl w B d ys G) :
    Calls Try.prog 25 #[.slice A xs.length c, .slice B ys.length d] w fun e w' => e = .returned (.bool (decide (xs = ys))) ∧ Ext w w' := by
  have hm1 := h.1; have hm2 := h.2.1; have hm3 := k.1; have hm4 := k.2.1
  unfold maxLen at hm2 hm4
  by_cases hl : xs.length = ys.length
  · have hb : ((xs.length : Int) != ys.length) = false := by simp [hl]
    have HL := Lib.hid hl
    clear hl
    go_enter Try.func25, Try.ntmps25
    go_wp2
    go_loopg [5] (xs.length) (fun m i wr => ∃ j : Nat, m + j = xs.length ∧ i = .int .i64 j ∧ Ext w wr ∧ Hid (xs.take j = ys.take j))
    case atStart => exact ⟨0, by simp, rfl, Only.refl _ _, by simp [Hid]⟩
    case round =>
      obtain ⟨j, hj, rfl, hO, HT⟩ := hrel
      have HO := Lib.hid hO; have HJ := Lib.hid hj
      clear hO hj
      by_cases hlt : j < xs.length
      · have hlt2 : j < ys.length := by have := HL.out; omega
        obtain ⟨g1, o1, rfl, _, _, c1, _⟩ := Rep.sl_int h j hlt
        obtain ⟨g2, o2, rfl, _, _, c2, _⟩ := Rep.sl_int k j hlt2
        have c1' := HO.out.ecell c1
        have c2' := HO.out.ecell c2
        clear c1 c2 h k
        by_cases he : xs[j] = ys[j]
        · have hb2 : (xs[j] != ys[j]) = false := by simp [he]
          have HE := Lib.hid he
          clear he
          go_wp2
          go_quiet (fail)
          go_wp2
          go_roundg (xs.length - (j + 1))
          case measure => have := HJ.out; omega
          case rel =>
            refine ⟨j + 1, by omega, by go_num, HO.out.drewN _, ?_⟩
            show _ = _
            rw [List.take_succ_eq_append_getElem hlt, List.take_succ_eq_append_getElem hlt2, HT.out, HE.out]
        · have hb2 : (xs[j] != ys[j]) = true := by simp [he]
          go_wp2
          go_quiet (fail)
          go_wp2
          go_ret
          exact ⟨ret_bool (by symm; rw [decide_eq_false_iff_not]; rintro rfl; exact he rfl), HO.out.drewN _⟩
      · have hj := HJ.out
        have hj2 := HL.out
        have ht := HT.out
        clear HJ HL HT
        rw [List.take_of_length_le (by omega), List.take_of_length_le (by omega)] at ht
        clear hj2
        have HT := Lib.hid ht
        clear ht
        go_wp2
        go_ret
        exact ⟨ret_bool (by simp [HT.out]), HO.out⟩
  · have hb : ((xs.length : Int) != ys.length) = true := by simp; omega
    go_enter Try.func25, Try.ntmps25
    go_wp2
    go_ret
    exact ⟨ret_bool (by symm; rw [decide_eq_false_iff_not]; rintro rfl; exact hl rfl), Only.refl _ _⟩

end Go.Proofs.Ytdjcfcgkldokgaa
