/- Disks copied: the program's. -/
import Derived.Test.YtdjcfcgkldokgaaD3
import Derived.Deep.RegionHeld3
namespace Go.Proofs.Ytdjcfcgkldokgaa
open Go.RowKit
set_option linter.unusedSimpArgs false
set_option linter.unusedVariables false
set_option maxRecDepth 100000 in
set_option maxHeartbeats 2000000 in
theorem cloneDisk_calls (v : Value) (d : DDisk) (F : List Nat) (w : World) (h : Rep.Disk.V w v d F) (hs : wtDisk d ≤ 1048576) :
    Calls Try.prog 58 #[v] w (DiskPost d w) := by
  obtain ⟨_, ⟨A1, c1, F1, A2, c2, F2, rfl, rfl, hw, s1, s2⟩, rfl⟩ := h
  have hu := Try.underlying29
  have hu2 := Try.underlying64
  obtain ⟨i0, hi, hz0, hz1, hz2⟩ := info_parts info64
  show Calls _ _ #[.agg #[_, _]] _ _
  have hm := Nat.le_trans s1.1 s1.2.1
  have hm2 := Nat.le_trans s2.1 s2.2.1
  unfold maxLen at hm hm2
  obtain ⟨dur, xs⟩ := d
  have hsl : dur.length + wtSectorWriteS xs ≤ 1048576 := hs
  have hn : xs.length ≤ 1048576 ∧ dur.length ≤ 1048576 := by unfold wtSectorWriteS at hsl; omega
  obtain ⟨hn1, hn2⟩ := hn
  have HSL := Lib.hid hsl
  dsimp only at *
  clear hs hsl
  go_enter Try.func58, Try.ntmps58
  go_wp2_with fail
  refine (Clone_calls _ _ _ _ _ (Rep.sl_ext s1 ((alloc_ext _ _).alloc _)) (by omega)).mono ?_
  rintro e w1 ⟨v1, Fd, rfl, hV, hN⟩
  obtain ⟨B, dd, rfl, q⟩ := Rep.slice_V hV
  have HE1 := Lib.hid (Only.ext ((alloc_ext w _).alloc _) hN.ext)
  have hb1 := Only.heap hN.ext (heap_alloc2_old w _ _) (by simp)
  have hb2 := Only.heap hN.ext (heap_alloc2_new w _ _) (by simp)
  have hge := hN.new
  have hz1' : w.heap.size + 2 ≤ w1.heap.size := by have := hN.ext.size; simp at this; omega
  have HFD : Hid (∀ g ∈ Fd, w.heap.size + 2 ≤ g ∧ g < w1.heap.size) := fun g hg => ⟨by have := hge g hg; simp at this; omega, Rep.sl_lt q g hg⟩
  have HQ := Lib.hid q; have HN := Lib.hid hN; have S2 := Lib.hid s2
  have m1 := fun o => cell_of_row _ _ o _ _ _ hb1
  have m2 := fun o => cell_of_row _ _ o _ _ _ hb2
  have f2 := fun o => frozen_of_row _ _ o _ _ hb2
  have HB1 := Lib.hid hb1; have HB2 := Lib.hid hb2
  clear hb1 hb2 hge q hN hV s1 s2
  have p1 := fun o => cell_of_row _ _ o _ _ _ (Only.heap (alloc_ext w1 (.cells #[.slice B dur.length dd, .slice none 0 0] 29)) HB1.out (by simp))
  go_wp2
  clear m1 m2 f2 p1
  go_loopg [13] (xs.length) (fun m i wr => ∃ (k : Nat) (v : Value), m + k = xs.length ∧ i = .int .i64 k ∧ Ext w1 wr ∧ Own Rep.SectorWrite 64 (w1.heap.size + 1) wr v (xs.take k) ∧ wr.heap[w1.heap.size]? = some (.cells #[.slice B dur.length dd, v] 29 (0, 0)))
  case atStart => exact ⟨0, _, by simp, rfl, alloc_ext _ _, Own.nil (by simp), heap_alloc_new _ _⟩
  case round =>
    obtain ⟨k, v, hk, rfl, hO, hOwn, hb3⟩ := hrel
    have HO := Lib.hid hO; have HK := Lib.hid hk; have HW := Lib.hid hOwn; have HB3 := Lib.hid hb3
    have hz := hOwn.le
    obtain ⟨Av0, cv0, hvf, -⟩ := hOwn.form
    have m1 := fun o => cell_of_row _ _ o _ _ _ (hO.heap HB1.out (by simp))
    have m3 := fun o => cell_of_row _ _ o _ _ _ hb3
    have f3 := fun o => frozen_of_row _ _ o _ _ hb3
    have HVF := Lib.hid hvf
    clear hO hk hOwn hb3 hvf
    by_cases hlt : k < xs.length
    · obtain ⟨g, off, A, c, F1, rfl, hg, hwf, t1, k0, k1⟩ := sl_SectorWrite S2.out k hlt
      replace k0 := (HE1.out.ext HO.out).ecell k0
      replace k1 := (HE1.out.ext HO.out).ecell k1
      replace t1 := Rep.sl_ext t1 (HE1.out.ext HO.out)
      have hgw : g < w1.heap.size := by omega
      have hne1 : ¬ w.heap.size = w1.heap.size := by omega
      have hne2 : ¬ w1.heap.size = w.heap.size := by omega
      have hne3 : ¬ g = w1.heap.size := by omega
      have hne4 : ¬ w1.heap.size = g := by omega
      have hwt : xs[k].Data.length ≤ 1048576 := by
        have h1 := mem_wtSectorWriteS k hlt
        have h2 := HSL.out
        unfold wtSectorWrite at h1
        omega
      generalize hx : xs[k] = x at *
      have HX := Lib.hid hx
      clear hx
      have z0 : w1.heap.size < wr.heap.size := by omega
      have hbW := heap_alloc_new wr (.cells #[.int .i64 x.Sector, .slice A x.Data.length c] 64)
      have hEA := alloc_ext wr (.cells #[.int .i64 x.Sector, .slice A x.Data.length c] 64)
      have hzA : (wr.alloc (.cells #[.int .i64 x.Sector, .slice A x.Data.length c] 64)).heap.size = wr.heap.size + 1 := by simp
      go_wp2_with fail
      generalize wr.alloc (.cells #[.int .i64 x.Sector, .slice A x.Data.length c] 64) = WA at hbW hEA hzA ⊢
      have e0 : WA.cell? ⟨wr.heap.size, 0, none⟩ = some (.int .i64 x.Sector) := cell_of_row _ _ 0 _ _ _ hbW
      have e1 : WA.cell? ⟨wr.heap.size, 1, none⟩ = some (.slice A x.Data.length c) := cell_of_row _ _ 1 _ _ _ hbW
      have HB3A := Lib.hid (hEA.heap HB3.out (by simp))
      have n3 := fun o => cell_of_row _ _ o _ _ _ HB3A.out
      have g3 := fun o => frozen_of_row _ _ o _ _ HB3A.out
      replace t1 := Rep.sl_ext t1 hEA
      have hne5 : ¬ wr.heap.size = w1.heap.size := by omega
      have hne6 : ¬ w1.heap.size = wr.heap.size := by omega
      clear m1 m3 f3 k0 k1 hbW
      refine wp_region_noPanic ?_
      refine wp_region_held_drew (S := (fun w' => w'.cell? ⟨wr.heap.size, 0, none⟩ = some (.int .i64 x.Sector) ∧ w'.cell? ⟨wr.heap.size, 1, none⟩ = some (.slice A x.Data.length c))) (by kernel_rfl) ?_ (fun hHeld => ?_)
      · (try dsimp only); (first | go_keep | exact ⟨hx5.ecell e0, hx5.ecell e1⟩ | exact ⟨y0, y1⟩)
      refine wpAnyH_take (i := 0) (v := ?_) rfl (by kernel_rfl) (by kernel_rfl) (by kernel_rfl) (fun _ _ _ h => h) (Or.inl ⟨by rfl, ?_⟩) (by assumption) ?_
      rotate_left
      · intro w hSw; (try dsimp only at hSw); go_simp <;> with_reducible rfl
      try simp only [Act.put, List.setIfInBounds_toArray, List.set_cons_zero, List.set_cons_succ]
      refine wpAnyH_take (i := 2) (v := ?_) rfl (by kernel_rfl) (by kernel_rfl) (by kernel_rfl) (fun _ _ _ h => h) (Or.inl ⟨by rfl, ?_⟩) (by assumption) ?_
      rotate_left
      · intro w hSw; (try dsimp only at hSw); go_simp <;> with_reducible rfl
      try simp only [Act.put, List.setIfInBounds_toArray, List.set_cons_zero, List.set_cons_succ]
      refine wpAnyH_take (i := 3) (v := ?_) rfl (by kernel_rfl) (by kernel_rfl) (by kernel_rfl) (fun _ _ _ h => h) (Or.inl ⟨by rfl, ?_⟩) (by assumption) ?_
      rotate_left
      · intro w hSw; (try dsimp only at hSw); go_simp <;> with_reducible rfl
      try simp only [Act.put, List.setIfInBounds_toArray, List.set_cons_zero, List.set_cons_succ]
      refine wpAnyH_take (i := 4) (v := ?_) rfl (by kernel_rfl) (by kernel_rfl) (by kernel_rfl) (fun _ _ _ h => h) (Or.inl ⟨by rfl, ?_⟩) (by assumption) ?_
      rotate_left
      · intro w hSw; (try dsimp only at hSw); go_simp <;> with_reducible rfl
      try simp only [Act.put, List.setIfInBounds_toArray, List.set_cons_zero, List.set_cons_succ]
      refine wpAnyH_take (i := 5) (v := ?_) rfl (by kernel_rfl) (by kernel_rfl) (by kernel_rfl) (fun _ _ _ h => h) (Or.inl ⟨by rfl, ?_⟩) (by assumption) ?_
      rotate_left
      · intro w hSw; (try dsimp only at hSw); go_simp <;> with_reducible rfl
      try simp only [Act.put, List.setIfInBounds_toArray, List.set_cons_zero, List.set_cons_succ]
      refine wpAnyH_ready (rs := [1, 6]) (by kernel_rfl) (by simp) ?_
      refine AllReadyH.cons rfl (fun K hK => ?_) ?_
      · go_simp
        refine hK.out _ _ ?_ (fun hHeld => ?_)
        · (try dsimp only); (first | go_keep | exact ⟨hx5.ecell e0, hx5.ecell e1⟩ | exact ⟨y0, y1⟩)
        clear hK K
        try simp only [Act.put, List.setIfInBounds_toArray, List.set_cons_zero, List.set_cons_succ]
        refine wpAnyH_ready (rs := [6]) (by kernel_rfl) (by simp) ?_
        refine AllReadyH.cons rfl (fun K hK => ?_) ?_
        · go_simp
          refine (Clone_calls _ _ _ _ _ (Rep.sl_ext t1 (Only.refl [] WA).drew) (by omega)).mono ?_
          rintro e w5 ⟨v5, G5, rfl, hV5, hN5⟩
          obtain ⟨A5, c5, rfl, q5⟩ := Rep.slice_V hV5
          have hx5 := ((Only.refl [] WA).drew).ext hN5.ext
          have hbb := Only.heap hx5 HB3A.out (by simp)
          have p3 := fun o => cell_of_row _ _ o _ _ _ hbb
          have h3 := fun o => frozen_of_row _ _ o _ _ hbb
          have hzz := hx5.size
          have hEW : Only [] WA (w5.alloc (.cells #[.int .i64 x.Sector, .slice A5 x.Data.length c5] 64)) := hx5.alloc _
          have hb4 := hEW.heap HB3A.out (by simp)
          have n4 := fun o => cell_of_row _ _ o _ _ _ hb4
          have g4 := fun o => frozen_of_row _ _ o _ _ hb4
          have HB3W := Lib.hid hb4
          clear hb4
          have hF := (NewIn.one (n := wr.heap.size) hN5 (fun b hb => Rep.sl_lt q5 b hb) (by simp [hzA])).keep (alloc_ext w5 (.cells #[.int .i64 x.Sector, .slice A5 x.Data.length c5] 64)) (by simp)
          have hEW0 := hEA.trans hEW
          obtain ⟨cs, ho, hle, happ⟩ := Own.app HW.out hEW0 (by simp) hF (x := x) ⟨A5, c5, G5, rfl, rfl, hwf, Rep.sl_ext q5 (alloc_ext _ _)⟩
          rw [show (xs.take k).length = k by simp; omega] at ho happ
          have HEW := Lib.hid hEW0
          have HEWA := Lib.hid hEW
          have HAPP := Lib.hid happ
          have HOWN := Lib.hid ho
          clear happ ho hEW hEW0 hF hbb
          go_wp2_with fail
          refine hK.out _ _ ?_ (fun hHeld => ?_)
          · (try dsimp only); (first | go_keep | exact ⟨hx5.ecell e0, hx5.ecell e1⟩ | exact ⟨y0, y1⟩)
          clear hK K
          try simp only [Act.put, List.setIfInBounds_toArray, List.set_cons_zero, List.set_cons_succ]
          refine wpAnyH_take (i := 7) (v := ?_) rfl (by kernel_rfl) (by kernel_rfl) (by kernel_rfl) (fun _ _ _ h => h) (Or.inl ⟨by rfl, ?_⟩) (by assumption) ?_
          rotate_left
          · intro w hSw; (try dsimp only at hSw); go_simp <;> with_reducible rfl
          try simp only [Act.put, List.setIfInBounds_toArray, List.set_cons_zero, List.set_cons_succ]
          refine wpAnyH_ready (rs := [8]) (by kernel_rfl) (by simp) ?_
          refine AllReadyH.cons rfl (fun K hK => ?_) ?_
          · go_simp
            refine hK.out _ _ ?_ (fun hHeld => ?_)
            · (try dsimp only); (first | go_keep | exact ⟨hx5.ecell e0, hx5.ecell e1⟩ | exact ⟨y0, y1⟩)
            clear hK K
            try simp only [Act.put, List.setIfInBounds_toArray, List.set_cons_zero, List.set_cons_succ]
            refine wpAnyH_ready (rs := [9]) (by kernel_rfl) (by simp) ?_
            refine AllReadyH.cons rfl (fun K hK => ?_) ?_
            · refine step_append_own rfl (.tmp 18) (.tmp 25) 27 rfl (w1.heap.size + 1) 64 i0 _ 2 32 Try.underlying27 hi hz0 hz1 hz2 rfl (by decide) v k cs rfl HOWN.out ⟨w5.heap.size, 0, none⟩ 1 1 [.int .i64 x.Sector, .slice A5 x.Data.length c5] rfl rfl (cells_new' _ _ _ (by simp)) (by intro u hu; simp at hu; rcases hu with rfl | rfl <;> rfl) (by unfold maxLen; omega) (by omega) hle ?_
              intro v' w' hown hgrow hnil hat
              obtain ⟨Av, cv, rfl⟩ := ownsRow_form hown
              have hb3' := (hgrow.block w1.heap.size (Array.getElem?_eq_some_iff.1 HB3W.out).1 (fun he => by have := HOWN.out.lt _ he.symm; omega)).trans HB3W.out
              have m3' := fun o => cell_of_row _ _ o _ _ _ hb3'
              have f3' := fun o => frozen_of_row _ _ o _ _ hb3'
              have hnn : (Value.ownBlock v) ≠ some wr.heap.size := (fun he => by { have := HW.out; obtain ⟨_, _, hrow, _⟩ := this; have := hrow.lt _ he; omega })
              have y0 := grown_cell hgrow (HEWA.out.ecell e0) hnn
              have y1 := grown_cell hgrow (HEWA.out.ecell e1) hnn
              refine hK.out _ _ ?_ (fun hHeld => ?_)
              · (try dsimp only); (first | go_keep | exact ⟨hx5.ecell e0, hx5.ecell e1⟩ | exact ⟨y0, y1⟩)
              clear hK K
              try simp only [Act.put, List.setIfInBounds_toArray, List.set_cons_zero, List.set_cons_succ]
              refine wpAnyH_take (i := 10) (v := ?_) rfl (by kernel_rfl) (by kernel_rfl) (by kernel_rfl) (fun _ _ _ h => h) (Or.inl ⟨by rfl, ?_⟩) (by assumption) ?_
              rotate_left
              · intro w hSw; (try dsimp only at hSw); go_simp <;> with_reducible rfl
              try simp only [Act.put, List.setIfInBounds_toArray, List.set_cons_zero, List.set_cons_succ]
              refine wpAnyH_ready (rs := [11]) (by kernel_rfl) (by simp) ?_
              refine AllReadyH.cons rfl (fun K hK => ?_) ?_
              · go_simp
                refine hK.out _ _ ?_ (fun hHeld => ?_)
                · (try dsimp only); (first | go_keep | exact ⟨hx5.ecell e0, hx5.ecell e1⟩ | exact ⟨y0, y1⟩)
                clear hK K
                try simp only [Act.put, List.setIfInBounds_toArray, List.set_cons_zero, List.set_cons_succ]
                refine wpAnyH_done (by kernel_rfl) ?_ _
                refine NoPanic.normal ?_
                try clear n3 g3 p3 h3 n4 g4 y0 y1 hnn e0 e1
                go_wp2
                go_roundg (xs.length - (k + 1))
                case measure => have := HK.out; omega
                case rel =>
                  obtain ⟨r1, r2⟩ := HAPP.out _ w' hown hgrow hat
                  have hS : Only [w1.heap.size] w' (w'.setCell ⟨w1.heap.size, 1, none⟩ (.slice Av (k + 1) cv)) := (Only.refl _ _).setCell (by simp) _
                  refine ⟨k + 1, .slice Av (k + 1) cv, by omega, by go_num, ?_, ?_, ?_⟩
                  · exact (r2 [] w1 (HO.out.trans HEW.out) (by omega)).setCell (by simp) _
                  · rw [List.take_succ_eq_append_getElem hlt, HX.out]
                    exact r1.keep hS (by simp)
                  · exact heap_setCell_same _ _ 1 _ _ _ hb3'
              exact AllReadyH.nil
            exact AllReadyH.nil
          exact AllReadyH.nil
        exact AllReadyH.nil
      refine AllReadyH.cons rfl (fun K hK => ?_) ?_
      · go_simp
        refine (Clone_calls _ _ _ _ _ (Rep.sl_ext t1 (Only.refl [] WA).drew) (by omega)).mono ?_
        rintro e w5 ⟨v5, G5, rfl, hV5, hN5⟩
        obtain ⟨A5, c5, rfl, q5⟩ := Rep.slice_V hV5
        have hx5 := ((Only.refl [] WA).drew).ext hN5.ext
        have hbb := Only.heap hx5 HB3A.out (by simp)
        have p3 := fun o => cell_of_row _ _ o _ _ _ hbb
        have h3 := fun o => frozen_of_row _ _ o _ _ hbb
        have hzz := hx5.size
        have hEW : Only [] WA (w5.alloc (.cells #[.int .i64 x.Sector, .slice A5 x.Data.length c5] 64)) := hx5.alloc _
        have hb4 := hEW.heap HB3A.out (by simp)
        have n4 := fun o => cell_of_row _ _ o _ _ _ hb4
        have g4 := fun o => frozen_of_row _ _ o _ _ hb4
        have HB3W := Lib.hid hb4
        clear hb4
        have hF := (NewIn.one (n := wr.heap.size) hN5 (fun b hb => Rep.sl_lt q5 b hb) (by simp [hzA])).keep (alloc_ext w5 (.cells #[.int .i64 x.Sector, .slice A5 x.Data.length c5] 64)) (by simp)
        have hEW0 := hEA.trans hEW
        obtain ⟨cs, ho, hle, happ⟩ := Own.app HW.out hEW0 (by simp) hF (x := x) ⟨A5, c5, G5, rfl, rfl, hwf, Rep.sl_ext q5 (alloc_ext _ _)⟩
        rw [show (xs.take k).length = k by simp; omega] at ho happ
        have HEW := Lib.hid hEW0
        have HEWA := Lib.hid hEW
        have HAPP := Lib.hid happ
        have HOWN := Lib.hid ho
        clear happ ho hEW hEW0 hF hbb
        go_wp2_with fail
        refine hK.out _ _ ?_ (fun hHeld => ?_)
        · (try dsimp only); (first | go_keep | exact ⟨hx5.ecell e0, hx5.ecell e1⟩ | exact ⟨y0, y1⟩)
        clear hK K
        try simp only [Act.put, List.setIfInBounds_toArray, List.set_cons_zero, List.set_cons_succ]
        refine wpAnyH_take (i := 7) (v := ?_) rfl (by kernel_rfl) (by kernel_rfl) (by kernel_rfl) (fun _ _ _ h => h) (Or.inl ⟨by rfl, ?_⟩) (by assumption) ?_
        rotate_left
        · intro w hSw; (try dsimp only at hSw); go_simp <;> with_reducible rfl
        try simp only [Act.put, List.setIfInBounds_toArray, List.set_cons_zero, List.set_cons_succ]
        refine wpAnyH_ready (rs := [1, 8]) (by kernel_rfl) (by simp) ?_
        refine AllReadyH.cons rfl (fun K hK => ?_) ?_
        · go_simp
          refine hK.out _ _ ?_ (fun hHeld => ?_)
          · (try dsimp only); (first | go_keep | exact ⟨hx5.ecell e0, hx5.ecell e1⟩ | exact ⟨y0, y1⟩)
          clear hK K
          try simp only [Act.put, List.setIfInBounds_toArray, List.set_cons_zero, List.set_cons_succ]
          refine wpAnyH_ready (rs := [8]) (by kernel_rfl) (by simp) ?_
          refine AllReadyH.cons rfl (fun K hK => ?_) ?_
          · go_simp
            refine hK.out _ _ ?_ (fun hHeld => ?_)
            · (try dsimp only); (first | go_keep | exact ⟨hx5.ecell e0, hx5.ecell e1⟩ | exact ⟨y0, y1⟩)
            clear hK K
            try simp only [Act.put, List.setIfInBounds_toArray, List.set_cons_zero, List.set_cons_succ]
            refine wpAnyH_ready (rs := [9]) (by kernel_rfl) (by simp) ?_
            refine AllReadyH.cons rfl (fun K hK => ?_) ?_
            · refine step_append_own rfl (.tmp 18) (.tmp 25) 27 rfl (w1.heap.size + 1) 64 i0 _ 2 32 Try.underlying27 hi hz0 hz1 hz2 rfl (by decide) v k cs rfl HOWN.out ⟨w5.heap.size, 0, none⟩ 1 1 [.int .i64 x.Sector, .slice A5 x.Data.length c5] rfl rfl (cells_new' _ _ _ (by simp)) (by intro u hu; simp at hu; rcases hu with rfl | rfl <;> rfl) (by unfold maxLen; omega) (by omega) hle ?_
              intro v' w' hown hgrow hnil hat
              obtain ⟨Av, cv, rfl⟩ := ownsRow_form hown
              have hb3' := (hgrow.block w1.heap.size (Array.getElem?_eq_some_iff.1 HB3W.out).1 (fun he => by have := HOWN.out.lt _ he.symm; omega)).trans HB3W.out
              have m3' := fun o => cell_of_row _ _ o _ _ _ hb3'
              have f3' := fun o => frozen_of_row _ _ o _ _ hb3'
              have hnn : (Value.ownBlock v) ≠ some wr.heap.size := (fun he => by { have := HW.out; obtain ⟨_, _, hrow, _⟩ := this; have := hrow.lt _ he; omega })
              have y0 := grown_cell hgrow (HEWA.out.ecell e0) hnn
              have y1 := grown_cell hgrow (HEWA.out.ecell e1) hnn
              refine hK.out _ _ ?_ (fun hHeld => ?_)
              · (try dsimp only); (first | go_keep | exact ⟨hx5.ecell e0, hx5.ecell e1⟩ | exact ⟨y0, y1⟩)
              clear hK K
              try simp only [Act.put, List.setIfInBounds_toArray, List.set_cons_zero, List.set_cons_succ]
              refine wpAnyH_take (i := 10) (v := ?_) rfl (by kernel_rfl) (by kernel_rfl) (by kernel_rfl) (fun _ _ _ h => h) (Or.inl ⟨by rfl, ?_⟩) (by assumption) ?_
              rotate_left
              · intro w hSw; (try dsimp only at hSw); go_simp <;> with_reducible rfl
              try simp only [Act.put, List.setIfInBounds_toArray, List.set_cons_zero, List.set_cons_succ]
              refine wpAnyH_ready (rs := [11]) (by kernel_rfl) (by simp) ?_
              refine AllReadyH.cons rfl (fun K hK => ?_) ?_
              · go_simp
                refine hK.out _ _ ?_ (fun hHeld => ?_)
                · (try dsimp only); (first | go_keep | exact ⟨hx5.ecell e0, hx5.ecell e1⟩ | exact ⟨y0, y1⟩)
                clear hK K
                try simp only [Act.put, List.setIfInBounds_toArray, List.set_cons_zero, List.set_cons_succ]
                refine wpAnyH_done (by kernel_rfl) ?_ _
                refine NoPanic.normal ?_
                try clear n3 g3 p3 h3 n4 g4 y0 y1 hnn e0 e1
                go_wp2
                go_roundg (xs.length - (k + 1))
                case measure => have := HK.out; omega
                case rel =>
                  obtain ⟨r1, r2⟩ := HAPP.out _ w' hown hgrow hat
                  have hS : Only [w1.heap.size] w' (w'.setCell ⟨w1.heap.size, 1, none⟩ (.slice Av (k + 1) cv)) := (Only.refl _ _).setCell (by simp) _
                  refine ⟨k + 1, .slice Av (k + 1) cv, by omega, by go_num, ?_, ?_, ?_⟩
                  · exact (r2 [] w1 (HO.out.trans HEW.out) (by omega)).setCell (by simp) _
                  · rw [List.take_succ_eq_append_getElem hlt, HX.out]
                    exact r1.keep hS (by simp)
                  · exact heap_setCell_same _ _ 1 _ _ _ hb3'
              exact AllReadyH.nil
            exact AllReadyH.nil
          exact AllReadyH.nil
        refine AllReadyH.cons rfl (fun K hK => ?_) ?_
        · go_simp
          refine hK.out _ _ ?_ (fun hHeld => ?_)
          · (try dsimp only); (first | go_keep | exact ⟨hx5.ecell e0, hx5.ecell e1⟩ | exact ⟨y0, y1⟩)
          clear hK K
          try simp only [Act.put, List.setIfInBounds_toArray, List.set_cons_zero, List.set_cons_succ]
          refine wpAnyH_ready (rs := [1]) (by kernel_rfl) (by simp) ?_
          refine AllReadyH.cons rfl (fun K hK => ?_) ?_
          · go_simp
            refine hK.out _ _ ?_ (fun hHeld => ?_)
            · (try dsimp only); (first | go_keep | exact ⟨hx5.ecell e0, hx5.ecell e1⟩ | exact ⟨y0, y1⟩)
            clear hK K
            try simp only [Act.put, List.setIfInBounds_toArray, List.set_cons_zero, List.set_cons_succ]
            refine wpAnyH_ready (rs := [9]) (by kernel_rfl) (by simp) ?_
            refine AllReadyH.cons rfl (fun K hK => ?_) ?_
            · refine step_append_own rfl (.tmp 18) (.tmp 25) 27 rfl (w1.heap.size + 1) 64 i0 _ 2 32 Try.underlying27 hi hz0 hz1 hz2 rfl (by decide) v k cs rfl HOWN.out ⟨w5.heap.size, 0, none⟩ 1 1 [.int .i64 x.Sector, .slice A5 x.Data.length c5] rfl rfl (cells_new' _ _ _ (by simp)) (by intro u hu; simp at hu; rcases hu with rfl | rfl <;> rfl) (by unfold maxLen; omega) (by omega) hle ?_
              intro v' w' hown hgrow hnil hat
              obtain ⟨Av, cv, rfl⟩ := ownsRow_form hown
              have hb3' := (hgrow.block w1.heap.size (Array.getElem?_eq_some_iff.1 HB3W.out).1 (fun he => by have := HOWN.out.lt _ he.symm; omega)).trans HB3W.out
              have m3' := fun o => cell_of_row _ _ o _ _ _ hb3'
              have f3' := fun o => frozen_of_row _ _ o _ _ hb3'
              have hnn : (Value.ownBlock v) ≠ some wr.heap.size := (fun he => by { have := HW.out; obtain ⟨_, _, hrow, _⟩ := this; have := hrow.lt _ he; omega })
              have y0 := grown_cell hgrow (HEWA.out.ecell e0) hnn
              have y1 := grown_cell hgrow (HEWA.out.ecell e1) hnn
              refine hK.out _ _ ?_ (fun hHeld => ?_)
              · (try dsimp only); (first | go_keep | exact ⟨hx5.ecell e0, hx5.ecell e1⟩ | exact ⟨y0, y1⟩)
              clear hK K
              try simp only [Act.put, List.setIfInBounds_toArray, List.set_cons_zero, List.set_cons_succ]
              refine wpAnyH_take (i := 10) (v := ?_) rfl (by kernel_rfl) (by kernel_rfl) (by kernel_rfl) (fun _ _ _ h => h) (Or.inl ⟨by rfl, ?_⟩) (by assumption) ?_
              rotate_left
              · intro w hSw; (try dsimp only at hSw); go_simp <;> with_reducible rfl
              try simp only [Act.put, List.setIfInBounds_toArray, List.set_cons_zero, List.set_cons_succ]
              refine wpAnyH_ready (rs := [11]) (by kernel_rfl) (by simp) ?_
              refine AllReadyH.cons rfl (fun K hK => ?_) ?_
              · go_simp
                refine hK.out _ _ ?_ (fun hHeld => ?_)
                · (try dsimp only); (first | go_keep | exact ⟨hx5.ecell e0, hx5.ecell e1⟩ | exact ⟨y0, y1⟩)
                clear hK K
                try simp only [Act.put, List.setIfInBounds_toArray, List.set_cons_zero, List.set_cons_succ]
                refine wpAnyH_done (by kernel_rfl) ?_ _
                refine NoPanic.normal ?_
                try clear n3 g3 p3 h3 n4 g4 y0 y1 hnn e0 e1
                go_wp2
                go_roundg (xs.length - (k + 1))
                case measure => have := HK.out; omega
                case rel =>
                  obtain ⟨r1, r2⟩ := HAPP.out _ w' hown hgrow hat
                  have hS : Only [w1.heap.size] w' (w'.setCell ⟨w1.heap.size, 1, none⟩ (.slice Av (k + 1) cv)) := (Only.refl _ _).setCell (by simp) _
                  refine ⟨k + 1, .slice Av (k + 1) cv, by omega, by go_num, ?_, ?_, ?_⟩
                  · exact (r2 [] w1 (HO.out.trans HEW.out) (by omega)).setCell (by simp) _
                  · rw [List.take_succ_eq_append_getElem hlt, HX.out]
                    exact r1.keep hS (by simp)
                  · exact heap_setCell_same _ _ 1 _ _ _ hb3'
              exact AllReadyH.nil
            exact AllReadyH.nil
          exact AllReadyH.nil
        exact AllReadyH.nil
      exact AllReadyH.nil
    · have hk := HK.out
      have hown := HW.out
      rw [List.take_of_length_le (by omega)] at hown
      obtain ⟨Ap, cp, hpv, -⟩ := hown.form
      subst hpv
      have HW2 := Lib.hid hown
      have hb2' := HO.out.heap HB2.out (by simp)
      have m2 := fun o => cell_of_row _ _ o _ _ _ hb2'
      have f2 := fun o => frozen_of_row _ _ o _ _ hb2'
      clear hown hb2'
      go_wp2
      refine bodyPost_ret (v := .agg #[.slice B dur.length dd, .slice Ap xs.length cp]) (by simp [results, Try.results58, go_sem, m2]) rfl ?_
      have hO2 : Only [w.heap.size + 1] w1 ((wr.setCell ⟨w.heap.size + 1, 0, none⟩ (.slice B dur.length dd)).setCell ⟨w.heap.size + 1, 1, none⟩ (.slice Ap xs.length cp)) :=
        ((HO.out.more (G := [w.heap.size + 1]) (by simp)).setCell (by simp) _).setCell (by simp) _
      refine ⟨B, dd, _, w1.heap.size + 1, rfl, ⟨Fd, Rep.sl_only HQ.out hO2 (fun b hb hb' => by have := HFD.out b hb; simp at hb'; omega), fun g hg => by have := HFD.out g hg; omega, HN.out.nodup, Unfr.only HN.out.unfr hO2 (fun g hg => (HFD.out g hg).2) (fun b hb hb' => by have := HFD.out b hb; simp at hb'; omega), HW2.out.keep (H := [w.heap.size + 1]) (((Only.refl _ _).setCell (by simp) _).setCell (by simp) _) (fun g hg => by simp at hg; omega)⟩, by omega, ((HE1.out.ext HO.out).setCell (by simp) _).setCell (by simp) _⟩
end Go.Proofs.Ytdjcfcgkldokgaa
