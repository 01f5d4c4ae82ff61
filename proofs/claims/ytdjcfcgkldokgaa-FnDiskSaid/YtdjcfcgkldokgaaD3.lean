/- Disks copied. -/
import Derived.Test.YtdjcfcgkldokgaaD2
import Derived.Deep.RegionHeld3
namespace Go.Proofs.Ytdjcfcgkldokgaa
open Go.RowKit
set_option linter.unusedSimpArgs false
set_option linter.unusedVariables false
theorem step_append_own {P : Program} {ops : Array Oper} {o : Oper} {a : Act} {w : World} {K : Act → World → Prop} {Q : Exit → Act → World → Prop} {E : Prop} (hgd : o.guard = none) (s x : Operand) (t : TypeId)
    (ho : o.op = .call { callee := .builtin .append, args := #[s, x], argTypes := #[t, t] })
    (base : Nat) (e : TypeId) (i : TypeInfo) (z : Value) (size bytes : Nat) (ht : P.underlying t = some (.slice e)) (hi : P.info? e = some i) (hz : i.zero = some z)
    (hsize : i.size = size) (hby : i.bytes = bytes) (hzs : z.cells.size = size) (hsz : 0 < size)
    (v : Value) (n : Nat) (xs : List Value) (hs : a.eval s = v) (hown : w.ownsRow base e size v n xs)
    (ad : Addr) (m c : Nat) (news : List Value) (hx : a.eval x = .slice (some ad) m c) (hl : news.length = m * size) (hnews : ∀ j u, news[j]? = some u → w.cell? (ad.add j) = some u) (h1 : ∀ u ∈ news, u.oneCell' = true)
    (h63 : n + m ≤ maxLen) (hbytes : (n + m) * bytes ≤ 140737488355328) (hbase : base ≤ w.heap.size)
    (h : ∀ v' w', w'.ownsRow base e size v' (n + m) (xs ++ news) → w.grownBy w' v.ownBlock → (v' = .slice none 0 0 ↔ v = .slice none 0 0 ∧ m = 0) → (v'.ownBlock = v.ownBlock ∨ v'.ownBlock = some w.heap.size) → K (a.put o.dst v') w') :
    if Region.wanted o (yielded ops a.tmps) = true then Oper.wp P o a w K Q else E := by
  have hw : Region.wanted o (yielded ops a.tmps) = true := by simp [Region.wanted, hgd]
  rw [if_pos hw]
  obtain ⟨v', w', hr, h2, h3, h4, h5⟩ := run_append_own_at (P := P) w base t o.type e i z size bytes ht hi hz hsize hby hzs hsz v n xs hown ad m c news hl hnews h1 h63 hbytes hbase
  unfold Oper.wp execOp
  simp only [ho, resolve, invoke, builtin, Sem.run_bind, Sem.run_pure, Result.andThen_ok, List.map_toArray, List.map_cons, List.map_nil, hs, hx, hr]
  exact h v' w' h2 h3 h4 h5
theorem grown_cell {W w' : World} {row : Option Nat} (h : W.grownBy w' row) {p : Addr} {u : Value} (hc : W.cell? p = some u) (hne : row ≠ some p.block) : w'.cell? p = some u :=
  (World.cell?_of_block (h.block p.block (World.block_lt_of_cell? W p hc) (fun e => hne e.symm))).trans hc
theorem heap_alloc2_old (w : World) (o p : Obj) : ((w.alloc o).alloc p).heap[w.heap.size]? = some o := (alloc_ext _ _).heap (heap_alloc_new _ _) (by simp)
theorem heap_alloc2_new (w : World) (o p : Obj) : ((w.alloc o).alloc p).heap[w.heap.size + 1]? = some p := heap_at _ _ (by simp)
set_option maxRecDepth 100000 in
set_option maxHeartbeats 2000000 in
theorem l1CopyDisk_calls (v : Value) (d : DDisk) (F : List Nat) (w : World) (h : Rep.Disk.V w v d F) (hs : wtDisk d ≤ 1048576) :
    Calls Try.prog 55 #[v] w (DiskPost d w) := by
  obtain ⟨_, ⟨A1, c1, F1, A2, c2, F2, rfl, rfl, hw, s1, s2⟩, rfl⟩ := h
  have hu := Try.underlying29
  have hu2 := Try.underlying64
  obtain ⟨i0, hi, hz0, hz1, hz2⟩ := info_parts info64
  show Calls _ _ #[.agg #[_, _]] _ _
  have hm := Nat.le_trans s1.1 s1.2.1
  have hm2 := Nat.le_trans s2.1 s2.2.1
  unfold maxLen at hm hm2
  obtain ⟨dur, xs⟩ := d
  have hsl : dur.length + wtSectorWriteS xs ≤ 1048576 := hs
  have hn : xs.length ≤ 1048576 ∧ dur.length ≤ 1048576 := by unfold wtSectorWriteS at hsl; omega
  obtain ⟨hn1, hn2⟩ := hn
  have HSL := Lib.hid hsl
  dsimp only at *
  clear hs hsl
  go_enter Try.func55, Try.ntmps55
  go_wp2_with fail
  refine (l1Copy_calls _ _ _ _ _ (Rep.sl_ext s1 ((alloc_ext _ _).alloc _)) (by omega)).mono ?_
  rintro e w1 ⟨v1, Fd, rfl, hV, hN⟩
  obtain ⟨B, dd, rfl, q⟩ := Rep.slice_V hV
  have HE1 := Lib.hid (Only.ext ((alloc_ext w _).alloc _) hN.ext)
  have hb1 := Only.heap hN.ext (heap_alloc2_old w _ _) (by simp)
  have hb2 := Only.heap hN.ext (heap_alloc2_new w _ _) (by simp)
  have hge := hN.new
  have hz1' : w.heap.size + 2 ≤ w1.heap.size := by have := hN.ext.size; simp at this; omega
  have HFD : Hid (∀ g ∈ Fd, w.heap.size + 2 ≤ g ∧ g < w1.heap.size) := fun g hg => ⟨by have := hge g hg; simp at this; omega, Rep.sl_lt q g hg⟩
  have HQ := Lib.hid q; have HN := Lib.hid hN; have S2 := Lib.hid s2
  have m1 := fun o => cell_of_row _ _ o _ _ _ hb1
  have m2 := fun o => cell_of_row _ _ o _ _ _ hb2
  have f2 := fun o => frozen_of_row _ _ o _ _ hb2
  have HB1 := Lib.hid hb1; have HB2 := Lib.hid hb2
  clear hb1 hb2 hge q hN hV s1 s2
  go_wp2
  clear m1 m2 f2
  go_loopg [4] (xs.length) (fun m i wr => ∃ (k : Nat) (v : Value), m + k = xs.length ∧ i = .int .i64 k ∧ Ext w1 wr ∧ Own Rep.SectorWrite 64 (w1.heap.size + 1) wr v (xs.take k) ∧ wr.heap[w1.heap.size]? = some (.cells #[.slice B dur.length dd, v] 29 (0, 0)))
  case atStart => exact ⟨0, _, by simp, rfl, alloc_ext _ _, Own.nil (by simp), heap_alloc_new _ _⟩
  case round =>
    obtain ⟨k, v, hk, rfl, hO, hOwn, hb3⟩ := hrel
    have HO := Lib.hid hO; have HK := Lib.hid hk; have HW := Lib.hid hOwn; have HB3 := Lib.hid hb3
    have hz := hOwn.le
    obtain ⟨Av0, cv0, hvf, -⟩ := hOwn.form
    have m1 := fun o => cell_of_row _ _ o _ _ _ (hO.heap HB1.out (by simp))
    have m3 := fun o => cell_of_row _ _ o _ _ _ hb3
    have f3 := fun o => frozen_of_row _ _ o _ _ hb3
    have HVF := Lib.hid hvf
    clear hO hk hOwn hb3 hvf
    by_cases hlt : k < xs.length
    · obtain ⟨g, off, A, c, F1, rfl, hg, hwf, t1, k0, k1⟩ := sl_SectorWrite S2.out k hlt
      replace k0 := (HE1.out.ext HO.out).ecell k0
      replace k1 := (HE1.out.ext HO.out).ecell k1
      replace t1 := Rep.sl_ext t1 (HE1.out.ext HO.out)
      have hgw : g < w1.heap.size := by omega
      have hne1 : ¬ w.heap.size = w1.heap.size := by omega
      have hne2 : ¬ w1.heap.size = w.heap.size := by omega
      have hne3 : ¬ g = w1.heap.size := by omega
      have hne4 : ¬ w1.heap.size = g := by omega
      have hwt : xs[k].Data.length ≤ 1048576 := by
        have h1 := mem_wtSectorWriteS k hlt
        have h2 := HSL.out
        unfold wtSectorWrite at h1
        omega
      generalize hx : xs[k] = x at *
      have HX := Lib.hid hx
      clear hx
      go_wp2_with fail
      have S := S2
      have z0 : w1.heap.size < wr.heap.size := by omega
      have n0 := m1 1
      have e2 : wr.cell? ⟨w.heap.size, 1, none⟩ = some (.slice (some ⟨g, off, none⟩) xs.length c2) := n0
      refine wp_region_noPanic ?_
      refine wp_region_held_drew (S := (fun w' => w'.cell? ⟨w.heap.size, 1, none⟩ = some (.slice (some ⟨g, off, none⟩) xs.length c2) ∧ w'.cell? ⟨g, off + k * 2, none⟩ = some (.int .i64 x.Sector) ∧ w'.cell? ⟨g, off + k * 2 + 1, none⟩ = some (.slice A x.Data.length c))) (by kernel_rfl) ?_ (fun hHeld => ?_)
      · (try dsimp only); (first | go_keep | exact ⟨hx5.ecell e2, hx5.ecell k0, hx5.ecell k1⟩ | exact ⟨y2, y0, y1⟩)
      refine wpAnyH_take (i := 0) (v := ?_) rfl (by kernel_rfl) (by kernel_rfl) (by kernel_rfl) (fun _ _ _ h => h) (Or.inl ⟨by rfl, ?_⟩) (by assumption) ?_
      rotate_left
      · intro w hSw; (try dsimp only at hSw); go_simp <;> with_reducible rfl
      try simp only [Act.put, List.setIfInBounds_toArray, List.set_cons_zero, List.set_cons_succ]
      refine wpAnyH_take (i := 2) (v := ?_) rfl (by kernel_rfl) (by kernel_rfl) (by kernel_rfl) (fun _ _ _ h => h) (Or.inl ⟨by rfl, ?_⟩) (by assumption) ?_
      rotate_left
      · intro w hSw; (try dsimp only at hSw); go_simp <;> with_reducible rfl
      try simp only [Act.put, List.setIfInBounds_toArray, List.set_cons_zero, List.set_cons_succ]
      refine wpAnyH_take (i := 3) (v := ?_) rfl (by kernel_rfl) (by kernel_rfl) (by kernel_rfl) (fun _ _ _ h => h) (Or.inl ⟨by rfl, ?_⟩) (by assumption) ?_
      rotate_left
      · intro w hSw; (try dsimp only at hSw); go_simp <;> with_reducible rfl
      try simp only [Act.put, List.setIfInBounds_toArray, List.set_cons_zero, List.set_cons_succ]
      refine wpAnyH_take (i := 4) (v := ?_) rfl (by kernel_rfl) (by kernel_rfl) (by kernel_rfl) (fun _ _ _ h => h) (Or.inl ⟨by rfl, ?_⟩) (by assumption) ?_
      rotate_left
      · intro w hSw; (try dsimp only at hSw); go_simp <;> with_reducible rfl
      try simp only [Act.put, List.setIfInBounds_toArray, List.set_cons_zero, List.set_cons_succ]
      refine wpAnyH_take (i := 5) (v := ?_) rfl (by kernel_rfl) (by kernel_rfl) (by kernel_rfl) (fun _ _ _ h => h) (Or.inl ⟨by rfl, ?_⟩) (by assumption) ?_
      rotate_left
      · intro w hSw; (try dsimp only at hSw); go_simp <;> with_reducible rfl
      try simp only [Act.put, List.setIfInBounds_toArray, List.set_cons_zero, List.set_cons_succ]
      refine wpAnyH_take (i := 6) (v := ?_) rfl (by kernel_rfl) (by kernel_rfl) (by kernel_rfl) (fun _ _ _ h => h) (Or.inl ⟨by rfl, ?_⟩) (by assumption) ?_
      rotate_left
      · intro w hSw; (try dsimp only at hSw); go_simp <;> with_reducible rfl
      try simp only [Act.put, List.setIfInBounds_toArray, List.set_cons_zero, List.set_cons_succ]
      refine wpAnyH_take (i := 7) (v := ?_) rfl (by kernel_rfl) (by kernel_rfl) (by kernel_rfl) (fun _ _ _ h => h) (Or.inl ⟨by rfl, ?_⟩) (by assumption) ?_
      rotate_left
      · intro w hSw; (try dsimp only at hSw); go_simp <;> with_reducible rfl
      try simp only [Act.put, List.setIfInBounds_toArray, List.set_cons_zero, List.set_cons_succ]
      refine wpAnyH_take (i := 8) (v := ?_) rfl (by kernel_rfl) (by kernel_rfl) (by kernel_rfl) (fun _ _ _ h => h) (Or.inl ⟨by rfl, ?_⟩) (by assumption) ?_
      rotate_left
      · intro w hSw; (try dsimp only at hSw); go_simp <;> with_reducible rfl
      try simp only [Act.put, List.setIfInBounds_toArray, List.set_cons_zero, List.set_cons_succ]
      refine wpAnyH_take (i := 9) (v := ?_) rfl (by kernel_rfl) (by kernel_rfl) (by kernel_rfl) (fun _ _ _ h => h) (Or.inl ⟨by rfl, ?_⟩) (by assumption) ?_
      rotate_left
      · intro w hSw; (try dsimp only at hSw); go_simp <;> with_reducible rfl
      try simp only [Act.put, List.setIfInBounds_toArray, List.set_cons_zero, List.set_cons_succ]
      refine wpAnyH_take (i := 10) (v := ?_) rfl (by kernel_rfl) (by kernel_rfl) (by kernel_rfl) (fun _ _ _ h => h) (Or.inl ⟨by rfl, ?_⟩) (by assumption) ?_
      rotate_left
      · intro w hSw; (try dsimp only at hSw); go_simp <;> with_reducible rfl
      try simp only [Act.put, List.setIfInBounds_toArray, List.set_cons_zero, List.set_cons_succ]
      refine wpAnyH_take (i := 11) (v := ?_) rfl (by kernel_rfl) (by kernel_rfl) (by kernel_rfl) (fun _ _ _ h => h) (Or.inl ⟨by rfl, ?_⟩) (by assumption) ?_
      rotate_left
      · intro w hSw; (try dsimp only at hSw); go_simp <;> with_reducible rfl
      try simp only [Act.put, List.setIfInBounds_toArray, List.set_cons_zero, List.set_cons_succ]
      refine wpAnyH_take (i := 12) (v := ?_) rfl (by kernel_rfl) (by kernel_rfl) (by kernel_rfl) (fun _ _ _ h => h) (Or.inl ⟨by rfl, ?_⟩) (by assumption) ?_
      rotate_left
      · intro w hSw; (try dsimp only at hSw); go_simp <;> with_reducible rfl
      try simp only [Act.put, List.setIfInBounds_toArray, List.set_cons_zero, List.set_cons_succ]
      refine wpAnyH_take (i := 13) (v := ?_) rfl (by kernel_rfl) (by kernel_rfl) (by kernel_rfl) (fun _ _ _ h => h) (Or.inl ⟨by rfl, ?_⟩) (by assumption) ?_
      rotate_left
      · intro w hSw; (try dsimp only at hSw); go_simp <;> with_reducible rfl
      try simp only [Act.put, List.setIfInBounds_toArray, List.set_cons_zero, List.set_cons_succ]
      refine wpAnyH_ready (rs := [1, 14]) (by kernel_rfl) (by simp) ?_
      refine AllReadyH.cons rfl (fun K hK => ?_) ?_
      · go_simp
        refine hK.out _ _ ?_ (fun hHeld => ?_)
        · (try dsimp only); (first | go_keep | exact ⟨hx5.ecell e2, hx5.ecell k0, hx5.ecell k1⟩ | exact ⟨y2, y0, y1⟩)
        clear hK K
        try simp only [Act.put, List.setIfInBounds_toArray, List.set_cons_zero, List.set_cons_succ]
        refine wpAnyH_ready (rs := [14]) (by kernel_rfl) (by simp) ?_
        refine AllReadyH.cons rfl (fun K hK => ?_) ?_
        · go_simp
          refine (l1Copy_calls _ _ _ _ _ (Rep.sl_ext t1 (Only.refl [] wr).drew) (by omega)).mono ?_
          rintro e w5 ⟨v5, G5, rfl, hV5, hN5⟩
          obtain ⟨A5, c5, rfl, q5⟩ := Rep.slice_V hV5
          have hx5 := ((Only.refl [] wr).drew).ext hN5.ext
          have hbb := Only.heap hx5 HB3.out (by simp)
          have n3 := fun o => cell_of_row _ _ o _ _ _ hbb
          have g3 := fun o => frozen_of_row _ _ o _ _ hbb
          have hzz := hx5.size
          have hEW : Only [] wr (w5.alloc (.cells #[.int .i64 x.Sector, .slice A5 x.Data.length c5] 64)) := hx5.alloc _
          have hb4 := hEW.heap HB3.out (by simp)
          have n4 := fun o => cell_of_row _ _ o _ _ _ hb4
          have g4 := fun o => frozen_of_row _ _ o _ _ hb4
          have HB3W := Lib.hid hb4
          clear hb4
          have hF := (NewIn.one (n := wr.heap.size) hN5 (fun b hb => Rep.sl_lt q5 b hb) (by simp)).keep (alloc_ext w5 (.cells #[.int .i64 x.Sector, .slice A5 x.Data.length c5] 64)) (by simp)
          obtain ⟨cs, ho, hle, happ⟩ := Own.app HW.out hEW (by simp) hF (x := x) ⟨A5, c5, G5, rfl, rfl, hwf, Rep.sl_ext q5 (alloc_ext _ _)⟩
          rw [show (xs.take k).length = k by simp; omega] at ho happ
          have HEW := Lib.hid hEW
          have HAPP := Lib.hid happ
          have HOWN := Lib.hid ho
          clear happ ho hEW hF hbb
          go_wp2_with fail
          refine hK.out _ _ ?_ (fun hHeld => ?_)
          · (try dsimp only); (first | go_keep | exact ⟨hx5.ecell e2, hx5.ecell k0, hx5.ecell k1⟩ | exact ⟨y2, y0, y1⟩)
          clear hK K
          try simp only [Act.put, List.setIfInBounds_toArray, List.set_cons_zero, List.set_cons_succ]
          refine wpAnyH_take (i := 15) (v := ?_) rfl (by kernel_rfl) (by kernel_rfl) (by kernel_rfl) (fun _ _ _ h => h) (Or.inl ⟨by rfl, ?_⟩) (by assumption) ?_
          rotate_left
          · intro w hSw; (try dsimp only at hSw); go_simp <;> with_reducible rfl
          try simp only [Act.put, List.setIfInBounds_toArray, List.set_cons_zero, List.set_cons_succ]
          refine wpAnyH_ready (rs := [16]) (by kernel_rfl) (by simp) ?_
          refine AllReadyH.cons rfl (fun K hK => ?_) ?_
          · go_simp
            refine hK.out _ _ ?_ (fun hHeld => ?_)
            · (try dsimp only); (first | go_keep | exact ⟨hx5.ecell e2, hx5.ecell k0, hx5.ecell k1⟩ | exact ⟨y2, y0, y1⟩)
            clear hK K
            try simp only [Act.put, List.setIfInBounds_toArray, List.set_cons_zero, List.set_cons_succ]
            refine wpAnyH_ready (rs := [17]) (by kernel_rfl) (by simp) ?_
            refine AllReadyH.cons rfl (fun K hK => ?_) ?_
            · refine step_append_own rfl (.tmp 17) (.tmp 32) 27 rfl (w1.heap.size + 1) 64 i0 _ 2 32 Try.underlying27 hi hz0 hz1 hz2 rfl (by decide) v k cs rfl HOWN.out ⟨w5.heap.size, 0, none⟩ 1 1 [.int .i64 x.Sector, .slice A5 x.Data.length c5] rfl rfl (cells_new' _ _ _ (by simp)) (by intro u hu; simp at hu; rcases hu with rfl | rfl <;> rfl) (by unfold maxLen; omega) (by omega) hle ?_
              intro v' w' hown hgrow hnil hat
              obtain ⟨Av, cv, rfl⟩ := ownsRow_form hown
              have hb3' := (hgrow.block w1.heap.size (Array.getElem?_eq_some_iff.1 HB3W.out).1 (fun he => by have := HOWN.out.lt _ he.symm; omega)).trans HB3W.out
              have m3' := fun o => cell_of_row _ _ o _ _ _ hb3'
              have f3' := fun o => frozen_of_row _ _ o _ _ hb3'
              have hnn : ∀ b, b < w1.heap.size → (Value.ownBlock v) ≠ some b := fun b hb he => by { have := HOWN.out.lt _ he; omega }
              have y2 := grown_cell hgrow (HEW.out.ecell e2) (hnn _ (by dsimp only; omega))
              have y0 := grown_cell hgrow (HEW.out.ecell k0) (hnn _ (by dsimp only; omega))
              have y1 := grown_cell hgrow (HEW.out.ecell k1) (hnn _ (by dsimp only; omega))
              refine hK.out _ _ ?_ (fun hHeld => ?_)
              · (try dsimp only); (first | go_keep | exact ⟨hx5.ecell e2, hx5.ecell k0, hx5.ecell k1⟩ | exact ⟨y2, y0, y1⟩)
              clear hK K
              try simp only [Act.put, List.setIfInBounds_toArray, List.set_cons_zero, List.set_cons_succ]
              refine wpAnyH_take (i := 18) (v := ?_) rfl (by kernel_rfl) (by kernel_rfl) (by kernel_rfl) (fun _ _ _ h => h) (Or.inl ⟨by rfl, ?_⟩) (by assumption) ?_
              rotate_left
              · intro w hSw; (try dsimp only at hSw); go_simp <;> with_reducible rfl
              try simp only [Act.put, List.setIfInBounds_toArray, List.set_cons_zero, List.set_cons_succ]
              refine wpAnyH_ready (rs := [19]) (by kernel_rfl) (by simp) ?_
              refine AllReadyH.cons rfl (fun K hK => ?_) ?_
              · go_simp
                refine hK.out _ _ ?_ (fun hHeld => ?_)
                · (try dsimp only); (first | go_keep | exact ⟨hx5.ecell e2, hx5.ecell k0, hx5.ecell k1⟩ | exact ⟨y2, y0, y1⟩)
                clear hK K
                try simp only [Act.put, List.setIfInBounds_toArray, List.set_cons_zero, List.set_cons_succ]
                refine wpAnyH_done (by kernel_rfl) ?_ _
                refine NoPanic.normal ?_
                try clear n3 g3 n4 g4 y0 y1 y2 hnn k0 k1 m1 m3 f3 e2 n0
                go_wp2
                go_roundg (xs.length - (k + 1))
                case measure => have := HK.out; omega
                case rel =>
                  obtain ⟨r1, r2⟩ := HAPP.out _ w' hown hgrow hat
                  have hS : Only [w1.heap.size] w' (w'.setCell ⟨w1.heap.size, 1, none⟩ (.slice Av (k + 1) cv)) := (Only.refl _ _).setCell (by simp) _
                  refine ⟨k + 1, .slice Av (k + 1) cv, by omega, by go_num, ?_, ?_, ?_⟩
                  · exact (r2 [] w1 (HO.out.trans HEW.out) (by omega)).setCell (by simp) _
                  · rw [List.take_succ_eq_append_getElem hlt, HX.out]
                    exact r1.keep hS (by simp)
                  · exact heap_setCell_same _ _ 1 _ _ _ hb3'
              exact AllReadyH.nil
            exact AllReadyH.nil
          exact AllReadyH.nil
        exact AllReadyH.nil
      refine AllReadyH.cons rfl (fun K hK => ?_) ?_
      · go_simp
        refine (l1Copy_calls _ _ _ _ _ (Rep.sl_ext t1 (Only.refl [] wr).drew) (by omega)).mono ?_
        rintro e w5 ⟨v5, G5, rfl, hV5, hN5⟩
        obtain ⟨A5, c5, rfl, q5⟩ := Rep.slice_V hV5
        have hx5 := ((Only.refl [] wr).drew).ext hN5.ext
        have hbb := Only.heap hx5 HB3.out (by simp)
        have n3 := fun o => cell_of_row _ _ o _ _ _ hbb
        have g3 := fun o => frozen_of_row _ _ o _ _ hbb
        have hzz := hx5.size
        have hEW : Only [] wr (w5.alloc (.cells #[.int .i64 x.Sector, .slice A5 x.Data.length c5] 64)) := hx5.alloc _
        have hb4 := hEW.heap HB3.out (by simp)
        have n4 := fun o => cell_of_row _ _ o _ _ _ hb4
        have g4 := fun o => frozen_of_row _ _ o _ _ hb4
        have HB3W := Lib.hid hb4
        clear hb4
        have hF := (NewIn.one (n := wr.heap.size) hN5 (fun b hb => Rep.sl_lt q5 b hb) (by simp)).keep (alloc_ext w5 (.cells #[.int .i64 x.Sector, .slice A5 x.Data.length c5] 64)) (by simp)
        obtain ⟨cs, ho, hle, happ⟩ := Own.app HW.out hEW (by simp) hF (x := x) ⟨A5, c5, G5, rfl, rfl, hwf, Rep.sl_ext q5 (alloc_ext _ _)⟩
        rw [show (xs.take k).length = k by simp; omega] at ho happ
        have HEW := Lib.hid hEW
        have HAPP := Lib.hid happ
        have HOWN := Lib.hid ho
        clear happ ho hEW hF hbb
        go_wp2_with fail
        refine hK.out _ _ ?_ (fun hHeld => ?_)
        · (try dsimp only); (first | go_keep | exact ⟨hx5.ecell e2, hx5.ecell k0, hx5.ecell k1⟩ | exact ⟨y2, y0, y1⟩)
        clear hK K
        try simp only [Act.put, List.setIfInBounds_toArray, List.set_cons_zero, List.set_cons_succ]
        refine wpAnyH_take (i := 15) (v := ?_) rfl (by kernel_rfl) (by kernel_rfl) (by kernel_rfl) (fun _ _ _ h => h) (Or.inl ⟨by rfl, ?_⟩) (by assumption) ?_
        rotate_left
        · intro w hSw; (try dsimp only at hSw); go_simp <;> with_reducible rfl
        try simp only [Act.put, List.setIfInBounds_toArray, List.set_cons_zero, List.set_cons_succ]
        refine wpAnyH_ready (rs := [1, 16]) (by kernel_rfl) (by simp) ?_
        refine AllReadyH.cons rfl (fun K hK => ?_) ?_
        · go_simp
          refine hK.out _ _ ?_ (fun hHeld => ?_)
          · (try dsimp only); (first | go_keep | exact ⟨hx5.ecell e2, hx5.ecell k0, hx5.ecell k1⟩ | exact ⟨y2, y0, y1⟩)
          clear hK K
          try simp only [Act.put, List.setIfInBounds_toArray, List.set_cons_zero, List.set_cons_succ]
          refine wpAnyH_ready (rs := [16]) (by kernel_rfl) (by simp) ?_
          refine AllReadyH.cons rfl (fun K hK => ?_) ?_
          · go_simp
            refine hK.out _ _ ?_ (fun hHeld => ?_)
            · (try dsimp only); (first | go_keep | exact ⟨hx5.ecell e2, hx5.ecell k0, hx5.ecell k1⟩ | exact ⟨y2, y0, y1⟩)
            clear hK K
            try simp only [Act.put, List.setIfInBounds_toArray, List.set_cons_zero, List.set_cons_succ]
            refine wpAnyH_ready (rs := [17]) (by kernel_rfl) (by simp) ?_
            refine AllReadyH.cons rfl (fun K hK => ?_) ?_
            · refine step_append_own rfl (.tmp 17) (.tmp 32) 27 rfl (w1.heap.size + 1) 64 i0 _ 2 32 Try.underlying27 hi hz0 hz1 hz2 rfl (by decide) v k cs rfl HOWN.out ⟨w5.heap.size, 0, none⟩ 1 1 [.int .i64 x.Sector, .slice A5 x.Data.length c5] rfl rfl (cells_new' _ _ _ (by simp)) (by intro u hu; simp at hu; rcases hu with rfl | rfl <;> rfl) (by unfold maxLen; omega) (by omega) hle ?_
              intro v' w' hown hgrow hnil hat
              obtain ⟨Av, cv, rfl⟩ := ownsRow_form hown
              have hb3' := (hgrow.block w1.heap.size (Array.getElem?_eq_some_iff.1 HB3W.out).1 (fun he => by have := HOWN.out.lt _ he.symm; omega)).trans HB3W.out
              have m3' := fun o => cell_of_row _ _ o _ _ _ hb3'
              have f3' := fun o => frozen_of_row _ _ o _ _ hb3'
              have hnn : ∀ b, b < w1.heap.size → (Value.ownBlock v) ≠ some b := fun b hb he => by { have := HOWN.out.lt _ he; omega }
              have y2 := grown_cell hgrow (HEW.out.ecell e2) (hnn _ (by dsimp only; omega))
              have y0 := grown_cell hgrow (HEW.out.ecell k0) (hnn _ (by dsimp only; omega))
              have y1 := grown_cell hgrow (HEW.out.ecell k1) (hnn _ (by dsimp only; omega))
              refine hK.out _ _ ?_ (fun hHeld => ?_)
              · (try dsimp only); (first | go_keep | exact ⟨hx5.ecell e2, hx5.ecell k0, hx5.ecell k1⟩ | exact ⟨y2, y0, y1⟩)
              clear hK K
              try simp only [Act.put, List.setIfInBounds_toArray, List.set_cons_zero, List.set_cons_succ]
              refine wpAnyH_take (i := 18) (v := ?_) rfl (by kernel_rfl) (by kernel_rfl) (by kernel_rfl) (fun _ _ _ h => h) (Or.inl ⟨by rfl, ?_⟩) (by assumption) ?_
              rotate_left
              · intro w hSw; (try dsimp only at hSw); go_simp <;> with_reducible rfl
              try simp only [Act.put, List.setIfInBounds_toArray, List.set_cons_zero, List.set_cons_succ]
              refine wpAnyH_ready (rs := [19]) (by kernel_rfl) (by simp) ?_
              refine AllReadyH.cons rfl (fun K hK => ?_) ?_
              · go_simp
                refine hK.out _ _ ?_ (fun hHeld => ?_)
                · (try dsimp only); (first | go_keep | exact ⟨hx5.ecell e2, hx5.ecell k0, hx5.ecell k1⟩ | exact ⟨y2, y0, y1⟩)
                clear hK K
                try simp only [Act.put, List.setIfInBounds_toArray, List.set_cons_zero, List.set_cons_succ]
                refine wpAnyH_done (by kernel_rfl) ?_ _
                refine NoPanic.normal ?_
                try clear n3 g3 n4 g4 y0 y1 y2 hnn k0 k1 m1 m3 f3 e2 n0
                go_wp2
                go_roundg (xs.length - (k + 1))
                case measure => have := HK.out; omega
                case rel =>
                  obtain ⟨r1, r2⟩ := HAPP.out _ w' hown hgrow hat
                  have hS : Only [w1.heap.size] w' (w'.setCell ⟨w1.heap.size, 1, none⟩ (.slice Av (k + 1) cv)) := (Only.refl _ _).setCell (by simp) _
                  refine ⟨k + 1, .slice Av (k + 1) cv, by omega, by go_num, ?_, ?_, ?_⟩
                  · exact (r2 [] w1 (HO.out.trans HEW.out) (by omega)).setCell (by simp) _
                  · rw [List.take_succ_eq_append_getElem hlt, HX.out]
                    exact r1.keep hS (by simp)
                  · exact heap_setCell_same _ _ 1 _ _ _ hb3'
              exact AllReadyH.nil
            exact AllReadyH.nil
          exact AllReadyH.nil
        refine AllReadyH.cons rfl (fun K hK => ?_) ?_
        · go_simp
          refine hK.out _ _ ?_ (fun hHeld => ?_)
          · (try dsimp only); (first | go_keep | exact ⟨hx5.ecell e2, hx5.ecell k0, hx5.ecell k1⟩ | exact ⟨y2, y0, y1⟩)
          clear hK K
          try simp only [Act.put, List.setIfInBounds_toArray, List.set_cons_zero, List.set_cons_succ]
          refine wpAnyH_ready (rs := [1]) (by kernel_rfl) (by simp) ?_
          refine AllReadyH.cons rfl (fun K hK => ?_) ?_
          · go_simp
            refine hK.out _ _ ?_ (fun hHeld => ?_)
            · (try dsimp only); (first | go_keep | exact ⟨hx5.ecell e2, hx5.ecell k0, hx5.ecell k1⟩ | exact ⟨y2, y0, y1⟩)
            clear hK K
            try simp only [Act.put, List.setIfInBounds_toArray, List.set_cons_zero, List.set_cons_succ]
            refine wpAnyH_ready (rs := [17]) (by kernel_rfl) (by simp) ?_
            refine AllReadyH.cons rfl (fun K hK => ?_) ?_
            · refine step_append_own rfl (.tmp 17) (.tmp 32) 27 rfl (w1.heap.size + 1) 64 i0 _ 2 32 Try.underlying27 hi hz0 hz1 hz2 rfl (by decide) v k cs rfl HOWN.out ⟨w5.heap.size, 0, none⟩ 1 1 [.int .i64 x.Sector, .slice A5 x.Data.length c5] rfl rfl (cells_new' _ _ _ (by simp)) (by intro u hu; simp at hu; rcases hu with rfl | rfl <;> rfl) (by unfold maxLen; omega) (by omega) hle ?_
              intro v' w' hown hgrow hnil hat
              obtain ⟨Av, cv, rfl⟩ := ownsRow_form hown
              have hb3' := (hgrow.block w1.heap.size (Array.getElem?_eq_some_iff.1 HB3W.out).1 (fun he => by have := HOWN.out.lt _ he.symm; omega)).trans HB3W.out
              have m3' := fun o => cell_of_row _ _ o _ _ _ hb3'
              have f3' := fun o => frozen_of_row _ _ o _ _ hb3'
              have hnn : ∀ b, b < w1.heap.size → (Value.ownBlock v) ≠ some b := fun b hb he => by { have := HOWN.out.lt _ he; omega }
              have y2 := grown_cell hgrow (HEW.out.ecell e2) (hnn _ (by dsimp only; omega))
              have y0 := grown_cell hgrow (HEW.out.ecell k0) (hnn _ (by dsimp only; omega))
              have y1 := grown_cell hgrow (HEW.out.ecell k1) (hnn _ (by dsimp only; omega))
              refine hK.out _ _ ?_ (fun hHeld => ?_)
              · (try dsimp only); (first | go_keep | exact ⟨hx5.ecell e2, hx5.ecell k0, hx5.ecell k1⟩ | exact ⟨y2, y0, y1⟩)
              clear hK K
              try simp only [Act.put, List.setIfInBounds_toArray, List.set_cons_zero, List.set_cons_succ]
              refine wpAnyH_take (i := 18) (v := ?_) rfl (by kernel_rfl) (by kernel_rfl) (by kernel_rfl) (fun _ _ _ h => h) (Or.inl ⟨by rfl, ?_⟩) (by assumption) ?_
              rotate_left
              · intro w hSw; (try dsimp only at hSw); go_simp <;> with_reducible rfl
              try simp only [Act.put, List.setIfInBounds_toArray, List.set_cons_zero, List.set_cons_succ]
              refine wpAnyH_ready (rs := [19]) (by kernel_rfl) (by simp) ?_
              refine AllReadyH.cons rfl (fun K hK => ?_) ?_
              · go_simp
                refine hK.out _ _ ?_ (fun hHeld => ?_)
                · (try dsimp only); (first | go_keep | exact ⟨hx5.ecell e2, hx5.ecell k0, hx5.ecell k1⟩ | exact ⟨y2, y0, y1⟩)
                clear hK K
                try simp only [Act.put, List.setIfInBounds_toArray, List.set_cons_zero, List.set_cons_succ]
                refine wpAnyH_done (by kernel_rfl) ?_ _
                refine NoPanic.normal ?_
                try clear n3 g3 n4 g4 y0 y1 y2 hnn k0 k1 m1 m3 f3 e2 n0
                go_wp2
                go_roundg (xs.length - (k + 1))
                case measure => have := HK.out; omega
                case rel =>
                  obtain ⟨r1, r2⟩ := HAPP.out _ w' hown hgrow hat
                  have hS : Only [w1.heap.size] w' (w'.setCell ⟨w1.heap.size, 1, none⟩ (.slice Av (k + 1) cv)) := (Only.refl _ _).setCell (by simp) _
                  refine ⟨k + 1, .slice Av (k + 1) cv, by omega, by go_num, ?_, ?_, ?_⟩
                  · exact (r2 [] w1 (HO.out.trans HEW.out) (by omega)).setCell (by simp) _
                  · rw [List.take_succ_eq_append_getElem hlt, HX.out]
                    exact r1.keep hS (by simp)
                  · exact heap_setCell_same _ _ 1 _ _ _ hb3'
              exact AllReadyH.nil
            exact AllReadyH.nil
          exact AllReadyH.nil
        exact AllReadyH.nil
      exact AllReadyH.nil
    · have hk := HK.out
      have hown := HW.out
      rw [List.take_of_length_le (by omega)] at hown
      obtain ⟨Ap, cp, hpv, -⟩ := hown.form
      subst hpv
      have HW2 := Lib.hid hown
      have hb2' := HO.out.heap HB2.out (by simp)
      have m2 := fun o => cell_of_row _ _ o _ _ _ hb2'
      have f2 := fun o => frozen_of_row _ _ o _ _ hb2'
      clear hown hb2'
      go_wp2
      refine bodyPost_ret (v := .agg #[.slice B dur.length dd, .slice Ap xs.length cp]) (by simp [results, Try.results55, go_sem, m2]) rfl ?_
      have hO2 : Only [w.heap.size + 1] w1 ((wr.setCell ⟨w.heap.size + 1, 0, none⟩ (.slice B dur.length dd)).setCell ⟨w.heap.size + 1, 1, none⟩ (.slice Ap xs.length cp)) :=
        ((HO.out.more (G := [w.heap.size + 1]) (by simp)).setCell (by simp) _).setCell (by simp) _
      refine ⟨B, dd, _, w1.heap.size + 1, rfl, ⟨Fd, Rep.sl_only HQ.out hO2 (fun b hb hb' => by have := HFD.out b hb; simp at hb'; omega), fun g hg => by have := HFD.out g hg; omega, HN.out.nodup, Unfr.only HN.out.unfr hO2 (fun g hg => (HFD.out g hg).2) (fun b hb hb' => by have := HFD.out b hb; simp at hb'; omega), HW2.out.keep (H := [w.heap.size + 1]) (((Only.refl _ _).setCell (by simp) _).setCell (by simp) _) (fun g hg => by simp at hg; omega)⟩, by omega, ((HE1.out.ext HO.out).setCell (by simp) _).setCell (by simp) _⟩
end Go.Proofs.Ytdjcfcgkldokgaa
