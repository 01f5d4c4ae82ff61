/- l7Pins with -1. -/
import Derived.Test.YtjjdainnofnmcaaP8
namespace Go.Proofs.Ytjjdainnofnmcaa
open Go.RowKit
set_option linter.unusedSimpArgs false
set_option linter.unusedVariables false
set_option maxRecDepth 100000 in
set_option maxHeartbeats 2000000 in
theorem l7Pins_unpin (w : World) (v : Value) (p : DPool) (F : List Nat) (h : Rep.Pool.V w v p F) (page : Int) (ep : (Lit.int .i64 page).wf = true) (hs2 : wtPool p ≤ 1048576) :
    Calls Try.prog 65 #[v, .int .i64 page, .int .i64 (-1)] w (NewPost Rep.PoolResult (poolMod p page gUnpin) w) := by
  obtain ⟨_, ⟨A1, c1, F1, rfl, rfl, hw, s1⟩, rfl⟩ := id h
  have hu := Try.underlying29
  have hu2 := Try.underlying43
  have hu3 := Try.underlying40
  have hm := Nat.le_trans s1.1 s1.2.1
  unfold maxLen at hm
  generalize hR : poolMod p page gUnpin = R
  have HR := Lib.hid hR
  clear hR
  show Calls _ _ #[.agg #[_, _], _, _] _ _
  go_enter Try.func65, Try.ntmps65
  go_wp2_with fail
  refine (l7At_calls _ p _ _ _ ⟨_, ⟨A1, c1, _, rfl, rfl, hw, Rep.sl_ext s1 ((alloc_ext _ _).alloc _)⟩, rfl⟩).mono ?_
  rintro e w1 ⟨rfl, hO⟩
  have HE1 := Lib.hid (Only.ext ((alloc_ext w _).alloc _) hO)
  have hb1 := Only.heap hO (heap_alloc2_old w _ _) (by simp)
  have hb2 := Only.heap hO (heap_alloc2_new w _ _) (by simp)
  clear hO
  have m1 := fun o => cell_of_row _ _ o _ _ _ hb1
  have m2 := fun o => cell_of_row _ _ o _ _ _ hb2
  have f2 := fun o => frozen_of_row _ _ o _ _ hb2
  have HB1 := Lib.hid hb1; have HB2 := Lib.hid hb2
  clear hb1 hb2
  by_cases h1 : poolFault p = 0
  rotate_left
  · have e1 : l7At p page = (0, 1) := by rw [l7At, if_pos h1]
    obtain rfl : codeRes 1 = R := by rw [← HR.out, poolMod_1 h1]
    rw [e1]
    clear h1 e1
    go_wp2
    refine bodyPost_ret (v := .agg #[.int .i64 1, .int .i64 0, .slice none 0 0, .int .i64 0]) (by simp [results, Try.results65, go_sem, m2]) rfl ?_
    exact codeRes_post (by decide) (by repeat (first | with_reducible exact HE1.out | ((with_reducible apply Only.set); · simp)))
  rcases poolFind_range p page with h2 | ⟨h2, h3⟩
  · have e1 : l7At p page = (0, 2) := by rw [l7At, if_neg (by simp [h1]), if_pos (by omega)]
    obtain rfl : codeRes 2 = R := by rw [← HR.out, poolMod_2 h1 (by omega)]
    rw [e1]
    clear h1 e1 h2
    go_wp2
    refine bodyPost_ret (v := .agg #[.int .i64 2, .int .i64 0, .slice none 0 0, .int .i64 0]) (by simp [results, Try.results65, go_sem, m2]) rfl ?_
    exact codeRes_post (by decide) (by repeat (first | with_reducible exact HE1.out | ((with_reducible apply Only.set); · simp)))
  obtain ⟨i, he⟩ := Int.eq_ofNat_of_zero_le h2
  have hi : i < p.Frames.length := by omega
  have e1 : l7At p page = ((i : Int), 0) := by rw [l7At, if_neg (by simp [h1]), if_neg (by omega), he]
  have HR2 := HR.out
  rw [poolMod_3 h1 i hi he] at HR2
  have hpins := poolFind_pins h1 i hi he
  obtain ⟨g0, off0, B0, d0, G0, rfl, hg0, hwf0, t0, -, -, k2', -, -, k5'⟩ := sl_Frame (Rep.sl_ext s1 HE1.out) i hi
  have ef : (Lit.int .i64 (i : Int)).wf = true := by simp [Lit.wf, IntKind.min, IntKind.max, IntKind.signed, IntKind.bits]; omega
  rw [e1]
  clear h1 h2 h3 he e1 HR
  generalize hx : p.Frames[i] = x at *
  have HX := Lib.hid hx
  clear hx
  obtain ⟨hp0, hp1⟩ := hpins
  by_cases hpin : x.Pins = 0
  · have hin : inR (x.Pins + -1) 0 2147483647 = false := by simp [inR]; omega
    obtain rfl : codeRes 3 = R := by rw [← HR2]; simp [gUnpin, hpin]
    clear HR2
    go_wp2_with (go_at_call 59; refine (specIn_calls _ _ _ _).mono ?_; rintro e w1 ⟨rfl, rfl⟩)
    refine bodyPost_ret (v := .agg #[.int .i64 3, .int .i64 0, .slice none 0 0, .int .i64 0]) (by simp [results, Try.results65, go_sem, m2]) rfl ?_
    exact codeRes_post (by decide) (by repeat (first | with_reducible exact HE1.out | ((with_reducible apply Only.set); · simp)))
  have hin : inR (x.Pins + -1) 0 2147483647 = true := by simp [inR]; omega
  rw [if_neg (by simp [gUnpin, hpin])] at HR2
  subst HR2
  go_wp2_with (go_at_call 59; refine (specIn_calls _ _ _ _).mono ?_; rintro e w1 ⟨rfl, rfl⟩)
  refine (l7Copy_calls _ p _ _ ⟨_, ⟨_, c1, _, rfl, rfl, hw, Rep.sl_ext s1 HE1.out⟩, rfl⟩ hs2).mono ?_
  rintro e w3 ⟨v3, F3, rfl, hV, hN⟩
  obtain ⟨_, ⟨B, d, F3', rfl, rfl, hw3, q⟩, hv⟩ := hV
  replace hv : v3 = .agg #[_, _] := hv
  subst hv
  have HE3 := Lib.hid (Only.ext HE1.out hN.ext)
  have hb2 := Only.heap hN.ext HB2.out (by simp)
  have hzw2 : w.heap.size + 1 < w1.heap.size := (Array.getElem?_eq_some_iff.1 HB2.out).1
  have m1c := fun o => cell_of_row _ _ o _ _ _ (Only.heap hN.ext HB1.out (by simp))
  have j2 := hN.ext.ecell k2'
  have j5 := hN.ext.ecell k5'
  clear m1 m2 f2 HB1 HB2 k2' k5'
  have m2 := fun o => cell_of_row _ _ o _ _ _ hb2
  have f2 := fun o => frozen_of_row _ _ o _ _ hb2
  have hz3 := (Array.getElem?_eq_some_iff.1 hb2).1
  clear hb2
  obtain ⟨g', off', dd, GG, rfl, hgF, hgG, hGF, hGn, hRx, hFoc, hput⟩ := Rep.sl_foc2 q hN.nodup hN.unfr i hi
  have hg3 : g' < w3.heap.size := hFoc.lt
  have hg2 : w1.heap.size ≤ g' := hN.new g' hgF
  obtain ⟨B5, d5, GG5, rfl, rfl, hwf5, q5⟩ := hRx
  have HX5 := HX.out
  rw [HX5] at hFoc q5 hwf5
  have k0 := hFoc.cell 0 _ rfl
  have k1 := hFoc.cell 1 _ rfl
  have k2 := hFoc.cell 2 _ rfl
  have k3 := hFoc.cell 3 _ rfl
  have k4 := hFoc.cell 4 _ rfl
  have k5 := hFoc.cell 5 _ rfl
  have f0 := fun o => hFoc.unfr g' hgF o
  simp only [show Rep.Frame.sz = 6 from rfl, Nat.add_zero] at k0 k1 k2 k3 k4 k5 hFoc hput
  have HFoc := Lib.hid hFoc; have HPUT := Lib.hid hput; have HN := Lib.hid hN
  clear hFoc hput hN HX5
  have hne1 : ¬ g' = w3.heap.size := by omega
  have hne2 : ¬ w3.heap.size = g' := by omega
  have hne3 : ¬ g' = w.heap.size + 1 := by omega
  have hne4 : ¬ w.heap.size + 1 = g' := by omega
  have hne5 : ¬ g' = g0 := by omega
  have hne6 : ¬ g0 = g' := by omega
  have hne7 : ¬ g' = w.heap.size := by omega
  have hne8 : ¬ w.heap.size = g' := by omega
  go_wp2_with fail
  have HA := alloc_ext w3 (.cells #[.slice (some ⟨g', off', none⟩) p.Frames.length d, .int .i64 p.Hand] 29)
  have hb8 := heap_alloc_new w3 (.cells #[.slice (some ⟨g', off', none⟩) p.Frames.length d, .int .i64 p.Hand] 29)
  generalize w3.alloc (.cells #[.slice (some ⟨g', off', none⟩) p.Frames.length d, .int .i64 p.Hand] 29) = W4 at HA hb8 ⊢
  have n0 := (cell_of_row _ _ 0 _ _ _ hb8)
  have n1 := (cell_of_row _ _ 1 _ _ _ hb8)
  replace n0 : W4.cell? ⟨w3.heap.size, 0, none⟩ = some (.slice (some ⟨g', off', none⟩) p.Frames.length d) := n0
  replace n1 : W4.cell? ⟨w3.heap.size, 1, none⟩ = some (.int .i64 p.Hand) := n1
  have HF4 := Lib.hid (HFoc.out.ext HA (fun b hb => Rep.sl_lt q b hb))
  have HE4 := Lib.hid (HE3.out.ext HA)
  have q6 := Rep.sl_ext q5 HA
  have r2 : ∀ o, W4.cell? ⟨w.heap.size + 1, o, none⟩ = _ := fun o => (World.cell?_of_block (a := ⟨w.heap.size + 1, o, none⟩) (HA.block _ hz3 (by simp))).trans (m2 o)
  have rf2 : ∀ o, W4.frozen? ⟨w.heap.size + 1, o, none⟩ = false := fun o => HA.efroz hz3 (f2 o)
  have rf : ∀ o, W4.frozen? ⟨g', o, none⟩ = false := fun o => HA.efroz hg3 (f0 o)
  have hz4 := HA.size
  have n2 := HA.ecell j2
  have n5 := HA.ecell j5
  have n6 := HA.ecell (m1c 0)
  have e2 := HA.ecell k2
  have e5 := HA.ecell k5
  clear k0 k1 k2 k3 k4 k5 m1c m2 f0 f2 hb8 j2 j5
  go_region_held3 (fun w' => w'.cell? ⟨w3.heap.size, 0, none⟩ = some (.slice (some ⟨g', off', none⟩) p.Frames.length d) ∧ w'.cell? ⟨w3.heap.size, 1, none⟩ = some (.int .i64 p.Hand) ∧ w'.cell? ⟨w.heap.size, 0, none⟩ = some (.slice (some ⟨g0, off0, none⟩) p.Frames.length c1) ∧ w'.cell? ⟨g0, off0 + i * 6 + 2, none⟩ = some (.int .i64 x.Pins) ∧ w'.cell? ⟨g0, off0 + i * 6 + 5, none⟩ = some (.bool x.Ref)) (go_keep) (fail)
  rename_i hHeld
  obtain ⟨a0, a1, a2, a3, a4⟩ := hHeld
  cases hRef : x.Ref
  · rw [hRef] at a4
    go_wp2_with fail
    refine region_still_tail 15 (by kernel_rfl) (by kernel_rfl) ?_
    simp only [List.take_succ_cons, List.take_zero, List.drop_succ_cons, List.drop_zero]
    repeat still_step
    try refine wpStill_nil ?_
    go_wp2
    refine bodyPost_ret (v := .agg #[.int .i64 0, .int .i64 i, .slice (some ⟨g', off', none⟩) p.Frames.length d, .int .i64 p.Hand]) (by simp [results, Try.results65, go_sem, r2]) rfl ?_
    have hg1 : (gUnpin x).1 = { x with Pins := x.Pins - 1, Ref := false } := by simp [gUnpin, hpin, hRef]
    rw [hg1]
    have HF6 := (HF4.out.set hgF 2 (by decide) (.int .i64 (x.Pins + -1))).set hgF 5 (by decide) (.bool false)
    refine pool_done (HPUT.out _ { x with Pins := x.Pins - 1, Ref := false } _ GG HF6 ⟨B5, d5, GG, rfl, rfl, ⟨hwf5.1, by simp [Lit.wf, IntKind.min, IntKind.max, IntKind.signed, IntKind.bits]; omega, hwf5.2.2⟩, Rep.sl_only q6 (G := [g']) (by repeat (first | with_reducible exact Only.refl _ _ | ((with_reducible apply Only.set); · simp))) (fun b hb hb' => by simp at hb'; exact hgG (hb' ▸ hb))⟩ hgG hGn (fun b hb j => HF6.unfr b (hGF b hb) j) (fun b hb _ => hb))
      (fun b hb => by have := HN.out.new b hb; omega) (fun b hb => by have := HN.out.new b (hGF b hb); omega) (by repeat (first | with_reducible exact Only.refl _ _ | with_reducible apply Only.alloc | with_reducible apply Only.drew | ((with_reducible apply Only.set); · simp))) ?_ (Nat.le_succ _) (by simp) rfl ef hw3
    repeat (first | with_reducible exact HE4.out | with_reducible apply Only.alloc | with_reducible apply Only.drew | ((with_reducible apply Only.set); · (simp; try omega)))
  · rw [hRef] at a4
    go_wp2_with fail
    refine region_still_tail 15 (by kernel_rfl) (by kernel_rfl) ?_
    simp only [List.take_succ_cons, List.take_zero, List.drop_succ_cons, List.drop_zero]
    repeat still_step
    try refine wpStill_nil ?_
    go_wp2
    refine bodyPost_ret (v := .agg #[.int .i64 0, .int .i64 i, .slice (some ⟨g', off', none⟩) p.Frames.length d, .int .i64 p.Hand]) (by simp [results, Try.results65, go_sem, r2]) rfl ?_
    have hg1 : (gUnpin x).1 = { x with Pins := x.Pins - 1, Ref := true } := by simp [gUnpin, hpin, hRef]
    rw [hg1]
    have HF6 := (HF4.out.set hgF 2 (by decide) (.int .i64 (x.Pins + -1))).set hgF 5 (by decide) (.bool true)
    refine pool_done (HPUT.out _ { x with Pins := x.Pins - 1, Ref := true } _ GG HF6 ⟨B5, d5, GG, rfl, rfl, ⟨hwf5.1, by simp [Lit.wf, IntKind.min, IntKind.max, IntKind.signed, IntKind.bits]; omega, hwf5.2.2⟩, Rep.sl_only q6 (G := [g']) (by repeat (first | with_reducible exact Only.refl _ _ | ((with_reducible apply Only.set); · simp))) (fun b hb hb' => by simp at hb'; exact hgG (hb' ▸ hb))⟩ hgG hGn (fun b hb j => HF6.unfr b (hGF b hb) j) (fun b hb _ => hb))
      (fun b hb => by have := HN.out.new b hb; omega) (fun b hb => by have := HN.out.new b (hGF b hb); omega) (by repeat (first | with_reducible exact Only.refl _ _ | with_reducible apply Only.alloc | with_reducible apply Only.drew | ((with_reducible apply Only.set); · simp))) ?_ (Nat.le_succ _) (by simp) rfl ef hw3
    repeat (first | with_reducible exact HE4.out | with_reducible apply Only.alloc | with_reducible apply Only.drew | ((with_reducible apply Only.set); · (simp; try omega)))
end Go.Proofs.Ytjjdainnofnmcaa
