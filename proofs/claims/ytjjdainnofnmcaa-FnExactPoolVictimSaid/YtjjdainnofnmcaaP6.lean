/- poolDo with its functions. -/
import Derived.Test.YtjjdainnofnmcaaP5
namespace Go.Proofs.Ytjjdainnofnmcaa
open Go.RowKit
set_option linter.unusedSimpArgs false
set_option linter.unusedVariables false
theorem fClean_calls (g o : Nat) (u3 u4 : Value) (w : World) (k3 : w.cell? ⟨g, o + 3, none⟩ = some u3) (k4 : w.cell? ⟨g, o + 4, none⟩ = some u4) (f : ∀ j, w.frozen? ⟨g, j, none⟩ = false) :
    Calls Try.prog 58 #[.pointer (some ⟨g, o, none⟩)] w fun e w' => e = .returned (.int .i64 0) ∧ w' = (w.setCell ⟨g, o + 3, none⟩ (.bool false)).setCell ⟨g, o + 4, none⟩ (.int .i64 0) := by
  have hu2 := Try.underlying43
  go_enter Try.func58, Try.ntmps58
  go_wp2
  go_ret
  exact ⟨rfl, rfl⟩
set_option maxRecDepth 100000 in
set_option maxHeartbeats 2000000 in
theorem poolDoClean_calls (w : World) (v : Value) (p : DPool) (F : List Nat) (h : Rep.Pool.V w v p F) (page : Int) (ep : (Lit.int .i64 page).wf = true) (hs2 : wtPool p ≤ 1048576) :
    Calls Try.prog 54 #[v, .int .i64 page, .func (.func 58) #[] #[]] w (NewPost Rep.PoolResult (poolMod p page gClean) w) := by
  obtain ⟨_, ⟨A1, c1, F1, rfl, rfl, hw, s1⟩, rfl⟩ := id h
  have hu := Try.underlying29
  have hu2 := Try.underlying43
  have hu3 := Try.underlying40
  have hm := Nat.le_trans s1.1 s1.2.1
  unfold maxLen at hm
  generalize hR : poolMod p page gClean = R
  have HR := Lib.hid hR
  clear hR
  show Calls _ _ #[.agg #[_, _], _, _] _ _
  go_enter Try.func54, Try.ntmps54
  go_wp2_with fail
  refine (implPoolFault_calls _ p _ _ ⟨_, ⟨A1, c1, _, rfl, rfl, hw, Rep.sl_ext s1 ((alloc_ext _ _).alloc _)⟩, rfl⟩).mono ?_
  rintro e w1 ⟨rfl, hO⟩
  have HE1 := Lib.hid (Only.ext ((alloc_ext w _).alloc _) hO)
  have hb1 := Only.heap hO (heap_alloc2_old w _ _) (by simp)
  have hb2 := Only.heap hO (heap_alloc2_new w _ _) (by simp)
  clear hO
  have m1 := fun o => cell_of_row _ _ o _ _ _ hb1
  have m2 := fun o => cell_of_row _ _ o _ _ _ hb2
  have f2 := fun o => frozen_of_row _ _ o _ _ hb2
  have HB1 := Lib.hid hb1; have HB2 := Lib.hid hb2
  clear hb1 hb2
  by_cases h1 : poolFault p = 0
  rotate_left
  · have hb : (poolFault p != 0) = true := by simp [h1]
    obtain rfl : codeRes 1 = R := by rw [← HR.out, poolMod_1 h1]
    clear h1
    go_wp2
    refine bodyPost_ret (v := .agg #[.int .i64 1, .int .i64 0, .slice none 0 0, .int .i64 0]) (by simp [results, Try.results54, go_sem, m2]) rfl ?_
    exact codeRes_post (by decide) (by repeat (first | with_reducible exact HE1.out | ((with_reducible apply Only.set); · simp)))
  have hb : (poolFault p != 0) = false := by simp [h1]
  go_wp2_with fail
  refine (find_calls _ _ c1 p.Frames _ page _ (m1 0) (Rep.sl_ext s1 HE1.out)).mono ?_
  rintro e w2 ⟨rfl, hO⟩
  rw [findIf_find p page h1]
  have HE2 := Lib.hid (Only.ext HE1.out hO)
  have hb1 := Only.heap hO HB1.out (by simp)
  have hb2 := Only.heap hO HB2.out (by simp)
  clear hO m1 m2 f2 HB1 HB2
  have m1 := fun o => cell_of_row _ _ o _ _ _ hb1
  have m2 := fun o => cell_of_row _ _ o _ _ _ hb2
  have f2 := fun o => frozen_of_row _ _ o _ _ hb2
  have HB2 := Lib.hid hb2
  clear hb1 hb2
  rcases poolFind_range p page with h2 | ⟨h2, h3⟩
  · obtain rfl : codeRes 2 = R := by rw [← HR.out, poolMod_2 h1 (by omega)]
    rw [h2]
    clear h1 h2
    go_wp2
    refine bodyPost_ret (v := .agg #[.int .i64 2, .int .i64 0, .slice none 0 0, .int .i64 0]) (by simp [results, Try.results54, go_sem, m2]) rfl ?_
    exact codeRes_post (by decide) (by repeat (first | with_reducible exact HE2.out | ((with_reducible apply Only.set); · simp)))
  obtain ⟨i, he⟩ := Int.eq_ofNat_of_zero_le h2
  have hi : i < p.Frames.length := by omega
  have HR2 := HR.out
  rw [poolMod_3 h1 i hi he] at HR2
  have ef : (Lit.int .i64 (i : Int)).wf = true := by simp [Lit.wf, IntKind.min, IntKind.max, IntKind.signed, IntKind.bits]; omega
  rw [he]
  clear h1 h2 h3 he HR
  generalize hx : p.Frames[i] = x at *
  have HX := Lib.hid hx
  clear hx
  rw [if_neg (by simp [gClean])] at HR2
  subst HR2
  go_wp2_with fail
  refine (clonePool_calls _ p _ _ ⟨_, ⟨_, c1, _, rfl, rfl, hw, Rep.sl_ext s1 HE2.out⟩, rfl⟩ hs2).mono ?_
  rintro e w3 ⟨v3, F3, rfl, hV, hN⟩
  obtain ⟨_, ⟨B, d, F3', rfl, rfl, hw3, q⟩, hv⟩ := hV
  replace hv : v3 = .agg #[_, _] := hv
  subst hv
  have HE3 := Lib.hid (Only.ext HE2.out hN.ext)
  have hb2 := Only.heap hN.ext HB2.out (by simp)
  have hzw2 : w.heap.size + 1 < w2.heap.size := (Array.getElem?_eq_some_iff.1 HB2.out).1
  clear m1 m2 f2 HB2
  have m2 := fun o => cell_of_row _ _ o _ _ _ hb2
  have f2 := fun o => frozen_of_row _ _ o _ _ hb2
  have hz3 := (Array.getElem?_eq_some_iff.1 hb2).1
  clear hb2
  obtain ⟨g', off', dd, GG, rfl, hgF, hgG, hGF, hGn, hRx, hFoc, hput⟩ := Rep.sl_foc2 q hN.nodup hN.unfr i hi
  have hg3 : g' < w3.heap.size := hFoc.lt
  have hg2 : w2.heap.size ≤ g' := hN.new g' hgF
  obtain ⟨B5, d5, GG5, rfl, rfl, hwf5, q5⟩ := hRx
  have HX5 := HX.out
  rw [HX5] at hFoc q5 hwf5
  have k0 := hFoc.cell 0 _ rfl
  have k1 := hFoc.cell 1 _ rfl
  have k2 := hFoc.cell 2 _ rfl
  have k3 := hFoc.cell 3 _ rfl
  have k4 := hFoc.cell 4 _ rfl
  have k5 := hFoc.cell 5 _ rfl
  have f0 := fun o => hFoc.unfr g' hgF o
  simp only [show Rep.Frame.sz = 6 from rfl, Nat.add_zero] at k0 k1 k2 k3 k4 k5 hFoc hput
  have HFoc := Lib.hid hFoc; have HPUT := Lib.hid hput; have HN := Lib.hid hN
  clear hFoc hput hN HX5
  have hne1 : ¬ g' = w3.heap.size := by omega
  have hne2 : ¬ w3.heap.size = g' := by omega
  have hne3 : ¬ g' = w.heap.size + 1 := by omega
  have hne4 : ¬ w.heap.size + 1 = g' := by omega
  go_wp2_with fail
  have HA := alloc_ext w3 (.cells #[.int .i64 0, .int .i64 i, .slice (some ⟨g', off', none⟩) p.Frames.length d, .int .i64 p.Hand] 40)
  have hb8 := heap_alloc_new w3 (.cells #[.int .i64 0, .int .i64 i, .slice (some ⟨g', off', none⟩) p.Frames.length d, .int .i64 p.Hand] 40)
  generalize (w3.alloc (.cells #[.int .i64 0, .int .i64 i, .slice (some ⟨g', off', none⟩) p.Frames.length d, .int .i64 p.Hand] 40)) = W4 at HA hb8 ⊢
  have n8 := fun o => cell_of_row _ _ o _ _ _ hb8
  have HF4 := Lib.hid (HFoc.out.ext HA (fun b hb => Rep.sl_lt q b hb))
  have HE4 := Lib.hid (HE3.out.ext HA)
  have q6 := Rep.sl_ext q5 HA
  have r2 : ∀ o, W4.cell? ⟨w.heap.size + 1, o, none⟩ = _ := fun o => (World.cell?_of_block (a := ⟨w.heap.size + 1, o, none⟩) (HA.block _ hz3 (by simp))).trans (m2 o)
  have rf2 : ∀ o, W4.frozen? ⟨w.heap.size + 1, o, none⟩ = false := fun o => HA.efroz hz3 (f2 o)
  have rf : ∀ o, W4.frozen? ⟨g', o, none⟩ = false := fun o => HA.efroz hg3 (f0 o)
  have hz4 := HA.size
  refine (fClean_calls g' (off' + i * 6) _ _ W4 (HA.ecell k3) (HA.ecell k4) rf).mono ?_
  rintro e w5 ⟨rfl, rfl⟩
  clear k0 k1 k2 k3 k4 k5 m2 f0 f2 hb8 rf
  go_wp2
  refine bodyPost_ret (v := .agg #[.int .i64 0, .int .i64 i, .slice (some ⟨g', off', none⟩) p.Frames.length d, .int .i64 p.Hand]) (by simp [results, Try.results54, go_sem, r2]) rfl ?_
  have HF6 := (HF4.out.set hgF 3 (by decide) (.bool false)).set hgF 4 (by decide) (.int .i64 0)
  refine pool_done (HPUT.out _ { x with Dirty := false, RecLSN := 0 } _ GG HF6 ⟨B5, d5, GG, rfl, rfl, ⟨hwf5.1, hwf5.2.1, rfl⟩, Rep.sl_only q6 (G := [g']) (by repeat (first | with_reducible exact Only.refl _ _ | ((with_reducible apply Only.set); · simp))) (fun b hb hb' => by simp at hb'; exact hgG (hb' ▸ hb))⟩ hgG hGn (fun b hb j => HF6.unfr b (hGF b hb) j) (fun b hb _ => hb))
    (fun b hb => by have := HN.out.new b hb; omega) (fun b hb => by have := HN.out.new b (hGF b hb); omega) (by repeat (first | with_reducible exact Only.refl _ _ | with_reducible apply Only.alloc | ((with_reducible apply Only.set); · simp))) ?_ (Nat.le_succ _) (by simp) rfl ef hw3
  repeat (first | with_reducible exact HE4.out | with_reducible apply Only.alloc | ((with_reducible apply Only.set); · (simp; try omega)))
theorem passOn {w w1 W7 : World} {R : DPoolResult} {A : Option Addr} {c n : Nat} {F : List Nat} {wa : World} (hN : New wa w1 F) (q : Rep.Frame.sl w1 A c R.Pool.Frames F) (hw : wfPoolResult R) (hO : Only [n] w1 W7) (hE : Ext w W7) (hn : n < wa.heap.size) (hz : w.heap.size ≤ wa.heap.size) (hn2 : w.heap.size ≤ n) :
    NewPost Rep.PoolResult R w (.returned (.agg #[.int .i64 R.Code, .int .i64 R.Frame, .slice A R.Pool.Frames.length c, .int .i64 R.Pool.Hand])) W7 :=
  ⟨_, F, rfl, ⟨_, ⟨A, c, F, rfl, rfl, hw, Rep.sl_only q hO (fun b hb hb' => by have := hN.new b hb; simp at hb'; omega)⟩, rfl⟩, hE, fun b hb => Nat.le_trans hz (hN.new b hb), hN.nodup, Unfr.only hN.unfr hO (fun b hb => Rep.sl_lt q b hb) (fun b hb hb' => by have := hN.new b hb; simp at hb'; omega)⟩
theorem implPoolClean_new (w : World) (v : Value) (p : DPool) (F : List Nat) (h : Rep.Pool.V w v p F) (page : Int) (ep : (Lit.int .i64 page).wf = true) (hs2 : wtPool p ≤ 1048576) :
    Calls Try.prog 26 #[v, .int .i64 page] w (NewPost Rep.PoolResult (poolMod p page gClean) w) := by
  obtain ⟨_, ⟨A1, c1, F1, rfl, rfl, hw, s1⟩, rfl⟩ := id h
  have hu := Try.underlying29
  have hu3 := Try.underlying40
  generalize hR : poolMod p page gClean = R
  have HR := Lib.hid hR
  clear hR
  show Calls _ _ #[.agg #[_, _], _] _ _
  go_enter Try.func26, Try.ntmps26
  go_wp2_with fail
  refine (poolDoClean_calls _ _ p _ ⟨_, ⟨A1, c1, _, rfl, rfl, hw, Rep.sl_ext s1 ((alloc_ext _ _).alloc _)⟩, rfl⟩ page ep hs2).mono ?_
  rintro e w1 ⟨v1, F', rfl, hV, hN⟩
  rw [HR.out] at hV
  obtain ⟨_, ⟨B, d, _, rfl, rfl, hw1, q⟩, hv⟩ := hV
  replace hv : v1 = .agg #[_, _, _, _] := hv
  subst hv
  have HE1 := Lib.hid (Only.ext ((alloc_ext w _).alloc _) hN.ext)
  have hb2 := Only.heap hN.ext (heap_alloc2_new w _ _) (by simp)
  have m2 := fun o => cell_of_row _ _ o _ _ _ hb2
  have f2 := fun o => frozen_of_row _ _ o _ _ hb2
  have HN := Lib.hid hN
  clear hb2 hN
  go_wp2
  refine bodyPost_ret (v := .agg #[.int .i64 R.Code, .int .i64 R.Frame, .slice B R.Pool.Frames.length d, .int .i64 R.Pool.Hand]) (by simp [results, Try.results26, go_sem, m2]) rfl ?_
  exact passOn (n := w.heap.size + 1) HN.out q hw1 (by repeat (first | with_reducible exact Only.refl _ _ | ((with_reducible apply Only.set); · simp))) (by repeat (first | with_reducible exact HE1.out | ((with_reducible apply Only.set); · (simp; try omega)))) (by simp) (by simp; omega) (by omega)
theorem poolMod_ct (p : DPool) (page : Int) (g : DFrame → DFrame × Int) (hg : ∀ x, wtFrame (g x).1 ≤ wtFrame x + 1048576) (h : wtPool p ≤ 1048576) : ctTopPoolResult (poolMod p page g) ≤ 1152921504606846976 := by
  unfold poolMod
  split
  · exact codeRes_ct _
  split
  · rename_i hr
    split
    · exact codeRes_ct _
    · refine Nat.le_trans (ctTopPoolResult_wt _) ?_
      have h1 := wtFrameS_set p.Frames (poolFind p page).toNat (g p.Frames[(poolFind p page).toNat]).1
      have h2 := hg p.Frames[(poolFind p page).toNat]
      have h3 := mem_wtFrameS (xs := p.Frames) (poolFind p page).toNat (by omega)
      simp [wtPoolResult, wtPool] at h1 h ⊢
      omega
  · exact codeRes_ct _
theorem specPoolClean_calls (w : World) (v : Value) (p : DPool) (F : List Nat) (h : Rep.Pool.V w v p F) (page : Int) (ep : (Lit.int .i64 page).wf = true) (hs2 : wtPool p ≤ 1048576) :
    Calls Try.prog 36 #[v, .int .i64 page] w fun e w' => ∃ v F, e = .returned v ∧ Rep.PoolResult.V w' v (poolMod p page gClean) F ∧ Ext w w' :=
  (specPoolClean_new w v p F h page ep hs2).mono fun _ _ h => h.weak
theorem poolClean_ct (p : DPool) (page : Int) (h : wtPool p ≤ 1048576) : ctTopPoolResult (poolMod p page gClean) ≤ 1152921504606846976 := poolMod_ct p page _ (fun x => by simp [gClean, wtFrame]) h
end Go.Proofs.Ytjjdainnofnmcaa
