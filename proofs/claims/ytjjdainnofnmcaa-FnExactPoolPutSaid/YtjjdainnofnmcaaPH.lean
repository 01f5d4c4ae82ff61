/- PoolPut: the reference's. -/
import Derived.Test.YtjjdainnofnmcaaPG
namespace Go.Proofs.Ytjjdainnofnmcaa
open Go.RowKit
set_option linter.unusedSimpArgs false
set_option linter.unusedVariables false
set_option maxRecDepth 100000 in
set_option maxHeartbeats 2000000 in
theorem specPoolPut_new (w : World) (v : Value) (p : DPool) (F : List Nat) (h : Rep.Pool.V w v p F) (page : Int) (ep : (Lit.int .i64 page).wf = true) (A : Option Addr) (c : Nat) (bs : List Int) (G : List Nat) (hB : (Rep.int .u8).sl w A c bs G) (lsn : Int) (el : (Lit.int .i64 lsn).wf = true) (hs : bs.length ≤ 1048576) (hs2 : wtPool p ≤ 1048576) :
    Calls Try.prog 39 #[v, .int .i64 page, .slice A bs.length c, .int .i64 lsn] w (NewPost Rep.PoolResult (poolMod p page (gPut bs lsn)) w) := by
  obtain ⟨_, ⟨A1, c1, F1, rfl, rfl, hw, s1⟩, rfl⟩ := id h
  have hu := Try.underlying29
  have hu2 := Try.underlying43
  have hu3 := Try.underlying40
  have hm := Nat.le_trans s1.1 s1.2.1
  unfold maxLen at hm
  generalize hR : poolMod p page (gPut bs lsn) = R
  have HR := Lib.hid hR
  clear hR
  show Calls _ _ #[.agg #[_, _], _, _, _] _ _
  go_enter Try.func39, Try.ntmps39
  go_wp2_with fail
  refine (l7At_calls _ p _ _ _ ⟨_, ⟨A1, c1, _, rfl, rfl, hw, Rep.sl_ext s1 ((alloc_ext _ _).alloc _)⟩, rfl⟩).mono ?_
  rintro e w1 ⟨rfl, hO⟩
  have HE1 := Lib.hid (Only.ext ((alloc_ext w _).alloc _) hO)
  have hb1 := Only.heap hO (heap_alloc2_old w _ _) (by simp)
  have hb2 := Only.heap hO (heap_alloc2_new w _ _) (by simp)
  clear hO
  have m1 := fun o => cell_of_row _ _ o _ _ _ hb1
  have m2 := fun o => cell_of_row _ _ o _ _ _ hb2
  have f2 := fun o => frozen_of_row _ _ o _ _ hb2
  have HB1 := Lib.hid hb1; have HB2 := Lib.hid hb2
  clear hb1 hb2
  by_cases h1 : poolFault p = 0
  rotate_left
  · have e1 : l7At p page = (0, 1) := by rw [l7At, if_pos h1]
    obtain rfl : codeRes 1 = R := by rw [← HR.out, poolMod_1 h1]
    rw [e1]
    clear h1 e1
    go_wp2
    refine bodyPost_ret (v := .agg #[.int .i64 1, .int .i64 0, .slice none 0 0, .int .i64 0]) (by simp [results, Try.results39, go_sem, m2]) rfl ?_
    exact codeRes_post (by decide) (by repeat (first | with_reducible exact HE1.out | ((with_reducible apply Only.set); · simp)))
  rcases poolFind_range p page with h2 | ⟨h2, h3⟩
  · have e1 : l7At p page = (0, 2) := by rw [l7At, if_neg (by simp [h1]), if_pos (by omega)]
    obtain rfl : codeRes 2 = R := by rw [← HR.out, poolMod_2 h1 (by omega)]
    rw [e1]
    clear h1 e1 h2
    go_wp2
    refine bodyPost_ret (v := .agg #[.int .i64 2, .int .i64 0, .slice none 0 0, .int .i64 0]) (by simp [results, Try.results39, go_sem, m2]) rfl ?_
    exact codeRes_post (by decide) (by repeat (first | with_reducible exact HE1.out | ((with_reducible apply Only.set); · simp)))
  obtain ⟨i, he⟩ := Int.eq_ofNat_of_zero_le h2
  have hi : i < p.Frames.length := by omega
  have e1 : l7At p page = ((i : Int), 0) := by rw [l7At, if_neg (by simp [h1]), if_neg (by omega), he]
  have HR2 := HR.out
  rw [poolMod_3 h1 i hi he] at HR2
  have ef : (Lit.int .i64 (i : Int)).wf = true := by simp [Lit.wf, IntKind.min, IntKind.max, IntKind.signed, IntKind.bits]; omega
  rw [e1]
  clear h1 h2 h3 he e1 HR
  generalize hx : p.Frames[i] = x at *
  have HX := Lib.hid hx
  clear hx
  by_cases hg : bs.length = 4096 ∧ inR lsn 1 1099511627776 = true
  rotate_left
  · have eg : gPut bs lsn x = (x, 3) := by rw [gPut, if_neg hg]
    rw [eg, if_pos (by simp)] at HR2
    subst HR2
    have hh : ((bs.length : Int) != 4096) = true ∨ ((bs.length : Int) != 4096) = false ∧ inR lsn 1 1099511627776 = false := by
      by_cases h : bs.length = 4096
      · exact .inr ⟨by simp [h], by simpa [h] using hg⟩
      · exact .inl (by simp; omega)
    clear hg eg
    rcases hh with hh | ⟨hh, hd⟩
    all_goals
      go_wp2_with (go_at_call 59; refine (specIn_calls _ _ _ _).mono ?_; rintro e w1 ⟨rfl, rfl⟩)
      refine bodyPost_ret (v := .agg #[.int .i64 3, .int .i64 0, .slice none 0 0, .int .i64 0]) (by simp [results, Try.results39, go_sem, m2]) rfl ?_
      exact codeRes_post (by decide) (by repeat (first | with_reducible exact HE1.out | ((with_reducible apply Only.set); · simp)))
  have eg : gPut bs lsn x = ({ x with Bytes := bs, Dirty := true, RecLSN := if x.Dirty then x.RecLSN else lsn, Ref := true }, 0) := by rw [gPut, if_pos hg]
  obtain ⟨rl, hrl⟩ : ∃ rl, rl = (if x.Dirty then x.RecLSN else lsn) := ⟨_, rfl⟩
  rw [← hrl] at eg
  have HRL := Lib.hid hrl
  clear hrl
  rw [eg, if_neg (by simp)] at HR2
  have hh : ((bs.length : Int) != 4096) = false := by simp; omega
  have hg2 := hg.2
  subst HR2
  clear hg eg
  go_wp2_with (go_at_call 59; refine (specIn_calls _ _ _ _).mono ?_; rintro e w1 ⟨rfl, rfl⟩)
  refine (l7Copy_calls _ p _ _ ⟨_, ⟨_, c1, _, rfl, rfl, hw, Rep.sl_ext s1 HE1.out⟩, rfl⟩ hs2).mono ?_
  rintro e w3 ⟨v3, F3, rfl, hV, hN⟩
  obtain ⟨_, ⟨B, d, F3', rfl, rfl, hw3, q⟩, hv⟩ := hV
  replace hv : v3 = .agg #[_, _] := hv
  subst hv
  have HE3 := Lib.hid (Only.ext HE1.out hN.ext)
  have hb2 := Only.heap hN.ext HB2.out (by simp)
  have hzw2 : w.heap.size + 1 < w1.heap.size := (Array.getElem?_eq_some_iff.1 HB2.out).1
  clear m1 m2 f2 HB1 HB2
  have m2 := fun o => cell_of_row _ _ o _ _ _ hb2
  have f2 := fun o => frozen_of_row _ _ o _ _ hb2
  have hz3 := (Array.getElem?_eq_some_iff.1 hb2).1
  have HB3 := Lib.hid hb2
  clear hb2
  obtain ⟨g', off', dd, GG, rfl, hgF, hgG, hGF, hGn, hRx, hFoc, hput⟩ := Rep.sl_foc2 q hN.nodup hN.unfr i hi
  have hg3 : g' < w3.heap.size := hFoc.lt
  have hg2 : w1.heap.size ≤ g' := hN.new g' hgF
  obtain ⟨B5, d5, GG5, rfl, rfl, hwf5, q5⟩ := hRx
  have HX5 := HX.out
  rw [HX5] at hFoc q5 hwf5
  have k0 := hFoc.cell 0 _ rfl
  have k1 := hFoc.cell 1 _ rfl
  have k2 := hFoc.cell 2 _ rfl
  have k3 := hFoc.cell 3 _ rfl
  have k4 := hFoc.cell 4 _ rfl
  have k5 := hFoc.cell 5 _ rfl
  have f0 := fun o => hFoc.unfr g' hgF o
  simp only [show Rep.Frame.sz = 6 from rfl, Nat.add_zero] at k0 k1 k2 k3 k4 k5 hFoc hput
  have HFoc := Lib.hid hFoc; have HPUT := Lib.hid hput; have HN := Lib.hid hN
  clear hFoc hput hN HX5
  have hne1 : ¬ g' = w3.heap.size := by omega
  have hne2 : ¬ w3.heap.size = g' := by omega
  have hne3 : ¬ g' = w.heap.size + 1 := by omega
  have hne4 : ¬ w.heap.size + 1 = g' := by omega
  clear hg2 hh
  go_wp2_with fail
  have HA := alloc_ext w3 (.cells #[.slice (some ⟨g', off', none⟩) p.Frames.length d, .int .i64 p.Hand] 29)
  have z0 : w3.heap.size < (w3.alloc (.cells #[.slice (some ⟨g', off', none⟩) p.Frames.length d, .int .i64 p.Hand] 29)).heap.size := by simp
  have n0 : (w3.alloc (.cells #[.slice (some ⟨g', off', none⟩) p.Frames.length d, .int .i64 p.Hand] 29)).cell? ⟨w3.heap.size, 0, none⟩ = some (.slice (some ⟨g', off', none⟩) p.Frames.length d) := by simp
  have n1 : (w3.alloc (.cells #[.slice (some ⟨g', off', none⟩) p.Frames.length d, .int .i64 p.Hand] 29)).cell? ⟨w3.heap.size, 1, none⟩ = some (.int .i64 p.Hand) := by simp
  generalize w3.alloc (.cells #[.slice (some ⟨g', off', none⟩) p.Frames.length d, .int .i64 p.Hand] 29) = W4 at HA z0 n0 n1 ⊢
  have HF4 := Lib.hid (HFoc.out.ext HA (fun b hb => Rep.sl_lt q b hb))
  have HE4 := Lib.hid (HE3.out.ext HA)
  have HB4 := Lib.hid (HA.heap HB3.out (by simp))
  have j0 := HA.ecell k0; have j1 := HA.ecell k1; have j2 := HA.ecell k2; have j3 := HA.ecell k3; have j4 := HA.ecell k4; have j5 := HA.ecell k5
  have SB := Rep.sl_ext hB (HE4.out.ext (Only.refl [] W4).drew)
  have f4 : ∀ o, W4.frozen? ⟨g', o, none⟩ = false := fun o => HA.efroz hg3 (f0 o)
  clear k0 k1 k2 k3 k4 k5 f0 m2 f2
  go_region_held3 (fun w' => w'.cell? ⟨w3.heap.size, 0, none⟩ = some (.slice (some ⟨g', off', none⟩) p.Frames.length d) ∧ w'.cell? ⟨w3.heap.size, 1, none⟩ = some (.int .i64 p.Hand))
    (first | go_keep | exact ⟨hN5.ext.ecell n0, hN5.ext.ecell n1⟩)
    (first
      | (go_at_call 61; refine (l1Copy_calls _ _ _ _ _ SB (by omega)).mono ?_; rintro e w5 ⟨v5, G5, rfl, hV5, hN5⟩; obtain ⟨A5, c5, rfl, q5⟩ := Rep.slice_V hV5; have i1 := hN5.ext.ecell j1; have i3 := hN5.ext.ecell j3; have i4 := hN5.ext.ecell j4; have i5 := hN5.ext.ecell j5; have f5 := fun o => hN5.ext.efroz (p := ⟨g', o, none⟩) (Nat.lt_trans hg3 z0) (f4 o)))
  have hx5 : Ext W4 w5 := ((Only.refl [] W4).drew).ext hN5.ext
  have HE5 := Lib.hid (HE4.out.ext hx5)
  have hb5 := hx5.heap HB4.out (by simp)
  have m2 := fun o => cell_of_row _ _ o _ _ _ hb5
  have f2 := fun o => frozen_of_row _ _ o _ _ hb5
  have p0 := hN5.ext.ecell n0
  have p1 := hN5.ext.ecell n1
  have HF5 := Lib.hid (HF4.out.ext hx5 (fun b hb => Rep.sl_lt q b hb))
  have HN5 := Lib.hid hN5; have HQ5 := Lib.hid q5
  have hG5 := HN5.out.new
  have hz4 : W4.heap.size ≤ w5.heap.size := hx5.size
  have hne5 : ¬ w3.heap.size = w.heap.size + 1 := by omega
  have hne6 : ¬ w.heap.size + 1 = w3.heap.size := by omega
  have HLT := Lib.hid (fun b hb => Rep.sl_lt q b hb)
  clear j0 j1 j2 j3 j4 j5 n0 n1 hb5 hx5 HA f4 SB q q5 hN5
  obtain ⟨dirty, hD⟩ : ∃ q, q = x.Dirty := ⟨_, rfl⟩
  have HD := Lib.hid hD
  rw [← hD] at i3
  clear hD
  have hfin : ∀ (W7 W6 : World) (d' : List Value), Foc w3 W6 g' (off' + i * 6) 6 F3 GG d' → d' = [.int .i64 x.Page, .slice A5 bs.length c5, .int .i64 x.Pins, .bool true, .int .i64 rl, .bool true] → Only [g'] w5 W6 → Only [w.heap.size + 1] W6 W7 → Ext w W7 → wfFrame { x with Bytes := bs, RecLSN := rl, Dirty := true, Ref := true } → 
      NewPost Rep.PoolResult ⟨0, i, ⟨p.Frames.set i { x with Bytes := bs, Dirty := true, RecLSN := rl, Ref := true }, p.Hand⟩⟩ w (.returned (.agg #[.int .i64 0, .int .i64 i, .slice (some ⟨g', off', none⟩) p.Frames.length d, .int .i64 p.Hand])) W7 := by
    intro W7 W6 d' hF6 hd' hO6 hO7 hE7 hwf'
    subst hd'
    refine pool_done (HPUT.out _ { x with Bytes := bs, Dirty := true, RecLSN := rl, Ref := true } _ G5 hF6 ⟨A5, c5, G5, rfl, rfl, hwf', Rep.sl_only HQ5.out hO6 (fun b hb hb' => by have := hG5 b hb; simp at hb' this; omega)⟩ (fun hb => by have := hG5 _ hb; simp at this; omega) HN5.out.nodup (Unfr.only HN5.out.unfr hO6 (fun b hb => Rep.sl_lt HQ5.out b hb) (fun b hb hb' => by have := hG5 b hb; simp at hb' this; omega)) (fun b hb hb' => by have := hG5 b hb; simp at this; have := HLT.out b hb'; omega))
      (fun b hb => by have := HN.out.new b hb; omega) (fun b hb => by have := hG5 b hb; simp at this; omega) hO7 hE7 (Nat.le_succ _) (by simp) rfl ef hw3
  have HFIN := Lib.hid hfin
  clear hfin
  have hgw : w.heap.size ≤ g' := by have := HN.out.new g' hgF; omega
  cases dirty
  · obtain rfl : rl = lsn := by rw [HRL.out, ← HD.out]; rfl
    go_wp2
    refine bodyPost_ret (v := .agg #[.int .i64 0, .int .i64 i, .slice (some ⟨g', off', none⟩) p.Frames.length d, .int .i64 p.Hand]) (by simp [results, Try.results39, go_sem, m2]) rfl ?_
    refine HFIN.out _ _ _ ((((HF5.out.set hgF 1 (by decide) (.slice A5 bs.length c5)).set hgF 5 (by decide) (.bool true)).set hgF 4 (by decide) (.int .i64 rl)).set hgF 3 (by decide) (.bool true)) rfl ?_ ?_ ?_ ⟨hwf5.1, hwf5.2.1, el⟩
    · repeat (first | with_reducible exact Only.refl _ _ | with_reducible apply Only.alloc | with_reducible apply Only.drew | ((with_reducible apply Only.set); · simp))
    · repeat (first | with_reducible exact Only.refl _ _ | with_reducible apply Only.alloc | with_reducible apply Only.drew | ((with_reducible apply Only.set); · simp))
    · repeat (first | with_reducible exact HE5.out | with_reducible apply Only.alloc | with_reducible apply Only.drew | ((with_reducible apply Only.set); · (simp; try omega)))
  · obtain rfl : rl = x.RecLSN := by rw [HRL.out, ← HD.out]; rfl
    go_wp2
    refine bodyPost_ret (v := .agg #[.int .i64 0, .int .i64 i, .slice (some ⟨g', off', none⟩) p.Frames.length d, .int .i64 p.Hand]) (by simp [results, Try.results39, go_sem, m2]) rfl ?_
    refine HFIN.out _ _ _ (((HF5.out.set hgF 1 (by decide) (.slice A5 bs.length c5)).set hgF 5 (by decide) (.bool true)).set hgF 3 (by decide) (.bool true)) rfl ?_ ?_ ?_ ⟨hwf5.1, hwf5.2.1, hwf5.2.2⟩
    · repeat (first | with_reducible exact Only.refl _ _ | with_reducible apply Only.alloc | with_reducible apply Only.drew | ((with_reducible apply Only.set); · simp))
    · repeat (first | with_reducible exact Only.refl _ _ | with_reducible apply Only.alloc | with_reducible apply Only.drew | ((with_reducible apply Only.set); · simp))
    · repeat (first | with_reducible exact HE5.out | with_reducible apply Only.alloc | with_reducible apply Only.drew | ((with_reducible apply Only.set); · (simp; try omega)))
end Go.Proofs.Ytjjdainnofnmcaa
