/- PoolClean in both packages. -/
import Derived.Test.YtjjdainnofnmcaaP4
namespace Go.Proofs.Ytjjdainnofnmcaa
open Go.RowKit
set_option linter.unusedSimpArgs false
set_option linter.unusedVariables false
def gClean (x : DFrame) : DFrame × Int := ({ x with Dirty := false, RecLSN := 0 }, 0)
theorem poolMod_1 {p : DPool} {page : Int} {g : DFrame → DFrame × Int} (h : ¬ poolFault p = 0) : poolMod p page g = codeRes 1 := by rw [poolMod, if_pos h]
theorem poolMod_2 {p : DPool} {page : Int} {g : DFrame → DFrame × Int} (h : poolFault p = 0) (h2 : poolFind p page < 0) : poolMod p page g = codeRes 2 := by
  rw [poolMod, if_neg (by simp [h]), dif_neg (by omega)]
theorem poolMod_3 {p : DPool} {page : Int} {g : DFrame → DFrame × Int} (h : poolFault p = 0) (i : Nat) (hi : i < p.Frames.length) (he : poolFind p page = i) :
    poolMod p page g = if (g p.Frames[i]).2 ≠ 0 then codeRes (g p.Frames[i]).2 else ⟨0, i, ⟨p.Frames.set i (g p.Frames[i]).1, p.Hand⟩⟩ := by
  have h2 : 0 ≤ poolFind p page ∧ poolFind p page < p.Frames.length := by omega
  have e : (poolFind p page).toNat = i := by omega
  unfold poolMod
  rw [if_neg (by simp [h]), dif_pos h2]
  simp only [e]
  simp only [he]
theorem pool_done {w W6 W7 : World} {A : Option Addr} {d n k : Nat} {fs : List DFrame} {F3 G' : List Nat} {code frame hand : Int}
    (hp : ∃ F', Rep.Frame.sl W6 A d fs F' ∧ F'.Nodup ∧ Unfr W6 F' ∧ ∀ b ∈ F', b ∈ F3 ∨ b ∈ G') (h3 : ∀ b ∈ F3, n < b) (hG : ∀ b ∈ G', n < b) (hO : Only [n] W6 W7) (hE : Ext w W7) (hn : w.heap.size ≤ n) (hk : k = fs.length)
    (h1 : (Lit.int .i64 code).wf = true) (h2 : (Lit.int .i64 frame).wf = true) (h4 : (Lit.int .i64 hand).wf = true) :
    NewPost Rep.PoolResult ⟨code, frame, ⟨fs, hand⟩⟩ w (.returned (.agg #[.int .i64 code, .int .i64 frame, .slice A k d, .int .i64 hand])) W7 := by
  obtain ⟨F', hsl, hnd, hun, hsub⟩ := hp
  have hnew : ∀ b ∈ F', n < b := fun b hb => by
    rcases hsub b hb with h | h
    · exact h3 b h
    · exact hG b h
  exact poolRes_post hE (Rep.sl_only hsl hO (fun b hb hb' => by have := hnew b hb; simp at hb'; omega)) (fun b hb => by have := hnew b hb; omega) hnd (Unfr.only hun hO (fun b hb => Rep.sl_lt hsl b hb) (fun b hb hb' => by have := hnew b hb; simp at hb'; omega)) hk h1 h2 h4
set_option maxRecDepth 100000 in
set_option maxHeartbeats 2000000 in
theorem specPoolClean_new (w : World) (v : Value) (p : DPool) (F : List Nat) (h : Rep.Pool.V w v p F) (page : Int) (ep : (Lit.int .i64 page).wf = true) (hs2 : wtPool p ≤ 1048576) :
    Calls Try.prog 36 #[v, .int .i64 page] w (NewPost Rep.PoolResult (poolMod p page gClean) w) := by
  obtain ⟨_, ⟨A1, c1, F1, rfl, rfl, hw, s1⟩, rfl⟩ := id h
  have hu := Try.underlying29
  have hu2 := Try.underlying43
  have hu3 := Try.underlying40
  have hm := Nat.le_trans s1.1 s1.2.1
  unfold maxLen at hm
  generalize hR : poolMod p page gClean = R
  have HR := Lib.hid hR
  clear hR
  show Calls _ _ #[.agg #[_, _], _] _ _
  go_enter Try.func36, Try.ntmps36
  go_wp2_with fail
  refine (l7At_calls _ p _ _ _ ⟨_, ⟨A1, c1, _, rfl, rfl, hw, Rep.sl_ext s1 ((alloc_ext _ _).alloc _)⟩, rfl⟩).mono ?_
  rintro e w1 ⟨rfl, hO⟩
  have HE1 := Lib.hid (Only.ext ((alloc_ext w _).alloc _) hO)
  have hb1 := Only.heap hO (heap_alloc2_old w _ _) (by simp)
  have hb2 := Only.heap hO (heap_alloc2_new w _ _) (by simp)
  clear hO
  have m1 := fun o => cell_of_row _ _ o _ _ _ hb1
  have m2 := fun o => cell_of_row _ _ o _ _ _ hb2
  have f2 := fun o => frozen_of_row _ _ o _ _ hb2
  have HB1 := Lib.hid hb1; have HB2 := Lib.hid hb2
  clear hb1 hb2
  by_cases h1 : poolFault p = 0
  rotate_left
  · have e1 : l7At p page = (0, 1) := by rw [l7At, if_pos h1]
    obtain rfl : codeRes 1 = R := by rw [← HR.out, poolMod_1 h1]
    rw [e1]
    clear h1 e1
    go_wp2
    refine bodyPost_ret (v := .agg #[.int .i64 1, .int .i64 0, .slice none 0 0, .int .i64 0]) (by simp [results, Try.results36, go_sem, m2]) rfl ?_
    exact codeRes_post (by decide) (by repeat (first | with_reducible exact HE1.out | ((with_reducible apply Only.set); · simp)))
  rcases poolFind_range p page with h2 | ⟨h2, h3⟩
  · have e1 : l7At p page = (0, 2) := by rw [l7At, if_neg (by simp [h1]), if_pos (by omega)]
    obtain rfl : codeRes 2 = R := by rw [← HR.out, poolMod_2 h1 (by omega)]
    rw [e1]
    clear h1 e1 h2
    go_wp2
    refine bodyPost_ret (v := .agg #[.int .i64 2, .int .i64 0, .slice none 0 0, .int .i64 0]) (by simp [results, Try.results36, go_sem, m2]) rfl ?_
    exact codeRes_post (by decide) (by repeat (first | with_reducible exact HE1.out | ((with_reducible apply Only.set); · simp)))
  obtain ⟨i, he⟩ := Int.eq_ofNat_of_zero_le h2
  have hi : i < p.Frames.length := by omega
  have e1 : l7At p page = ((i : Int), 0) := by rw [l7At, if_neg (by simp [h1]), if_neg (by omega), he]
  have HR2 := HR.out
  rw [poolMod_3 h1 i hi he] at HR2
  have ef : (Lit.int .i64 (i : Int)).wf = true := by simp [Lit.wf, IntKind.min, IntKind.max, IntKind.signed, IntKind.bits]; omega
  rw [e1]
  clear h1 h2 h3 he e1 HR
  generalize hx : p.Frames[i] = x at *
  have HX := Lib.hid hx
  clear hx
  rw [if_neg (by simp [gClean])] at HR2
  subst HR2
  go_wp2_with fail
  refine (l7Copy_calls _ p _ _ ⟨_, ⟨_, c1, _, rfl, rfl, hw, Rep.sl_ext s1 HE1.out⟩, rfl⟩ hs2).mono ?_
  rintro e w3 ⟨v3, F3, rfl, hV, hN⟩
  obtain ⟨_, ⟨B, d, F3', rfl, rfl, hw3, q⟩, hv⟩ := hV
  replace hv : v3 = .agg #[_, _] := hv
  subst hv
  have HE3 := Lib.hid (Only.ext HE1.out hN.ext)
  have hb2 := Only.heap hN.ext HB2.out (by simp)
  have hzw2 : w.heap.size + 1 < w1.heap.size := (Array.getElem?_eq_some_iff.1 HB2.out).1
  clear m1 m2 f2 HB1 HB2
  have m2 := fun o => cell_of_row _ _ o _ _ _ hb2
  have f2 := fun o => frozen_of_row _ _ o _ _ hb2
  have hz3 := (Array.getElem?_eq_some_iff.1 hb2).1
  clear hb2
  obtain ⟨g', off', dd, GG, rfl, hgF, hgG, hGF, hGn, hRx, hFoc, hput⟩ := Rep.sl_foc2 q hN.nodup hN.unfr i hi
  have hg3 : g' < w3.heap.size := hFoc.lt
  have hg2 : w1.heap.size ≤ g' := hN.new g' hgF
  obtain ⟨B5, d5, GG5, rfl, rfl, hwf5, q5⟩ := hRx
  have HX5 := HX.out
  rw [HX5] at hFoc q5 hwf5
  have k0 := hFoc.cell 0 _ rfl
  have k1 := hFoc.cell 1 _ rfl
  have k2 := hFoc.cell 2 _ rfl
  have k3 := hFoc.cell 3 _ rfl
  have k4 := hFoc.cell 4 _ rfl
  have k5 := hFoc.cell 5 _ rfl
  have f0 := fun o => hFoc.unfr g' hgF o
  simp only [show Rep.Frame.sz = 6 from rfl, Nat.add_zero] at k0 k1 k2 k3 k4 k5 hFoc hput
  have HFoc := Lib.hid hFoc; have HPUT := Lib.hid hput; have HN := Lib.hid hN
  clear hFoc hput hN HX5
  have hne1 : ¬ g' = w3.heap.size := by omega
  have hne2 : ¬ w3.heap.size = g' := by omega
  have hne3 : ¬ g' = w.heap.size + 1 := by omega
  have hne4 : ¬ w.heap.size + 1 = g' := by omega
  go_wp2
  refine bodyPost_ret (v := .agg #[.int .i64 0, .int .i64 i, .slice (some ⟨g', off', none⟩) p.Frames.length d, .int .i64 p.Hand]) (by simp [results, Try.results36, go_sem, m2, hz3]) rfl ?_
  have HF6 := (HFoc.out.set hgF 3 (by decide) (.bool false)).set hgF 4 (by decide) (.int .i64 0)
  refine pool_done (HPUT.out _ { x with Dirty := false, RecLSN := 0 } _ GG HF6 ⟨B5, d5, GG, rfl, rfl, ⟨hwf5.1, hwf5.2.1, rfl⟩, Rep.sl_only q5 (G := [g']) (by repeat (first | with_reducible exact Only.refl _ _ | ((with_reducible apply Only.set); · simp))) (fun b hb hb' => by simp at hb'; exact hgG (hb' ▸ hb))⟩ hgG hGn (fun b hb j => HF6.unfr b (hGF b hb) j) (fun b hb _ => hb))
    (fun b hb => by have := HN.out.new b hb; omega) (fun b hb => by have := HN.out.new b (hGF b hb); omega) (by repeat (first | with_reducible exact Only.refl _ _ | with_reducible apply Only.alloc | ((with_reducible apply Only.set); · simp))) ?_ (Nat.le_succ _) (by simp) rfl ef hw3
  repeat (first | with_reducible exact HE3.out | with_reducible apply Only.alloc | ((with_reducible apply Only.set); · (simp; try omega)))
end Go.Proofs.Ytjjdainnofnmcaa
