/- PoolLoad in both packages. -/
import Derived.Test.YtjjdainnofnmcaaP3
import Derived.Deep.RegionHeld3
namespace Go.Proofs.Ytjjdainnofnmcaa
open Go.RowKit
set_option linter.unusedSimpArgs false
set_option linter.unusedVariables false

def codeRes (c : Int) : DPoolResult := ⟨c, 0, ⟨[], 0⟩⟩
def poolLoadAt (p : DPool) (i : Nat) (x : DFrame) (page : Int) (bytes : List Int) : DPoolResult :=
  if x.Pins > 0 ∨ x.Dirty then codeRes 2
  else if !inR page 0 15 ∨ bytes.length ≠ 4096 then codeRes 3
  else if 0 ≤ poolFind p page ∧ poolFind p page ≠ i then codeRes 4
  else ⟨0, i, ⟨p.Frames.set i ⟨page, bytes, 0, false, 0, true⟩, p.Hand⟩⟩
def poolLoad (p : DPool) (frame page : Int) (bytes : List Int) : DPoolResult :=
  if poolFault p ≠ 0 then codeRes 1
  else if h : 0 ≤ frame ∧ frame < p.Frames.length then poolLoadAt p frame.toNat p.Frames[frame.toNat] page bytes
  else codeRes 2
theorem poolLoad_at {p : DPool} {page : Int} {bs : List Int} (h1 : poolFault p = 0) (i : Nat) (hi : i < p.Frames.length) : poolLoad p i page bs = poolLoadAt p i p.Frames[i] page bs := by
  have h2 : 0 ≤ (i : Int) ∧ (i : Int) < p.Frames.length := by omega
  unfold poolLoad
  rw [if_neg (by simp [h1]), dif_pos h2]
  rfl
theorem codeRes_post {w w' : World} {c : Int} (hw : (Lit.int .i64 c).wf = true) (hO : Ext w w') : NewPost Rep.PoolResult (codeRes c) w (.returned (.agg #[.int .i64 c, .int .i64 0, .slice none 0 0, .int .i64 0])) w' :=
  ⟨_, [], rfl, ⟨_, ⟨none, 0, [], rfl, rfl, ⟨hw, rfl, rfl⟩, Rep.sl_nil (by simp)⟩, rfl⟩, hO, by simp, by simp, by simp [Unfr]⟩
theorem poolRes_post {w W : World} {A : Option Addr} {d n : Nat} {fs : List DFrame} {F : List Nat} {code frame hand : Int} (hO : Ext w W) (q : Rep.Frame.sl W A d fs F) (hnew : ∀ b ∈ F, w.heap.size ≤ b) (hnd : F.Nodup) (hun : Unfr W F) (hn : n = fs.length)
    (h1 : (Lit.int .i64 code).wf = true) (h2 : (Lit.int .i64 frame).wf = true) (h3 : (Lit.int .i64 hand).wf = true) :
    NewPost Rep.PoolResult ⟨code, frame, ⟨fs, hand⟩⟩ w (.returned (.agg #[.int .i64 code, .int .i64 frame, .slice A n d, .int .i64 hand])) W := by
  subst hn
  exact ⟨_, F, rfl, ⟨_, ⟨A, d, F, rfl, rfl, ⟨h1, h2, h3⟩, q⟩, rfl⟩, hO, hnew, hnd, hun⟩
set_option maxRecDepth 100000 in
set_option maxHeartbeats 2000000 in
theorem specPoolLoad_new (w : World) (v : Value) (p : DPool) (F : List Nat) (h : Rep.Pool.V w v p F) (frame : Int) (ef : (Lit.int .i64 frame).wf = true) (page : Int) (ep : (Lit.int .i64 page).wf = true)
    (A : Option Addr) (c : Nat) (bs : List Int) (G : List Nat) (hB : (Rep.int .u8).sl w A c bs G) (hs : bs.length ≤ 1048576) (hs2 : wtPool p ≤ 1048576) :
    Calls Try.prog 27 #[v, .int .i64 frame, .int .i64 page, .slice A bs.length c] w (NewPost Rep.PoolResult (poolLoad p frame page bs) w) := by
  obtain ⟨_, ⟨A1, c1, F1, rfl, rfl, hw, s1⟩, rfl⟩ := id h
  have hu := Try.underlying29
  have hu2 := Try.underlying43
  have hu3 := Try.underlying40
  have hm := Nat.le_trans s1.1 s1.2.1
  unfold maxLen at hm
  generalize hR : poolLoad p frame page bs = R
  have HR := Lib.hid hR
  clear hR
  show Calls _ _ #[.agg #[_, _], _, _, _] _ _
  go_enter Try.func27, Try.ntmps27
  go_wp2_with fail
  refine (specPoolFault_calls _ p _ _ ⟨_, ⟨A1, c1, _, rfl, rfl, hw, Rep.sl_ext s1 ((alloc_ext _ _).alloc _)⟩, rfl⟩).mono ?_
  rintro e w1 ⟨rfl, hO⟩
  have HE1 := Lib.hid (Only.ext ((alloc_ext w _).alloc _) hO)
  have hb1 := Only.heap hO (heap_alloc2_old w _ _) (by simp)
  have hb2 := Only.heap hO (heap_alloc2_new w _ _) (by simp)
  clear hO
  have m1 := fun o => cell_of_row _ _ o _ _ _ hb1
  have m2 := fun o => cell_of_row _ _ o _ _ _ hb2
  have f2 := fun o => frozen_of_row _ _ o _ _ hb2
  have HB1 := Lib.hid hb1; have HB2 := Lib.hid hb2
  clear hb1 hb2
  by_cases h1 : poolFault p = 0
  rotate_left
  · have hb : (poolFault p != 0) = true := by simp [h1]
    obtain rfl : codeRes 1 = R := by rw [← HR.out, poolLoad, if_pos h1]
    go_wp2
    refine bodyPost_ret (v := .agg #[.int .i64 1, .int .i64 0, .slice none 0 0, .int .i64 0]) (by simp [results, Try.results27, go_sem, m2]) rfl ?_
    exact codeRes_post (by decide) (by repeat (first | exact HE1.out | ((with_reducible apply Only.set); · simp)))
  have hb : (poolFault p != 0) = false := by simp [h1]
  have H1 := Lib.hid h1
  clear h1
  by_cases hr : 0 ≤ frame ∧ frame < p.Frames.length
  rotate_left
  · obtain rfl : codeRes 2 = R := by rw [← HR.out, poolLoad, if_neg (by simp [H1.out]), dif_neg hr]
    rcases (by omega : frame < 0 ∨ 0 ≤ frame ∧ (p.Frames.length : Int) ≤ frame) with hr1 | ⟨hr1, hr2⟩
    all_goals
      clear hr
      go_wp2
      refine bodyPost_ret (v := .agg #[.int .i64 2, .int .i64 0, .slice none 0 0, .int .i64 0]) (by simp [results, Try.results27, go_sem, m2]) rfl ?_
      exact codeRes_post (by decide) (by repeat (first | with_reducible exact HE1.out | with_reducible exact HE2.out | ((with_reducible apply Only.set); · simp)))
  obtain ⟨hr1, hr2⟩ := hr
  obtain ⟨i, rfl⟩ := Int.eq_ofNat_of_zero_le hr1
  have hi : i < p.Frames.length := by omega
  clear hr1 hr2
  obtain ⟨g, off, B1, d1, G1, rfl, hg, hwf, t1, k0, k1, k2, k3, k4, k5⟩ := sl_Frame (Rep.sl_ext s1 HE1.out) i hi
  have HR2 : Hid (poolLoadAt p i p.Frames[i] page bs = R) := by
    show _ = _
    rw [← HR.out, poolLoad_at H1.out i hi]
  clear HR
  generalize hx : p.Frames[i] = x at *
  have HX := Lib.hid hx
  clear hx
  by_cases h2 : x.Pins > 0 ∨ x.Dirty = true
  · obtain rfl : codeRes 2 = R := by rw [← HR2.out, poolLoadAt, if_pos h2]
    have hh : 0 < x.Pins ∨ x.Pins ≤ 0 ∧ x.Dirty = true := by
      rcases h2 with h2 | h2
      · exact .inl h2
      · rcases Int.lt_or_le 0 x.Pins with h | h
        · exact .inl h
        · exact .inr ⟨h, h2⟩
    clear h2
    rcases hh with hh | ⟨hh, hd⟩
    · go_wp2
      refine bodyPost_ret (v := .agg #[.int .i64 2, .int .i64 0, .slice none 0 0, .int .i64 0]) (by simp [results, Try.results27, go_sem, m2]) rfl ?_
      exact codeRes_post (by decide) (by repeat (first | with_reducible exact HE1.out | with_reducible exact HE2.out | ((with_reducible apply Only.set); · simp)))
    · rw [hd] at k3
      go_wp2
      refine bodyPost_ret (v := .agg #[.int .i64 2, .int .i64 0, .slice none 0 0, .int .i64 0]) (by simp [results, Try.results27, go_sem, m2]) rfl ?_
      exact codeRes_post (by decide) (by repeat (first | with_reducible exact HE1.out | with_reducible exact HE2.out | ((with_reducible apply Only.set); · simp)))
  obtain ⟨h3, h4⟩ := not_or.1 h2
  have h5 : x.Dirty = false := by simpa using h4
  have h6 : x.Pins ≤ 0 := by omega
  have HR3 := HR2.out
  unfold poolLoadAt at HR3
  rw [if_neg h2] at HR3
  replace HR3 := Lib.hid HR3
  rw [h5] at k3
  clear h2 h3 h4 h5
  by_cases h7 : (!inR page 0 15) = true ∨ bs.length ≠ 4096
  · obtain rfl : codeRes 3 = R := by rw [← HR3.out, if_pos h7]
    have hh : inR page 0 15 = false ∨ inR page 0 15 = true ∧ ((bs.length : Int) != 4096) = true := by
      cases hq : inR page 0 15
      · exact .inl rfl
      · simp [hq] at h7; exact .inr ⟨rfl, by simp; omega⟩
    clear h7
    rcases hh with hh | ⟨hh, hd⟩
    all_goals
      go_wp2_with (go_at_call 59; refine (specIn_calls _ _ _ _).mono ?_; rintro e w1 ⟨rfl, rfl⟩)
      refine bodyPost_ret (v := .agg #[.int .i64 3, .int .i64 0, .slice none 0 0, .int .i64 0]) (by simp [results, Try.results27, go_sem, m2]) rfl ?_
      exact codeRes_post (by decide) (by repeat (first | with_reducible exact HE1.out | with_reducible exact HE2.out | ((with_reducible apply Only.set); · simp)))
  have h8 : inR page 0 15 = true := by cases hq : inR page 0 15 <;> simp [hq] at h7 ⊢
  have h9 : ((bs.length : Int) != 4096) = false := by simp [h8] at h7; simp; omega
  have HR4 := HR3.out
  rw [if_neg h7] at HR4
  replace HR4 := Lib.hid HR4
  clear h7 HR3
  go_wp2_with (go_at_call 59; refine (specIn_calls _ _ _ _).mono ?_; rintro e w1 ⟨rfl, rfl⟩)
  refine (specPoolFind_calls _ p _ _ _ ⟨_, ⟨_, c1, _, rfl, rfl, hw, Rep.sl_ext s1 HE1.out⟩, rfl⟩).mono ?_
  rintro e w2 ⟨rfl, hO⟩
  have HE2 := Lib.hid (Only.ext HE1.out hO)
  have hb1 := Only.heap hO HB1.out (by simp)
  have hb2 := Only.heap hO HB2.out (by simp)
  clear hO m1 m2 f2 HB1 HB2 k0 k1 k2 k3 k4 k5 h8 h9 t1
  have m1 := fun o => cell_of_row _ _ o _ _ _ hb1
  have m2 := fun o => cell_of_row _ _ o _ _ _ hb2
  have f2 := fun o => frozen_of_row _ _ o _ _ hb2
  have HB1 := Lib.hid hb1; have HB2 := Lib.hid hb2
  clear hb1 hb2
  by_cases h10 : 0 ≤ poolFind p page ∧ poolFind p page ≠ i
  · obtain rfl : codeRes 4 = R := by rw [← HR4.out, if_pos h10]
    obtain ⟨h11, h12⟩ := h10
    have h13 : (poolFind p page != (i : Int)) = true := by simp [h12]
    clear h12
    go_wp2
    refine bodyPost_ret (v := .agg #[.int .i64 4, .int .i64 0, .slice none 0 0, .int .i64 0]) (by simp [results, Try.results27, go_sem, m2]) rfl ?_
    exact codeRes_post (by decide) (by repeat (first | with_reducible exact HE1.out | with_reducible exact HE2.out | ((with_reducible apply Only.set); · simp)))
  have HR5 := HR4.out
  rw [if_neg h10] at HR5
  have h11 : poolFind p page < 0 ∨ 0 ≤ poolFind p page ∧ (poolFind p page != (i : Int)) = false := by
    by_cases h : 0 ≤ poolFind p page
    · exact .inr ⟨h, by simp at h10 ⊢; exact h10 h⟩
    · exact .inl (by omega)
  subst HR5
  clear h10 HR4 HR2
  rcases h11 with h11 | ⟨h11, h12⟩
  all_goals
    go_wp2_with fail
    refine (l7Copy_calls _ p _ _ ⟨_, ⟨_, c1, _, rfl, rfl, hw, Rep.sl_ext s1 HE2.out⟩, rfl⟩ hs2).mono ?_
    rintro e w3 ⟨v3, F3, rfl, hV, hN⟩
    obtain ⟨_, ⟨B, d, F3', rfl, rfl, hw3, q⟩, hv⟩ := hV
    replace hv : v3 = .agg #[_, _] := hv
    subst hv
    have HE3 := Lib.hid (Only.ext HE2.out hN.ext)
    have hb2 := Only.heap hN.ext HB2.out (by simp)
    have hzw2 : w.heap.size + 1 < w2.heap.size := (Array.getElem?_eq_some_iff.1 HB2.out).1
    clear m1 m2 f2 HB1 HB2
    have HB2 := Lib.hid hb2
    clear hb2
    obtain ⟨g', off', dd, GG, rfl, hgF, hgG, hGF, hGn, hRx, hFoc, hput⟩ := Rep.sl_foc2 q hN.nodup hN.unfr i hi
    have HFoc := Lib.hid hFoc; have HPUT := Lib.hid hput; have HN := Lib.hid hN
    obtain ⟨_, _, _, rfl, rfl, -, -⟩ := hRx
    clear hFoc hput hN
    go_wp2_with fail
    have HA := alloc_ext w3 (.cells #[.slice (some ⟨g', off', none⟩) p.Frames.length d, .int .i64 p.Hand] 29)
    have z0 : w3.heap.size < (w3.alloc (.cells #[.slice (some ⟨g', off', none⟩) p.Frames.length d, .int .i64 p.Hand] 29)).heap.size := by simp
    have m0 : (w3.alloc (.cells #[.slice (some ⟨g', off', none⟩) p.Frames.length d, .int .i64 p.Hand] 29)).cell? ⟨w3.heap.size, 0, none⟩ = some (.slice (some ⟨g', off', none⟩) p.Frames.length d) := by simp
    have m1 : (w3.alloc (.cells #[.slice (some ⟨g', off', none⟩) p.Frames.length d, .int .i64 p.Hand] 29)).cell? ⟨w3.heap.size, 1, none⟩ = some (.int .i64 p.Hand) := by simp
    generalize w3.alloc (.cells #[.slice (some ⟨g', off', none⟩) p.Frames.length d, .int .i64 p.Hand] 29) = W4 at HA z0 m0 m1 ⊢
    have hg3 : g' < w3.heap.size := HFoc.out.lt
    have hg2 : w2.heap.size ≤ g' := HN.out.new g' hgF
    have hz2 : w.heap.size + 1 < w3.heap.size := (Array.getElem?_eq_some_iff.1 HB2.out).1
    have HF4 := Lib.hid (HFoc.out.ext HA (fun b hb => Rep.sl_lt q b hb))
    obtain ⟨u0, u1, u2, u3, u4, u5, k0, k1, k2, k3, k4, k5⟩ : ∃ u0 u1 u2 u3 u4 u5, W4.cell? ⟨g', off' + i * 6, none⟩ = some u0 ∧ W4.cell? ⟨g', off' + i * 6 + 1, none⟩ = some u1 ∧ W4.cell? ⟨g', off' + i * 6 + 2, none⟩ = some u2 ∧ W4.cell? ⟨g', off' + i * 6 + 3, none⟩ = some u3 ∧ W4.cell? ⟨g', off' + i * 6 + 4, none⟩ = some u4 ∧ W4.cell? ⟨g', off' + i * 6 + 5, none⟩ = some u5 :=
      ⟨_, _, _, _, _, _, HF4.out.cell 0 _ rfl, HF4.out.cell 1 _ rfl, HF4.out.cell 2 _ rfl, HF4.out.cell 3 _ rfl, HF4.out.cell 4 _ rfl, HF4.out.cell 5 _ rfl⟩
    have f0 := fun o => HF4.out.unfr g' hgF o
    have SB := Rep.sl_ext hB (HE3.out.ext (Only.drew HA))
    have hne1 : ¬ g' = w3.heap.size := by omega
    have hne2 : ¬ w3.heap.size = g' := by omega
    go_region_held3 (fun w' => w'.cell? ⟨w3.heap.size, 0, none⟩ = some (.slice (some ⟨g', off', none⟩) p.Frames.length d) ∧ w'.cell? ⟨w3.heap.size, 1, none⟩ = some (.int .i64 p.Hand))
      (first | go_keep | exact ⟨hN5.ext.ecell m0, hN5.ext.ecell m1⟩)
      (first
        | (go_at_call 61; refine (l1Copy_calls _ _ _ _ _ SB (by omega)).mono ?_; rintro e w5 ⟨v5, G5, rfl, hV5, hN5⟩; obtain ⟨A5, c5, rfl, q5⟩ := Rep.slice_V hV5; have j0 := hN5.ext.ecell k0; have j1 := hN5.ext.ecell k1; have j2 := hN5.ext.ecell k2; have j3 := hN5.ext.ecell k3; have j4 := hN5.ext.ecell k4; have j5 := hN5.ext.ecell k5; have f5 := fun o => hN5.ext.efroz (p := ⟨g', o, none⟩) (Nat.lt_trans hg3 z0) (f0 o)))
    have hx5 : Ext W4 w5 := ((Only.refl [] W4).drew).ext hN5.ext
    have HE5 := Lib.hid (HE3.out.ext (HA.ext hx5))
    have hb2 := Only.heap hx5 (Only.heap HA HB2.out (by simp)) (by simp)
    have m2 := fun o => cell_of_row _ _ o _ _ _ hb2
    have f2 := fun o => frozen_of_row _ _ o _ _ hb2
    have n0 := hN5.ext.ecell m0
    have n1 := hN5.ext.ecell m1
    have hne3 : ¬ g' = w.heap.size + 1 := by omega
    have hne4 : ¬ w.heap.size + 1 = g' := by omega
    have HF6 := Lib.hid (((((((HF4.out.ext hx5 (fun b hb => Rep.sl_lt q b hb)).set hgF 0 (by decide) (.int .i64 page)).set hgF 1 (by decide) (.slice A5 bs.length c5)).set hgF 2 (by decide) (.int .i64 0)).set hgF 3 (by decide) (.bool false)).set hgF 4 (by decide) (.int .i64 0)).set hgF 5 (by decide) (.bool true))
    have HN5 := Lib.hid hN5
    clear hb2 j0 j1 j2 j3 j4 j5 f5 k0 k1 k2 k3 k4 k5 f0 m0 m1
    go_wp2
    refine bodyPost_ret (v := .agg #[.int .i64 0, .int .i64 i, .slice (some ⟨g', off', none⟩) p.Frames.length d, .int .i64 p.Hand]) (by simp [results, Try.results27, go_sem, m2]) rfl ?_
    have hG5 := HN5.out.new
    have hz4 : W4.heap.size ≤ w5.heap.size := hx5.size
    obtain ⟨F', hsl, hnd, hun, hsub⟩ := HPUT.out _ ⟨page, bs, 0, false, 0, true⟩ _ G5 HF6.out ⟨A5, c5, G5, rfl, rfl, ⟨ep, rfl, rfl⟩, Rep.sl_only q5 (((((((Only.refl [g'] w5).setCell (by simp) _).setCell (by simp) _).setCell (by simp) _).setCell (by simp) _).setCell (by simp) _).setCell (by simp) _) (fun b hb hb' => by simp at hb'; have := hG5 b hb; simp at this; omega)⟩
      (fun hb => by have := hG5 _ hb; simp at this; omega) HN5.out.nodup (Unfr.only HN5.out.unfr (((((((Only.refl [g'] w5).setCell (by simp) _).setCell (by simp) _).setCell (by simp) _).setCell (by simp) _).setCell (by simp) _).setCell (by simp) _) (fun b hb => Rep.sl_lt q5 b hb) (fun b hb hb' => by simp at hb'; have := hG5 b hb; simp at this; omega))
      (fun b hb hb' => by have := hG5 b hb; simp at this; have := Rep.sl_lt q b hb'; omega)
    have hnew : ∀ b ∈ F', w.heap.size + 1 < b := fun b hb => by
      rcases hsub b hb with h | h
      · have := HN.out.new b h; omega
      · have := hG5 b h; simp at this; omega
    simp only [show Rep.Frame.sz = 6 from rfl, Nat.add_zero] at hsl hun
    refine poolRes_post ?_ (Rep.sl_only hsl (G := [w.heap.size + 1]) (by repeat (first | with_reducible exact Only.refl _ _ | ((with_reducible apply Only.set); · simp))) (fun b hb hb' => by have := hnew b hb; simp at hb'; omega)) (fun b hb => by have := hnew b hb; omega) hnd (Unfr.only hun (G := [w.heap.size + 1]) (by repeat (first | with_reducible exact Only.refl _ _ | ((with_reducible apply Only.set); · simp))) (fun b hb => Rep.sl_lt hsl b hb) (fun b hb hb' => by have := hnew b hb; simp at hb'; omega)) (by simp) rfl ef hw3
    repeat (first | with_reducible exact HE5.out | ((with_reducible apply Only.set); · (simp; try omega)))
set_option maxRecDepth 100000 in
set_option maxHeartbeats 2000000 in
theorem implPoolLoad_new (w : World) (v : Value) (p : DPool) (F : List Nat) (h : Rep.Pool.V w v p F) (frame : Int) (ef : (Lit.int .i64 frame).wf = true) (page : Int) (ep : (Lit.int .i64 page).wf = true)
    (A : Option Addr) (c : Nat) (bs : List Int) (G : List Nat) (hB : (Rep.int .u8).sl w A c bs G) (hs : bs.length ≤ 1048576) (hs2 : wtPool p ≤ 1048576) :
    Calls Try.prog 21 #[v, .int .i64 frame, .int .i64 page, .slice A bs.length c] w (NewPost Rep.PoolResult (poolLoad p frame page bs) w) := by
  obtain ⟨_, ⟨A1, c1, F1, rfl, rfl, hw, s1⟩, rfl⟩ := id h
  have hu := Try.underlying29
  have hu2 := Try.underlying43
  have hu3 := Try.underlying40
  have hm := Nat.le_trans s1.1 s1.2.1
  unfold maxLen at hm
  generalize hR : poolLoad p frame page bs = R
  have HR := Lib.hid hR
  clear hR
  show Calls _ _ #[.agg #[_, _], _, _, _] _ _
  go_enter Try.func21, Try.ntmps21
  go_wp2_with fail
  refine (implPoolFault_calls _ p _ _ ⟨_, ⟨A1, c1, _, rfl, rfl, hw, Rep.sl_ext s1 ((alloc_ext _ _).alloc _)⟩, rfl⟩).mono ?_
  rintro e w1 ⟨rfl, hO⟩
  have HE1 := Lib.hid (Only.ext ((alloc_ext w _).alloc _) hO)
  have hb1 := Only.heap hO (heap_alloc2_old w _ _) (by simp)
  have hb2 := Only.heap hO (heap_alloc2_new w _ _) (by simp)
  clear hO
  have m1 := fun o => cell_of_row _ _ o _ _ _ hb1
  have m2 := fun o => cell_of_row _ _ o _ _ _ hb2
  have f2 := fun o => frozen_of_row _ _ o _ _ hb2
  have HB1 := Lib.hid hb1; have HB2 := Lib.hid hb2
  clear hb1 hb2
  by_cases h1 : poolFault p = 0
  rotate_left
  · have hb : (poolFault p != 0) = true := by simp [h1]
    obtain rfl : codeRes 1 = R := by rw [← HR.out, poolLoad, if_pos h1]
    go_wp2
    refine bodyPost_ret (v := .agg #[.int .i64 1, .int .i64 0, .slice none 0 0, .int .i64 0]) (by simp [results, Try.results21, go_sem, m2]) rfl ?_
    exact codeRes_post (by decide) (by repeat (first | exact HE1.out | ((with_reducible apply Only.set); · simp)))
  have hb : (poolFault p != 0) = false := by simp [h1]
  have H1 := Lib.hid h1
  clear h1
  by_cases hr : 0 ≤ frame ∧ frame < p.Frames.length
  rotate_left
  · obtain rfl : codeRes 2 = R := by rw [← HR.out, poolLoad, if_neg (by simp [H1.out]), dif_neg hr]
    have hin : inR frame 0 ((p.Frames.length : Int) - 1) = false := by simp [inR]; omega
    all_goals
      clear hr
      go_wp2_with (go_at_call 45; refine (implIn_calls _ _ _ _).mono ?_; rintro e w1 ⟨rfl, rfl⟩)
      refine bodyPost_ret (v := .agg #[.int .i64 2, .int .i64 0, .slice none 0 0, .int .i64 0]) (by simp [results, Try.results21, go_sem, m2]) rfl ?_
      exact codeRes_post (by decide) (by repeat (first | with_reducible exact HE1.out | with_reducible exact HE2.out | ((with_reducible apply Only.set); · simp)))
  obtain ⟨hr1, hr2⟩ := hr
  obtain ⟨i, rfl⟩ := Int.eq_ofNat_of_zero_le hr1
  have hi : i < p.Frames.length := by omega
  have hin : inR (i : Int) 0 ((p.Frames.length : Int) - 1) = true := by simp [inR]; omega
  clear hr1 hr2
  obtain ⟨g, off, B1, d1, G1, rfl, hg, hwf, t1, k0, k1, k2, k3, k4, k5⟩ := sl_Frame (Rep.sl_ext s1 HE1.out) i hi
  have HR2 : Hid (poolLoadAt p i p.Frames[i] page bs = R) := by
    show _ = _
    rw [← HR.out, poolLoad_at H1.out i hi]
  clear HR
  generalize hx : p.Frames[i] = x at *
  have HX := Lib.hid hx
  clear hx
  by_cases h2 : x.Pins > 0 ∨ x.Dirty = true
  · obtain rfl : codeRes 2 = R := by rw [← HR2.out, poolLoadAt, if_pos h2]
    have hh : 0 < x.Pins ∨ x.Pins ≤ 0 ∧ x.Dirty = true := by
      rcases h2 with h2 | h2
      · exact .inl h2
      · rcases Int.lt_or_le 0 x.Pins with h | h
        · exact .inl h
        · exact .inr ⟨h, h2⟩
    clear h2
    rcases hh with hh | ⟨hh, hd⟩
    · go_wp2_with (go_at_call 45; refine (implIn_calls _ _ _ _).mono ?_; rintro e w1 ⟨rfl, rfl⟩)
      refine bodyPost_ret (v := .agg #[.int .i64 2, .int .i64 0, .slice none 0 0, .int .i64 0]) (by simp [results, Try.results21, go_sem, m2]) rfl ?_
      exact codeRes_post (by decide) (by repeat (first | with_reducible exact HE1.out | with_reducible exact HE2.out | ((with_reducible apply Only.set); · simp)))
    · rw [hd] at k3
      go_wp2_with (go_at_call 45; refine (implIn_calls _ _ _ _).mono ?_; rintro e w1 ⟨rfl, rfl⟩)
      refine bodyPost_ret (v := .agg #[.int .i64 2, .int .i64 0, .slice none 0 0, .int .i64 0]) (by simp [results, Try.results21, go_sem, m2]) rfl ?_
      exact codeRes_post (by decide) (by repeat (first | with_reducible exact HE1.out | with_reducible exact HE2.out | ((with_reducible apply Only.set); · simp)))
  obtain ⟨h3, h4⟩ := not_or.1 h2
  have h5 : x.Dirty = false := by simpa using h4
  have h6 : x.Pins ≤ 0 := by omega
  have HR3 := HR2.out
  unfold poolLoadAt at HR3
  rw [if_neg h2] at HR3
  replace HR3 := Lib.hid HR3
  rw [h5] at k3
  clear h2 h3 h4 h5
  by_cases h7 : (!inR page 0 15) = true ∨ bs.length ≠ 4096
  · obtain rfl : codeRes 3 = R := by rw [← HR3.out, if_pos h7]
    have hh : inR page 0 15 = false ∨ inR page 0 15 = true ∧ ((bs.length : Int) != 4096) = true := by
      cases hq : inR page 0 15
      · exact .inl rfl
      · simp [hq] at h7; exact .inr ⟨rfl, by simp; omega⟩
    clear h7
    rcases hh with hh | ⟨hh, hd⟩
    all_goals
      go_wp2_with (go_at_call 45; refine (implIn_calls _ _ _ _).mono ?_; rintro e w1 ⟨rfl, rfl⟩)
      refine bodyPost_ret (v := .agg #[.int .i64 3, .int .i64 0, .slice none 0 0, .int .i64 0]) (by simp [results, Try.results21, go_sem, m2]) rfl ?_
      exact codeRes_post (by decide) (by repeat (first | with_reducible exact HE1.out | with_reducible exact HE2.out | ((with_reducible apply Only.set); · simp)))
  have h8 : inR page 0 15 = true := by cases hq : inR page 0 15 <;> simp [hq] at h7 ⊢
  have h9 : ((bs.length : Int) != 4096) = false := by simp [h8] at h7; simp; omega
  have HR4 := HR3.out
  rw [if_neg h7] at HR4
  replace HR4 := Lib.hid HR4
  clear h7 HR3
  go_wp2_with (go_at_call 45; refine (implIn_calls _ _ _ _).mono ?_; rintro e w1 ⟨rfl, rfl⟩)
  refine (find_calls _ _ c1 p.Frames _ page _ (m1 0) (Rep.sl_ext s1 HE1.out)).mono ?_
  rintro e w2 ⟨rfl, hO⟩
  rw [findIf_find p page H1.out]
  have HE2 := Lib.hid (Only.ext HE1.out hO)
  have hb1 := Only.heap hO HB1.out (by simp)
  have hb2 := Only.heap hO HB2.out (by simp)
  clear hO m1 m2 f2 HB1 HB2 k0 k1 k2 k3 k4 k5 h8 h9 t1
  have m1 := fun o => cell_of_row _ _ o _ _ _ hb1
  have m2 := fun o => cell_of_row _ _ o _ _ _ hb2
  have f2 := fun o => frozen_of_row _ _ o _ _ hb2
  have HB1 := Lib.hid hb1; have HB2 := Lib.hid hb2
  clear hb1 hb2
  by_cases h10 : 0 ≤ poolFind p page ∧ poolFind p page ≠ i
  · obtain rfl : codeRes 4 = R := by rw [← HR4.out, if_pos h10]
    obtain ⟨h11, h12⟩ := h10
    have h13 : (poolFind p page != (i : Int)) = true := by simp [h12]
    clear h12
    go_wp2
    refine bodyPost_ret (v := .agg #[.int .i64 4, .int .i64 0, .slice none 0 0, .int .i64 0]) (by simp [results, Try.results21, go_sem, m2]) rfl ?_
    exact codeRes_post (by decide) (by repeat (first | with_reducible exact HE1.out | with_reducible exact HE2.out | ((with_reducible apply Only.set); · simp)))
  have HR5 := HR4.out
  rw [if_neg h10] at HR5
  have h11 : poolFind p page < 0 ∨ 0 ≤ poolFind p page ∧ (poolFind p page != (i : Int)) = false := by
    by_cases h : 0 ≤ poolFind p page
    · exact .inr ⟨h, by simp at h10 ⊢; exact h10 h⟩
    · exact .inl (by omega)
  subst HR5
  clear h10 HR4 HR2
  rcases h11 with h11 | ⟨h11, h12⟩
  all_goals
    go_wp2_with fail
    refine (clonePool_calls _ p _ _ ⟨_, ⟨_, c1, _, rfl, rfl, hw, Rep.sl_ext s1 HE2.out⟩, rfl⟩ hs2).mono ?_
    rintro e w3 ⟨v3, F3, rfl, hV, hN⟩
    obtain ⟨_, ⟨B, d, F3', rfl, rfl, hw3, q⟩, hv⟩ := hV
    replace hv : v3 = .agg #[_, _] := hv
    subst hv
    have HE3 := Lib.hid (Only.ext HE2.out hN.ext)
    have hb2 := Only.heap hN.ext HB2.out (by simp)
    have hzw2 : w.heap.size + 1 < w2.heap.size := (Array.getElem?_eq_some_iff.1 HB2.out).1
    clear m1 m2 f2 HB1 HB2
    have HB2 := Lib.hid hb2
    clear hb2
    obtain ⟨g', off', dd, GG, rfl, hgF, hgG, hGF, hGn, hRx, hFoc, hput⟩ := Rep.sl_foc2 q hN.nodup hN.unfr i hi
    have HFoc := Lib.hid hFoc; have HPUT := Lib.hid hput; have HN := Lib.hid hN
    obtain ⟨_, _, _, rfl, rfl, -, -⟩ := hRx
    clear hFoc hput hN
    go_wp2_with fail
    have HA := alloc_ext w3 (.cells #[.int .i64 0, .int .i64 i, .slice (some ⟨g', off', none⟩) p.Frames.length d, .int .i64 p.Hand] 40)
    have z0 : w3.heap.size < (w3.alloc (.cells #[.int .i64 0, .int .i64 i, .slice (some ⟨g', off', none⟩) p.Frames.length d, .int .i64 p.Hand] 40)).heap.size := by simp
    have m0' : (w3.alloc (.cells #[.int .i64 0, .int .i64 i, .slice (some ⟨g', off', none⟩) p.Frames.length d, .int .i64 p.Hand] 40)).cell? ⟨w3.heap.size, 0, none⟩ = some (.int .i64 0) := by simp
    have m1' : (w3.alloc (.cells #[.int .i64 0, .int .i64 i, .slice (some ⟨g', off', none⟩) p.Frames.length d, .int .i64 p.Hand] 40)).cell? ⟨w3.heap.size, 1, none⟩ = some (.int .i64 i) := by simp
    have m2' : (w3.alloc (.cells #[.int .i64 0, .int .i64 i, .slice (some ⟨g', off', none⟩) p.Frames.length d, .int .i64 p.Hand] 40)).cell? ⟨w3.heap.size, 2, none⟩ = some (.slice (some ⟨g', off', none⟩) p.Frames.length d) := by simp
    have m3' : (w3.alloc (.cells #[.int .i64 0, .int .i64 i, .slice (some ⟨g', off', none⟩) p.Frames.length d, .int .i64 p.Hand] 40)).cell? ⟨w3.heap.size, 3, none⟩ = some (.int .i64 p.Hand) := by simp
    generalize w3.alloc (.cells #[.int .i64 0, .int .i64 i, .slice (some ⟨g', off', none⟩) p.Frames.length d, .int .i64 p.Hand] 40) = W4 at HA z0 m0' m1' m2' m3' ⊢
    have hg3 : g' < w3.heap.size := HFoc.out.lt
    have hg2 : w2.heap.size ≤ g' := HN.out.new g' hgF
    have hz2 : w.heap.size + 1 < w3.heap.size := (Array.getElem?_eq_some_iff.1 HB2.out).1
    have HF4 := Lib.hid (HFoc.out.ext HA (fun b hb => Rep.sl_lt q b hb))
    obtain ⟨u0, u1, u2, u3, u4, u5, k0, k1, k2, k3, k4, k5⟩ : ∃ u0 u1 u2 u3 u4 u5, W4.cell? ⟨g', off' + i * 6, none⟩ = some u0 ∧ W4.cell? ⟨g', off' + i * 6 + 1, none⟩ = some u1 ∧ W4.cell? ⟨g', off' + i * 6 + 2, none⟩ = some u2 ∧ W4.cell? ⟨g', off' + i * 6 + 3, none⟩ = some u3 ∧ W4.cell? ⟨g', off' + i * 6 + 4, none⟩ = some u4 ∧ W4.cell? ⟨g', off' + i * 6 + 5, none⟩ = some u5 :=
      ⟨_, _, _, _, _, _, HF4.out.cell 0 _ rfl, HF4.out.cell 1 _ rfl, HF4.out.cell 2 _ rfl, HF4.out.cell 3 _ rfl, HF4.out.cell 4 _ rfl, HF4.out.cell 5 _ rfl⟩
    have f0 := fun o => HF4.out.unfr g' hgF o
    have SB := Rep.sl_ext hB (HE3.out.ext (Only.drew HA))
    have hne1 : ¬ g' = w3.heap.size := by omega
    have hne2 : ¬ w3.heap.size = g' := by omega
    go_region_held3 (fun w' => w'.cell? ⟨w3.heap.size, 0, none⟩ = some (.int .i64 0) ∧ w'.cell? ⟨w3.heap.size, 1, none⟩ = some (.int .i64 i) ∧ w'.cell? ⟨w3.heap.size, 2, none⟩ = some (.slice (some ⟨g', off', none⟩) p.Frames.length d) ∧ w'.cell? ⟨w3.heap.size, 3, none⟩ = some (.int .i64 p.Hand))
      (first | go_keep | exact ⟨hN5.ext.ecell m0', hN5.ext.ecell m1', hN5.ext.ecell m2', hN5.ext.ecell m3'⟩)
      (first
        | (go_at_call 53; refine (Clone_calls _ _ _ _ _ SB (by omega)).mono ?_; rintro e w5 ⟨v5, G5, rfl, hV5, hN5⟩; obtain ⟨A5, c5, rfl, q5⟩ := Rep.slice_V hV5; have j0 := hN5.ext.ecell k0; have j1 := hN5.ext.ecell k1; have j2 := hN5.ext.ecell k2; have j3 := hN5.ext.ecell k3; have j4 := hN5.ext.ecell k4; have j5 := hN5.ext.ecell k5; have f5 := fun o => hN5.ext.efroz (p := ⟨g', o, none⟩) (Nat.lt_trans hg3 z0) (f0 o)))
    have hx5 : Ext W4 w5 := ((Only.refl [] W4).drew).ext hN5.ext
    have HE5 := Lib.hid (HE3.out.ext (HA.ext hx5))
    have hb2 := Only.heap hx5 (Only.heap HA HB2.out (by simp)) (by simp)
    have m2 := fun o => cell_of_row _ _ o _ _ _ hb2
    have f2 := fun o => frozen_of_row _ _ o _ _ hb2
    have n0 := hN5.ext.ecell m0'
    have n1 := hN5.ext.ecell m1'
    have n2 := hN5.ext.ecell m2'
    have n3 := hN5.ext.ecell m3'
    have hne3 : ¬ g' = w.heap.size + 1 := by omega
    have hne4 : ¬ w.heap.size + 1 = g' := by omega
    have HF6 := Lib.hid (((((((HF4.out.ext hx5 (fun b hb => Rep.sl_lt q b hb)).set hgF 0 (by decide) (.int .i64 page)).set hgF 1 (by decide) (.slice A5 bs.length c5)).set hgF 2 (by decide) (.int .i64 0)).set hgF 3 (by decide) (.bool false)).set hgF 4 (by decide) (.int .i64 0)).set hgF 5 (by decide) (.bool true))
    have HN5 := Lib.hid hN5
    clear hb2 j0 j1 j2 j3 j4 j5 f5 k0 k1 k2 k3 k4 k5 f0 m0' m1' m2' m3'
    go_wp2
    refine bodyPost_ret (v := .agg #[.int .i64 0, .int .i64 i, .slice (some ⟨g', off', none⟩) p.Frames.length d, .int .i64 p.Hand]) (by simp [results, Try.results21, go_sem, m2]) rfl ?_
    have hG5 := HN5.out.new
    have hz4 : W4.heap.size ≤ w5.heap.size := hx5.size
    obtain ⟨F', hsl, hnd, hun, hsub⟩ := HPUT.out _ ⟨page, bs, 0, false, 0, true⟩ _ G5 HF6.out ⟨A5, c5, G5, rfl, rfl, ⟨ep, rfl, rfl⟩, Rep.sl_only q5 (((((((Only.refl [g'] w5).setCell (by simp) _).setCell (by simp) _).setCell (by simp) _).setCell (by simp) _).setCell (by simp) _).setCell (by simp) _) (fun b hb hb' => by simp at hb'; have := hG5 b hb; simp at this; omega)⟩
      (fun hb => by have := hG5 _ hb; simp at this; omega) HN5.out.nodup (Unfr.only HN5.out.unfr (((((((Only.refl [g'] w5).setCell (by simp) _).setCell (by simp) _).setCell (by simp) _).setCell (by simp) _).setCell (by simp) _).setCell (by simp) _) (fun b hb => Rep.sl_lt q5 b hb) (fun b hb hb' => by simp at hb'; have := hG5 b hb; simp at this; omega))
      (fun b hb hb' => by have := hG5 b hb; simp at this; have := Rep.sl_lt q b hb'; omega)
    have hnew : ∀ b ∈ F', w.heap.size + 1 < b := fun b hb => by
      rcases hsub b hb with h | h
      · have := HN.out.new b h; omega
      · have := hG5 b h; simp at this; omega
    simp only [show Rep.Frame.sz = 6 from rfl, Nat.add_zero] at hsl hun
    refine poolRes_post ?_ (Rep.sl_only hsl (G := [w.heap.size + 1]) (by repeat (first | with_reducible exact Only.refl _ _ | ((with_reducible apply Only.set); · simp))) (fun b hb hb' => by have := hnew b hb; simp at hb'; omega)) (fun b hb => by have := hnew b hb; omega) hnd (Unfr.only hun (G := [w.heap.size + 1]) (by repeat (first | with_reducible exact Only.refl _ _ | ((with_reducible apply Only.set); · simp))) (fun b hb => Rep.sl_lt hsl b hb) (fun b hb hb' => by have := hnew b hb; simp at hb'; omega)) (by simp) rfl ef hw3
    repeat (first | with_reducible exact HE5.out | ((with_reducible apply Only.set); · (simp; try omega)))
end Go.Proofs.Ytjjdainnofnmcaa
