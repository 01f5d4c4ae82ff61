/- poolDo with any function of its kind. -/
import Derived.Test.YtjjdainnofnmcaaP7
namespace Go.Proofs.Ytjjdainnofnmcaa
open Go.RowKit
set_option linter.unusedSimpArgs false
set_option linter.unusedVariables false
/-- What a function that is done to a frame does: the data of the frame are g's. -/
def FrameFn (fi : Nat) (cap : Array Value) (g : DFrame → DFrame × Int) (w0 : World) : Prop :=
  ∀ (W : World) (b o : Nat) (x : DFrame) (B : Option Addr) (d : Nat), Ext w0 W → w0.heap.size ≤ b → b < W.heap.size → 0 ≤ x.Pins ∧ x.Pins ≤ 2147483647 →
    W.cell? ⟨b, o, none⟩ = some (.int .i64 x.Page) → W.cell? ⟨b, o + 1, none⟩ = some (.slice B x.Bytes.length d) → W.cell? ⟨b, o + 2, none⟩ = some (.int .i64 x.Pins) → W.cell? ⟨b, o + 3, none⟩ = some (.bool x.Dirty) →
    W.cell? ⟨b, o + 4, none⟩ = some (.int .i64 x.RecLSN) → W.cell? ⟨b, o + 5, none⟩ = some (.bool x.Ref) → (∀ j, W.frozen? ⟨b, j, none⟩ = false) →
    Calls Try.prog fi (#[.pointer (some ⟨b, o, none⟩)] ++ cap) W fun e w' => e = .returned (.int .i64 (g x).2) ∧ (((g x).2 ≠ 0 ∧ Ext W w') ∨ ((g x).2 = 0 ∧ Only [b] W w' ∧
      ∀ (W0 : World) (F G : List Nat), Foc W0 W b o 6 F G [.int .i64 x.Page, .slice B x.Bytes.length d, .int .i64 x.Pins, .bool x.Dirty, .int .i64 x.RecLSN, .bool x.Ref] → b ∈ F → b ∉ G → (∀ c ∈ G, c ∈ F) → (∀ c ∈ F, c < W0.heap.size) → (∀ c ∈ F, c < W.heap.size) → G.Nodup → Unfr W F → wfFrame x → (Rep.int .u8).sl W B d x.Bytes G →
        ∃ d' G', Foc W0 w' b o 6 F G d' ∧ Rep.Frame.R w' (g x).1 d' G' ∧ b ∉ G' ∧ G'.Nodup ∧ Unfr w' G' ∧ (∀ c ∈ G', c ∈ G ∨ W.heap.size ≤ c)))
set_option maxRecDepth 100000 in
set_option maxHeartbeats 2000000 in
theorem poolDo_calls (fi : Nat) (cap : Array Value) (gm : DFrame → DFrame × Int) (w0 w : World) (hfi : ∀ (args : Array Value) (W : World), (callFunc fi args).run Try.prog W = .ok (.enter fi args) W) (hcl : FrameFn fi cap gm w0) (hw0 : Ext w0 w) (hcode : ∀ x, (Lit.int .i64 (gm x).2).wf = true) (v : Value) (p : DPool) (F : List Nat) (h : Rep.Pool.V w v p F) (page : Int) (ep : (Lit.int .i64 page).wf = true) (hs2 : wtPool p ≤ 1048576) :
    Calls Try.prog 54 #[v, .int .i64 page, .func (.func fi) #[] cap] w (NewPost Rep.PoolResult (poolMod p page gm) w) := by
  obtain ⟨_, ⟨A1, c1, F1, rfl, rfl, hw, s1⟩, rfl⟩ := id h
  have hu := Try.underlying29
  have hu2 := Try.underlying43
  have hu3 := Try.underlying40
  have hm := Nat.le_trans s1.1 s1.2.1
  unfold maxLen at hm
  generalize hR : poolMod p page gm = R
  have HR := Lib.hid hR
  clear hR
  show Calls _ _ #[.agg #[_, _], _, _] _ _
  go_enter Try.func54, Try.ntmps54
  go_wp2_with fail
  refine (implPoolFault_calls _ p _ _ ⟨_, ⟨A1, c1, _, rfl, rfl, hw, Rep.sl_ext s1 ((alloc_ext _ _).alloc _)⟩, rfl⟩).mono ?_
  rintro e w1 ⟨rfl, hO⟩
  have HE1 := Lib.hid (Only.ext ((alloc_ext w _).alloc _) hO)
  have hb1 := Only.heap hO (heap_alloc2_old w _ _) (by simp)
  have hb2 := Only.heap hO (heap_alloc2_new w _ _) (by simp)
  clear hO
  have m1 := fun o => cell_of_row _ _ o _ _ _ hb1
  have m2 := fun o => cell_of_row _ _ o _ _ _ hb2
  have f2 := fun o => frozen_of_row _ _ o _ _ hb2
  have HB1 := Lib.hid hb1; have HB2 := Lib.hid hb2
  clear hb1 hb2
  by_cases h1 : poolFault p = 0
  rotate_left
  · have hb : (poolFault p != 0) = true := by simp [h1]
    obtain rfl : codeRes 1 = R := by rw [← HR.out, poolMod_1 h1]
    clear h1
    go_wp2
    refine bodyPost_ret (v := .agg #[.int .i64 1, .int .i64 0, .slice none 0 0, .int .i64 0]) (by simp [results, Try.results54, go_sem, m2]) rfl ?_
    exact codeRes_post (by decide) (by repeat (first | with_reducible exact HE1.out | ((with_reducible apply Only.set); · simp)))
  have hb : (poolFault p != 0) = false := by simp [h1]
  go_wp2_with fail
  refine (find_calls _ _ c1 p.Frames _ page _ (m1 0) (Rep.sl_ext s1 HE1.out)).mono ?_
  rintro e w2 ⟨rfl, hO⟩
  rw [findIf_find p page h1]
  have HE2 := Lib.hid (Only.ext HE1.out hO)
  have hb1 := Only.heap hO HB1.out (by simp)
  have hb2 := Only.heap hO HB2.out (by simp)
  clear hO m1 m2 f2 HB1 HB2
  have m1 := fun o => cell_of_row _ _ o _ _ _ hb1
  have m2 := fun o => cell_of_row _ _ o _ _ _ hb2
  have f2 := fun o => frozen_of_row _ _ o _ _ hb2
  have HB2 := Lib.hid hb2
  clear hb1 hb2
  rcases poolFind_range p page with h2 | ⟨h2, h3⟩
  · obtain rfl : codeRes 2 = R := by rw [← HR.out, poolMod_2 h1 (by omega)]
    rw [h2]
    clear h1 h2
    go_wp2
    refine bodyPost_ret (v := .agg #[.int .i64 2, .int .i64 0, .slice none 0 0, .int .i64 0]) (by simp [results, Try.results54, go_sem, m2]) rfl ?_
    exact codeRes_post (by decide) (by repeat (first | with_reducible exact HE2.out | ((with_reducible apply Only.set); · simp)))
  obtain ⟨i, he⟩ := Int.eq_ofNat_of_zero_le h2
  have hi : i < p.Frames.length := by omega
  have HR2 := HR.out
  rw [poolMod_3 h1 i hi he] at HR2
  have hpins := Lib.hid (poolFind_pins h1 i hi he)
  have ef : (Lit.int .i64 (i : Int)).wf = true := by simp [Lit.wf, IntKind.min, IntKind.max, IntKind.signed, IntKind.bits]; omega
  rw [he]
  clear h1 h2 h3 he HR
  generalize hx : p.Frames[i] = x at *
  have HX := Lib.hid hx
  have HR3 := Lib.hid HR2
  clear hx HR2
  go_wp2_with fail
  refine (clonePool_calls _ p _ _ ⟨_, ⟨_, c1, _, rfl, rfl, hw, Rep.sl_ext s1 HE2.out⟩, rfl⟩ hs2).mono ?_
  rintro e w3 ⟨v3, F3, rfl, hV, hN⟩
  obtain ⟨_, ⟨B, d, F3', rfl, rfl, hw3, q⟩, hv⟩ := hV
  replace hv : v3 = .agg #[_, _] := hv
  subst hv
  have HE3 := Lib.hid (Only.ext HE2.out hN.ext)
  have hb2 := Only.heap hN.ext HB2.out (by simp)
  have hzw2 : w.heap.size + 1 < w2.heap.size := (Array.getElem?_eq_some_iff.1 HB2.out).1
  clear m1 m2 f2 HB2
  have m2 := fun o => cell_of_row _ _ o _ _ _ hb2
  have f2 := fun o => frozen_of_row _ _ o _ _ hb2
  have hz3 := (Array.getElem?_eq_some_iff.1 hb2).1
  have HB3 := Lib.hid hb2
  clear hb2
  obtain ⟨g', off', dd, GG, rfl, hgF, hgG, hGF, hGn, hRx, hFoc, hput⟩ := Rep.sl_foc2 q hN.nodup hN.unfr i hi
  have hg3 : g' < w3.heap.size := hFoc.lt
  have hg2 : w2.heap.size ≤ g' := hN.new g' hgF
  obtain ⟨B5, d5, GG5, rfl, rfl, hwf5, q5⟩ := hRx
  have HX5 := HX.out
  rw [HX5] at hFoc q5 hwf5
  have k0 := hFoc.cell 0 _ rfl
  have k1 := hFoc.cell 1 _ rfl
  have k2 := hFoc.cell 2 _ rfl
  have k3 := hFoc.cell 3 _ rfl
  have k4 := hFoc.cell 4 _ rfl
  have k5 := hFoc.cell 5 _ rfl
  have f0 := fun o => hFoc.unfr g' hgF o
  simp only [show Rep.Frame.sz = 6 from rfl, Nat.add_zero] at k0 k1 k2 k3 k4 k5 hFoc hput
  have HFoc := Lib.hid hFoc; have HPUT := Lib.hid hput; have HN := Lib.hid hN
  clear hFoc hput hN HX5
  have hne1 : ¬ g' = w3.heap.size := by omega
  have hne2 : ¬ w3.heap.size = g' := by omega
  have hne3 : ¬ g' = w.heap.size + 1 := by omega
  have hne4 : ¬ w.heap.size + 1 = g' := by omega
  go_wp2_with fail
  have HA := alloc_ext w3 (.cells #[.int .i64 0, .int .i64 i, .slice (some ⟨g', off', none⟩) p.Frames.length d, .int .i64 p.Hand] 40)
  have hb8 := heap_alloc_new w3 (.cells #[.int .i64 0, .int .i64 i, .slice (some ⟨g', off', none⟩) p.Frames.length d, .int .i64 p.Hand] 40)
  generalize (w3.alloc (.cells #[.int .i64 0, .int .i64 i, .slice (some ⟨g', off', none⟩) p.Frames.length d, .int .i64 p.Hand] 40)) = W4 at HA hb8 ⊢
  have HF4 := Lib.hid (HFoc.out.ext HA (fun b hb => Rep.sl_lt q b hb))
  have HE4 := Lib.hid (HE3.out.ext HA)
  have q6 := Rep.sl_ext q5 HA
  have HB4 := Lib.hid (HA.heap HB3.out (by simp))
  have HB8 := Lib.hid hb8
  have hz4 := HA.size
  have hrf : ∀ o, W4.frozen? ⟨g', o, none⟩ = false := fun o => HA.efroz hg3 (f0 o)
  have hlt2 : ∀ b ∈ F3, b < w3.heap.size := fun b hb => Rep.sl_lt q b hb
  refine (hcl W4 g' (off' + i * 6) x B5 d5 (hw0.ext HE4.out) (by have := hw0.size; omega) (by omega) hpins.out (HA.ecell k0) (HA.ecell k1) (HA.ecell k2) (HA.ecell k3) (HA.ecell k4) (HA.ecell k5) hrf).mono ?_
  clear k0 k1 k2 k3 k4 k5 m2 f0 f2 hb8 hrf
  rintro e w5 ⟨rfl, ⟨hc, hO5⟩ | ⟨hc, hO5, hdo⟩⟩
  · have HR4 := HR3.out
    rw [if_pos hc] at HR4
    have hb : ((gm x).2 != 0) = true := by simp [hc]
    have hcw := hcode x
    generalize (gm x).2 = cc at *
    subst HR4
    have m2 := fun o => cell_of_row _ _ o _ _ _ (hO5.heap HB4.out (by simp))
    have f2 := fun o => frozen_of_row _ _ o _ _ (hO5.heap HB4.out (by simp))
    have HE5 := Lib.hid (HE4.out.ext hO5)
    go_wp2
    refine bodyPost_ret (v := .agg #[.int .i64 cc, .int .i64 0, .slice none 0 0, .int .i64 0]) (by simp [results, Try.results54, go_sem, m2]) rfl ?_
    exact codeRes_post hcw (by repeat (first | with_reducible exact HE5.out | with_reducible apply Only.alloc | ((with_reducible apply Only.set); · (simp; try omega))))
  · have HR4 := HR3.out
    rw [if_neg (by simp [hc])] at HR4
    rw [hc]
    subst HR4
    have hlast := HPUT.out
    obtain ⟨d', G', hF5, hR5, hg5, hn5, hu5, hsub5⟩ := hdo _ _ _ HF4.out hgF hgG hGF hlt2 (fun c hc => Nat.lt_of_lt_of_le (hlt2 c hc) hz4) hGn (HN.out.unfr.ext HA hlt2) hwf5 q6
    have hdone := hlast w5 (gm x).1 d' G' hF5 hR5 hg5 hn5 hu5 (fun b hb hb' => by
      rcases hsub5 b hb with h | h
      · exact h
      · have := hlt2 b hb'; omega)
    have m2 := fun o => cell_of_row _ _ o _ _ _ (hO5.heap HB4.out (by simp; omega))
    have f2 := fun o => frozen_of_row _ _ o _ _ (hO5.heap HB4.out (by simp; omega))
    have m8 := fun o => cell_of_row _ _ o _ _ _ (hO5.heap HB8.out (by simp; omega))
    have HE5 := Lib.hid (HE4.out.then_ (G := [g']) hO5 (fun c hc => by simp at hc; subst hc; omega))
    have HD := Lib.hid hdone
    have hnew3 : ∀ b ∈ F3, w.heap.size + 1 < b := fun b hb => by have := HN.out.new b hb; omega
    have hnew5 : ∀ b ∈ G', w.heap.size + 1 < b := fun b hb => by
      rcases hsub5 b hb with h | h
      · exact hnew3 b (hGF b h)
      · omega
    clear hlast hdone hdo hF5 hR5 hu5 hO5
    go_wp2
    refine bodyPost_ret (v := .agg #[.int .i64 0, .int .i64 i, .slice (some ⟨g', off', none⟩) p.Frames.length d, .int .i64 p.Hand]) (by simp [results, Try.results54, go_sem, m2]) rfl ?_
    refine pool_done HD.out hnew3 hnew5 (by repeat (first | with_reducible exact Only.refl _ _ | with_reducible apply Only.alloc | ((with_reducible apply Only.set); · simp))) ?_ (Nat.le_succ _) (by simp) rfl ef hw3
    repeat (first | with_reducible exact HE5.out | with_reducible apply Only.alloc | ((with_reducible apply Only.set); · (simp; try omega)))
end Go.Proofs.Ytjjdainnofnmcaa
