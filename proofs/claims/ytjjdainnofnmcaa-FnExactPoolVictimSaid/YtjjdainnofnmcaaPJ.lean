/- PoolVictim of the program. -/
import Derived.Test.YtjjdainnofnmcaaPE
namespace Go.Proofs.Ytjjdainnofnmcaa
open Go.RowKit
set_option linter.unusedSimpArgs false
set_option linter.unusedVariables false
set_option maxRecDepth 100000 in
set_option maxHeartbeats 2000000 in
theorem implPoolVictim_new (w : World) (v : Value) (p : DPool) (F : List Nat) (h : Rep.Pool.V w v p F) (hs2 : wtPool p ≤ 1048576) :
    Calls Try.prog 20 #[v] w (NewPost Rep.PoolResult (poolVictim p) w) := by
  obtain ⟨_, ⟨A1, c1, F1, rfl, rfl, hw, s1⟩, rfl⟩ := id h
  have hu := Try.underlying29
  have hu2 := Try.underlying43
  have hu3 := Try.underlying40
  have hm := Nat.le_trans s1.1 s1.2.1
  unfold maxLen at hm
  generalize hR : poolVictim p = R
  have HR := Lib.hid hR
  clear hR
  show Calls _ _ #[.agg #[_, _]] _ _
  go_enter Try.func20, Try.ntmps20
  go_wp2_with fail
  refine (implPoolFault_calls _ p _ _ ⟨_, ⟨A1, c1, _, rfl, rfl, hw, Rep.sl_ext s1 ((alloc_ext _ _).alloc _)⟩, rfl⟩).mono ?_
  rintro e w1 ⟨rfl, hO⟩
  have HE1 := Lib.hid (Only.ext ((alloc_ext w _).alloc _) hO)
  have hb1 := Only.heap hO (heap_alloc2_old w _ _) (by simp)
  have hb2 := Only.heap hO (heap_alloc2_new w _ _) (by simp)
  clear hO
  have m1 := fun o => cell_of_row _ _ o _ _ _ hb1
  have m2 := fun o => cell_of_row _ _ o _ _ _ hb2
  have f2 := fun o => frozen_of_row _ _ o _ _ hb2
  have hzw : w.heap.size + 1 < w1.heap.size := (Array.getElem?_eq_some_iff.1 hb2).1
  have HB1 := Lib.hid hb1; have HB2 := Lib.hid hb2
  clear hb1 hb2
  by_cases h1 : poolFault p = 0
  rotate_left
  · have hb : (poolFault p != 0) = true := by simp [h1]
    obtain rfl : codeRes 1 = R := by rw [← HR.out, poolVictim_1 h1]
    clear h1
    go_wp2
    refine bodyPost_ret (v := .agg #[.int .i64 1, .int .i64 0, .slice none 0 0, .int .i64 0]) (by simp [results, Try.results20, go_sem, m2]) rfl ?_
    exact codeRes_post (by decide) (by repeat (first | exact HE1.out | ((with_reducible apply Only.set); · simp)))
  have hb : (poolFault p != 0) = false := by simp [h1]
  obtain ⟨g1, g2, g3, g4⟩ := poolFault_size h1
  have H1 := Lib.hid h1
  clear h1
  go_wp2_with fail
  refine (clonePool_calls _ p _ _ ⟨_, ⟨_, c1, _, rfl, rfl, hw, Rep.sl_ext s1 HE1.out⟩, rfl⟩ hs2).mono ?_
  rintro e w3 ⟨v3, F3, rfl, hV, hN⟩
  obtain ⟨_, ⟨B, d, F3', rfl, rfl, hw3, q⟩, hv⟩ := hV
  replace hv : v3 = .agg #[_, _] := hv
  subst hv
  have HE3 := Lib.hid (Only.ext HE1.out hN.ext)
  have hb2 := Only.heap hN.ext HB2.out (by simp)
  clear m1 m2 f2
  have hz3 : w.heap.size + 1 < w3.heap.size := (Array.getElem?_eq_some_iff.1 hb2).1
  have h00 : 0 < p.Frames.length := by omega
  obtain ⟨g', off', dd0, GG0, hB0, hg00, hgF, -⟩ := Rep.sl_at q 0 h00
  subst hB0
  have HN := Lib.hid hN; have HQ := Lib.hid q; have HB3 := Lib.hid hb2
  have HLT := Lib.hid (fun b hb => Rep.sl_lt q b hb)
  have HGE := Lib.hid hN.new
  clear hb2 hN q
  go_wp2
  have HA := Lib.hid (alloc_ext w3 (.cells #[.int .i64 0, .int .i64 0, .slice (some ⟨g', off', none⟩) p.Frames.length d, .int .i64 p.Hand] 40))
  have HBQ := Lib.hid (heap_alloc_new w3 (.cells #[.int .i64 0, .int .i64 0, .slice (some ⟨g', off', none⟩) p.Frames.length d, .int .i64 p.Hand] 40))
  have hzA : (w3.alloc (.cells #[.int .i64 0, .int .i64 0, .slice (some ⟨g', off', none⟩) p.Frames.length d, .int .i64 p.Hand] 40)).heap.size = w3.heap.size + 1 := by simp
  generalize (w3.alloc (.cells #[.int .i64 0, .int .i64 0, .slice (some ⟨g', off', none⟩) p.Frames.length d, .int .i64 p.Hand] 40)) = W4 at HA HBQ hzA ⊢
  have HQ4 := Lib.hid (Rep.sl_ext HQ.out HA.out)
  have HU4 := Lib.hid (Unfr.ext HN.out.unfr HA.out (fun b hb => HLT.out b hb))
  have HE4 := Lib.hid (HE3.out.ext HA.out)
  have HB4 := Lib.hid (HA.out.heap HB3.out (by simp))
  go_loopg [22, 5] (p.Frames.length) (fun m i q wr => ∃ j : Nat, m + j = p.Frames.length ∧ i = .int .i64 j ∧ q = .bool ((p.Frames.take j).any (fun x => x.Pins == 0)) ∧ Ext W4 wr ∧ Hid (∀ k (hk : k < p.Frames.length), k < j → ¬ p.Frames[k].Page = -1))
  case atStart => exact ⟨0, by simp, rfl, by simp, Only.refl _ _, fun k _ h => by omega⟩
  case round =>
    obtain ⟨j, hj, rfl, rfl, hO, HT⟩ := hrel
    have HJ := Lib.hid hj; have HO := Lib.hid hO
    have hbQ := hO.heap HBQ.out (by simp)
    have hbR := hO.heap HB4.out (by simp)
    have mQ := fun o => cell_of_row _ _ o _ _ _ hbQ
    have fQ := fun o => frozen_of_row _ _ o _ _ hbQ
    have m2 := fun o => cell_of_row _ _ o _ _ _ hbR
    have f2 := fun o => frozen_of_row _ _ o _ _ hbR
    have hzr := hO.size
    have HBQr := Lib.hid hbQ; have HBRr := Lib.hid hbR
    clear hj hO hbQ hbR
    by_cases hlt : j < p.Frames.length
    · obtain ⟨ga, oa, B1, d1, G1, hA, hg, hwf, t1, k0, k1, k2, k3, k4, k5⟩ := sl_Frame (Rep.sl_ext HQ4.out HO.out) j hlt
      injection hA with hA
      injection hA with hA1 hA2
      subst hA1; subst hA2
      -- the element's own box
      have q1 := fun o => cell_of_row _ _ o _ _ _ ((alloc_ext wr (.cells #[.int .i64 p.Frames[j].Page, .slice B1 p.Frames[j].Bytes.length d1, .int .i64 p.Frames[j].Pins, .bool p.Frames[j].Dirty, .int .i64 p.Frames[j].RecLSN, .bool p.Frames[j].Ref] 43)).heap HBQr.out (by simp))
      have q2 := fun o => cell_of_row _ _ o _ _ _ ((alloc_ext wr (.cells #[.int .i64 p.Frames[j].Page, .slice B1 p.Frames[j].Bytes.length d1, .int .i64 p.Frames[j].Pins, .bool p.Frames[j].Dirty, .int .i64 p.Frames[j].RecLSN, .bool p.Frames[j].Ref] 43)).heap HBRr.out (by simp))
      have q3 := fun o => frozen_of_row _ _ o _ _ ((alloc_ext wr (.cells #[.int .i64 p.Frames[j].Page, .slice B1 p.Frames[j].Bytes.length d1, .int .i64 p.Frames[j].Pins, .bool p.Frames[j].Dirty, .int .i64 p.Frames[j].RecLSN, .bool p.Frames[j].Ref] 43)).heap HBQr.out (by simp))
      have q4 := fun o => frozen_of_row _ _ o _ _ ((alloc_ext wr (.cells #[.int .i64 p.Frames[j].Page, .slice B1 p.Frames[j].Bytes.length d1, .int .i64 p.Frames[j].Pins, .bool p.Frames[j].Dirty, .int .i64 p.Frames[j].RecLSN, .bool p.Frames[j].Ref] 43)).heap HBRr.out (by simp))
      have hne1 : ¬ w3.heap.size = w.heap.size + 1 := by omega
      have hne2 : ¬ w.heap.size + 1 = w3.heap.size := by omega
      by_cases hp : p.Frames[j].Page = -1
      · obtain rfl : (⟨0, j, p⟩ : DPoolResult) = R := by rw [← HR.out, poolVictim_2 H1.out j hlt HT.out hp]
        have hpb : (p.Frames[j].Page == -1) = true := by simp [hp]
        have HP := Lib.hid hp
        clear hp t1
        generalize (p.Frames.take j).any _ = bb
        go_wp2
        refine bodyPost_ret (v := .agg #[.int .i64 0, .int .i64 j, .slice (some ⟨g', off', none⟩) p.Frames.length d, .int .i64 p.Hand]) (by simp [results, Try.results20, go_sem, q2, hne1, hne2]) rfl ?_
        have hgen : ∀ W7, Only [w3.heap.size, w.heap.size + 1] wr W7 → NewPost Rep.PoolResult ⟨0, j, p⟩ w (.returned (.agg #[.int .i64 0, .int .i64 j, .slice (some ⟨g', off', none⟩) p.Frames.length d, .int .i64 p.Hand])) W7 := by
          intro W7 hO7
          have hd7 : ∀ b ∈ F3, b ∉ [w3.heap.size, w.heap.size + 1] := fun b hb hb' => by
            have h1 := HLT.out b hb; have h2 := HGE.out b hb
            simp at hb'
            omega
          have hl4 : ∀ b ∈ F3, b < W4.heap.size := fun b hb => Rep.sl_lt HQ4.out b hb
          exact poolRes_post ((HE4.out.ext HO.out).then_ hO7 (fun b hb hlt => by simp at hb; omega)) (Rep.sl_only (Rep.sl_ext HQ4.out HO.out) hO7 hd7) (fun b hb => by have := HGE.out b hb; omega) HN.out.nodup (Unfr.only (Unfr.ext HU4.out HO.out hl4) hO7 (fun b hb => by have := hl4 b hb; omega) hd7) rfl rfl (wf_nat _ (by omega)) hw3
        apply hgen
        repeat (first | with_reducible exact Only.refl _ _ | with_reducible apply Only.alloc | ((with_reducible apply Only.set); · simp))
      · have hpb : (p.Frames[j].Page == -1) = false := by simp [hp]
        have hup := any_upto (fun x : DFrame => x.Pins == 0) p.Frames j hlt
        have HP := Lib.hid hp; have HUP := Lib.hid hup
        clear hp hup t1
        generalize hbb : (p.Frames.take j).any (fun x => x.Pins == 0) = bb at *
        cases bb
        all_goals
          go_wp2
          go_roundg (p.Frames.length - (j + 1))
          case measure => have := HJ.out; omega
          case rel =>
            refine ⟨j + 1, by omega, by go_num, by rw [HUP.out]; simp, HO.out.alloc _, fun k hk hkj => ?_⟩
            by_cases e : k = j
            · subst e; exact HP.out
            · exact HT.out k hk (by omega)
    · have hj := HJ.out
      have hnone : ∀ k (hk : k < p.Frames.length), ¬ p.Frames[k].Page = -1 := fun k hk => HT.out k hk (by omega)
      have hR3 := HR.out
      rw [poolVictim_3 H1.out hnone] at hR3
      rw [List.take_of_length_le (by omega)]
      clear HR hnone HT hj
      obtain ⟨bb, hbb⟩ : ∃ bb, bb = p.Frames.any (fun x => x.Pins == 0) := ⟨_, rfl⟩
      rw [← hbb] at hR3 ⊢
      cases bb
      · obtain rfl : codeRes 2 = R := hR3
        clear hbb
        go_wp2
        refine bodyPost_ret (v := .agg #[.int .i64 2, .int .i64 0, .slice none 0 0, .int .i64 0]) (by simp [results, Try.results20, go_sem, m2]) rfl ?_
        exact codeRes_post (by decide) (by repeat (first | with_reducible exact HE4.out.ext HO.out | ((with_reducible apply Only.set); · simp)))
      rw [if_pos rfl] at hR3
      obtain ⟨m0, RR, hclk⟩ : ∃ m R, clock m p.Frames p.Hand.toNat = some R := by
        refine clock_total _ p.Frames rfl ?_ _ (by omega)
        have := List.any_eq_true.1 hbb.symm
        obtain ⟨x, hx, hz⟩ := this
        obtain ⟨k, hk, rfl⟩ := List.getElem_of_mem hx
        exact ⟨k, p.Frames[k], by simp [hk], by simp at hz; omega⟩
      rw [clockOf_eq hclk] at hR3
      obtain ⟨hand, hhe⟩ := Int.eq_ofNat_of_zero_le g3
      have HHE := Lib.hid hhe
      have hclk2 : clock m0 p.Frames hand = some RR := by rw [hhe] at hclk; exact hclk
      have HC := Lib.hid hclk2; have HR3 := Lib.hid hR3
      have hhl : hand < p.Frames.length := by omega
      clear hclk hclk2 hR3 hbb hhe
      have hz4 : w3.heap.size < wr.heap.size := by omega
      have HOu := Lib.hid HO.out
      have hBQ2 : wr.heap[w3.heap.size]? = some (.cells #[.int .i64 0, .int .i64 0, .slice (some ⟨g', off', none⟩) p.Frames.length d, .int .i64 hand] 40 (0, 0)) := by rw [← HHE.out]; exact HBQr.out
      have HS0 := Lib.hid (Rep.sl_ext HQ4.out HO.out)
      have HU0 := Lib.hid (Unfr.ext HU4.out HO.out (fun b hb => Rep.sl_lt HQ4.out b hb))
      have HEr := Lib.hid (HE4.out.ext HO.out)
      go_wp2
      clear m2 f2 mQ fQ
      obtain ⟨wb, rfl⟩ : ∃ wb : World, wb = wr := ⟨_, rfl⟩
      go_loopg [8] (m0) (fun m a wr => ∃ (xs : List DFrame) (h : Nat), Hid (clock m xs h = some RR) ∧ h < xs.length ∧ xs.length = p.Frames.length ∧ Only (w3.heap.size :: F3) wb wr ∧ Unfr wr F3 ∧ Rep.Frame.sl wr (some ⟨g', off', none⟩) d xs F3 ∧ wr.heap[w3.heap.size]? = some (.cells #[.int .i64 0, .int .i64 0, .slice (some ⟨g', off', none⟩) p.Frames.length d, .int .i64 h] 40 (0, 0)))
      case atStart => exact ⟨p.Frames, hand, HC.out, by omega, rfl, Only.refl _ _, HU0.out, HS0.out, hBQ2⟩
      case round =>
        obtain ⟨xs, h, HCL, hh, hxl, hO, hU, hS, hb⟩ := hrel
        obtain ⟨m', hm', hcase⟩ := clock_some HCL.out hh
        have hg3 : g' < w3.heap.size := HLT.out g' hgF
        have hne1 : ¬ g' = w3.heap.size := by omega
        have hne2 : ¬ w3.heap.size = g' := by omega
        have hnF : w3.heap.size ∉ F3 := fun hb => Nat.lt_irrefl _ (HLT.out _ hb)
        have m6 := fun o => cell_of_row _ _ o _ _ _ hb
        have f6 := fun o => frozen_of_row _ _ o _ _ hb
        obtain ⟨ga, oa, dd, GG, hA, hgF', hgG, hGF, hGn, hR, hFoc, hput⟩ := Rep.sl_foc hS HN.out.nodup hU h hh
        injection hA with hA
        injection hA with hA1 hA2
        subst hA1; subst hA2
        obtain ⟨B5, d5, GG5, rfl, rfl, hwf5, q5⟩ := hR
        have k2 := hFoc.cell 2 _ rfl
        have k5 := hFoc.cell 5 _ rfl
        have fF := fun j => hU g' hgF j
        simp only [show Rep.Frame.sz = 6 from rfl] at k2 k5 hFoc hput
        have HFoc := Lib.hid hFoc; have HPUT := Lib.hid hput; have HO := Lib.hid hO; have HU := Lib.hid hU; have HS := Lib.hid hS; have HB := Lib.hid hb
        have hnx : ((h : Int) + 1) % (p.Frames.length : Int) = (((h + 1) % xs.length : Nat) : Int) := by rw [hxl]; simp
        have HNX := Lib.hid hnx
        clear hnx
        have hnl : (h + 1) % xs.length < xs.length := Nat.mod_lt _ (by omega)
        have hh2 : h < p.Frames.length := by omega
        have HXL := Lib.hid hxl
        have HOW : Hid (Ext w wr) := HEr.out.then_ hO (fun b hb hlt => by
          rcases List.mem_cons.1 hb with rfl | hb
          · omega
          · have := HGE.out b hb; omega)
        have hb2r := hO.heap HBRr.out (fun hb => by
          rcases List.mem_cons.1 hb with hb | hb
          · omega
          · have := HGE.out _ hb; omega)
        have m2 := fun o => cell_of_row _ _ o _ _ _ hb2r
        have f2 := fun o => frozen_of_row _ _ o _ _ hb2r
        have hzr := hO.size
        clear hFoc hput hO hU hS hb hb2r hxl
        rcases hcase with ⟨c1', c2'⟩ | ⟨c1', c2', c3'⟩ | ⟨c1', c2', c3'⟩
        · have HC2 := Lib.hid c2'
          clear c2'
          go_wp2
          go_roundg (m')
          case measure => omega
          case rel =>
            have hO' : Only [w3.heap.size] wr (wr.setCell ⟨w3.heap.size, 3, none⟩ (.int .i64 (((h : Int) + 1) % (p.Frames.length : Int)))) := (Only.refl _ _).setCell (by simp) _
            refine ⟨xs, (h + 1) % xs.length, HC2.out, hnl, HXL.out, HO.out.setCell (by simp) _, Unfr.only HU.out hO' (fun b hb => Rep.sl_lt HS.out b hb) (fun b hb hb' => hnF (by simp at hb'; exact hb' ▸ hb)), Rep.sl_only HS.out hO' (fun b hb hb' => hnF (by simp at hb'; exact hb' ▸ hb)), ?_⟩
            rw [← HNX.out]
            exact heap_setCell_same _ _ 3 _ _ _ HB.out
        · have HC3 := Lib.hid c3'
          rw [c2'] at k5
          clear c3' c2'
          go_wp2
          go_roundg (m')
          case measure => omega
          case rel =>
            have hO' : Only [w3.heap.size] wr (wr.setCell ⟨w3.heap.size, 3, none⟩ (.int .i64 (((h : Int) + 1) % (p.Frames.length : Int)))) := (Only.refl _ _).setCell (by simp) _
            have hb7 := heap_setCell_same _ _ 3 _ _ (.int .i64 (((h : Int) + 1) % (p.Frames.length : Int))) HB.out
            have hS7 := Rep.sl_only HS.out hO' (fun b hb hb' => hnF (by simp at hb'; exact hb' ▸ hb))
            have hU7 := Unfr.only HU.out hO' (fun b hb => Rep.sl_lt HS.out b hb) (fun b hb hb' => hnF (by simp at hb'; exact hb' ▸ hb))
            obtain ⟨ga, oa, dd7, GG7, hA7, hgF7, hgG7, hGF7, hGn7, hR7, hFoc7, hput7⟩ := Rep.sl_foc hS7 HN.out.nodup hU7 h hh
            injection hA7 with hA7
            injection hA7 with hA1 hA2
            subst hA1; subst hA2
            obtain ⟨B7, d7, _, rfl, rfl, hwf7, q7⟩ := hR7
            simp only [show Rep.Frame.sz = 6 from rfl] at hFoc7 hput7
            have hF8 := hFoc7.set hgF7 5 (by decide) (.bool false)
            have hO8 : Only [g'] (wr.setCell ⟨w3.heap.size, 3, none⟩ (.int .i64 (((h : Int) + 1) % (p.Frames.length : Int)))) ((wr.setCell ⟨w3.heap.size, 3, none⟩ (.int .i64 (((h : Int) + 1) % (p.Frames.length : Int)))).setCell ⟨g', off' + h * 6 + 5, none⟩ (.bool false)) := (Only.refl _ _).setCell (by simp) _
            have hS8 := hput7 _ { xs[h] with Ref := false } _ hF8 ⟨B7, d7, _, rfl, rfl, hwf7, Rep.sl_only q7 hO8 (fun b hb hb' => hgG7 (by simp at hb'; exact hb' ▸ hb))⟩
            refine ⟨xs.set h { xs[h] with Ref := false }, (h + 1) % xs.length, HC3.out, by simpa using hnl, by simpa using HXL.out, (HO.out.setCell (by simp) _).setCell (fun _ => by simp [hgF']) _, hF8.unfr, hS8, ?_⟩
            rw [← HNX.out]
            exact hO8.heap hb7 (by simp; omega)
        · obtain rfl : RR = _ := c3'
          have HR4 := HR3.out
          simp only at HR4
          rw [c2'] at k5
          clear c2'
          have HR5 := Lib.hid HR4
          clear HR4
          go_wp2
          refine bodyPost_ret (v := .agg #[.int .i64 0, .int .i64 h, .slice (some ⟨g', off', none⟩) p.Frames.length d, .int .i64 (((h : Int) + 1) % (p.Frames.length : Int))]) (by simp [results, Try.results20, go_sem, m2]) rfl ?_
          rw [← HR5.out]
          have hnx := HNX.out
          rw [hnx]
          have hgen : ∀ W7, Only [w3.heap.size, w.heap.size + 1] wr W7 → NewPost Rep.PoolResult ⟨0, h, ⟨xs, ((h + 1) % xs.length : Nat)⟩⟩ w (.returned (.agg #[.int .i64 0, .int .i64 h, .slice (some ⟨g', off', none⟩) p.Frames.length d, .int .i64 (((h + 1) % xs.length : Nat) : Int)])) W7 := by
            intro W7 hO7
            have hd7 : ∀ b ∈ F3, b ∉ [w3.heap.size, w.heap.size + 1] := fun b hb hb' => by
              have h1 := HLT.out b hb; have h2 := HGE.out b hb
              simp at hb'
              omega
            exact poolRes_post (HOW.out.then_ hO7 (fun b hb hlt => by simp at hb; omega)) (Rep.sl_only HS.out hO7 hd7) (fun b hb => by have := HGE.out b hb; omega) HN.out.nodup (Unfr.only HU.out hO7 (fun b hb => Rep.sl_lt HS.out b hb) hd7) HXL.out.symm rfl
              (wf_nat _ (by omega)) (wf_nat _ (by have h9 := HXL.out; omega))
          rw [← hnx]
          have hgen2 := fun W7 hO7 => hgen W7 hO7
          rw [← hnx] at hgen2
          apply hgen2
          repeat (first | with_reducible exact Only.refl _ _ | ((with_reducible apply Only.set); · simp))
theorem wtFrameS_ref {xs : List DFrame} {h : Nat} {x : DFrame} (hx : xs[h]? = some x) : wtFrameS (xs.set h { x with Ref := false }) = wtFrameS xs := by
  induction xs generalizing h with
  | nil => simp at hx
  | cons y ys ih =>
    cases h with
    | zero => simp at hx; subst hx; simp [wtFrameS, wtFrame]
    | succ k =>
      have := ih (h := k) (by simpa using hx)
      simp [wtFrameS] at this ⊢
      omega
theorem clock_wt : ∀ (m : Nat) (xs : List DFrame) (h : Nat) (R : List DFrame × Nat × Nat), clock m xs h = some R → wtFrameS R.1 = wtFrameS xs
  | 0, _, _, _, e => by cases e
  | m + 1, xs, h, R, e => by
    simp only [clock] at e
    split at e
    · cases e
    · rename_i x hx
      split at e
      · exact clock_wt m _ _ _ e
      · split at e
        · exact (clock_wt m _ _ _ e).trans (wtFrameS_ref hx)
        · injection e with e; subst e; rfl
theorem clockOf_wt (xs : List DFrame) (h : Nat) : wtFrameS (clockOf xs h).1 = wtFrameS xs := by
  unfold clockOf
  split
  · rename_i hx
    exact clock_wt _ _ _ _ (Classical.choose_spec (Classical.choose_spec hx))
  · rfl
theorem poolVictim_ct (p : DPool) (h : wtPool p ≤ 1048576) : ctTopPoolResult (poolVictim p) ≤ 1152921504606846976 := by
  unfold poolVictim
  split
  · exact codeRes_ct _
  split
  · refine Nat.le_trans (ctTopPoolResult_wt _) ?_
    simp [wtPoolResult] at h ⊢
    omega
  split
  · refine Nat.le_trans (ctTopPoolResult_wt _) ?_
    have := clockOf_wt p.Frames p.Hand.toNat
    simp [wtPoolResult, wtPool] at h ⊢
    omega
  · exact codeRes_ct _
end Go.Proofs.Ytjjdainnofnmcaa
