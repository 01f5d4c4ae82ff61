/- The draws: a disk, operations and a limit. -/
import Derived.Test.YtdjcfcgkldokgaaG5
import Derived.Test.YtdjcfcgkldokgaaG2
namespace Go.Proofs.Ytdjcfcgkldokgaa
open Go.RowKit
set_option linter.unusedSimpArgs false
set_option linter.unusedVariables false
theorem infoOp : (Try.prog.info? 90).map (fun i => (i.zero, i.size, i.bytes)) = some (some (.agg #[.int .i64 0, .int .i64 0, .slice none 0 0]), 3, 40) := by kernel_rfl
theorem V_only {α : Type} {r : Rep α} {w w' : World} {v : Value} {x : α} {F H : List Nat} (h : r.V w v x F) (hk : Only H w w') (hd : ∀ g ∈ F, g ∉ H) : r.V w' v x F := by
  obtain ⟨cs, hR, hv⟩ := h
  exact ⟨cs, r.keep hR fun g hg => hk.block g (r.lt hR g hg) (hd g hg), hv⟩
theorem ints_nil {k : IntKind} {w : World} : ∀ {xs : List Int} {cs : List Value} {F : List Nat}, (Rep.int k).cells w xs cs F → F = []
  | [], _, _, ⟨_, rfl⟩ => rfl
  | _ :: _, _, _, ⟨_, _, _, _, _, rfl, h1, h2⟩ => by rw [h1.2.1, ints_nil h2]; rfl
theorem Src.off {sb N k : Nat} {w w' : World} {u v : Value} {t : TypeId} (h : Src sb N w) (hb : w.heap[k]? = some (.cells #[u, v] t (0, 0))) (hu : ∀ x, u ≠ .int .u8 x) (hv : ∀ x, v ≠ .int .u8 x) (hk : k ≠ sb) (hO : Only [k] w w') : Src sb N w' := by
  obtain ⟨A, c, bs, F, a, z, h1, h2, h3, h4⟩ := h
  by_cases hbs : bs = []
  · subst hbs
    exact ⟨A, c, [], [], a, z, hO.heap h1 (by simp; omega), Rep.sl_nil h2.2.1, by simp, h4⟩
  · refine ⟨A, c, bs, F, a, z, hO.heap h1 (by simp; omega), Rep.sl_only h2 hO (fun b hb' hq => ?_), h3, h4⟩
    obtain rfl : b = k := by simpa using hq
    obtain ⟨g, off, e, hg, hF, hc, -⟩ := Rep.sl_int h2 0 (List.length_pos_iff.2 hbs)
    obtain rfl : b = g := by
      rcases h2.2.2 with ⟨h, -⟩ | ⟨g', off', G, cs, e', rfl, -, hr, -⟩
      · exact absurd h hbs
      · rw [ints_nil hr] at hb'
        rw [e] at e'
        injection e' with e'
        injection e' with e1 e2
        simp at hb'
        omega
    rw [cell_of_row w b _ _ _ _ hb] at hc
    rcases Nat.lt_or_ge (off + 0) 2 with hlt | hge
    · rcases (show off + 0 = 0 ∨ off + 0 = 1 by omega) with h0 | h0
      · rw [h0] at hc; simp at hc; exact hu _ hc
      · rw [h0] at hc; simp at hc; exact hv _ hc
    · rw [Array.getElem?_eq_none (by simpa using hge)] at hc; cases hc
def RunD (w : World) (e : Ending) (w' : World) : Prop := ∃ (d : DDisk) (A1 : Option Addr) (c1 : Nat) (A2 : Option Addr) (c2 : Nat) (F : List Nat) (Q : List DOp) (A : Option Addr) (c : Nat) (G : List Nat) (l : Int),
  e = .returned (.tuple #[.agg #[.slice A1 d.Durable.length c1, .slice A2 d.Pending.length c2], .slice A Q.length c, .int .i64 l]) ∧ Hid (Rep.Disk.V w' (.agg #[.slice A1 d.Durable.length c1, .slice A2 d.Pending.length c2]) d F) ∧ Hid (Rep.Op.sl w' A c Q G) ∧ Hid (Q.length ≤ 7) ∧ Hid (wtDisk d ≤ 100000) ∧ Hid (∀ x ∈ Q, x.Data.length ≤ 512) ∧ Hid (Ext w w')
theorem RunD.close {w wr w' : World} {sb nb : Nat} {D : List Int} {P : List DSectorWrite} {Ad Ap Ao : Option Addr} {cd cp co : Nat} {F : List Nat} {Q : List DOp} (l : Int)
    (hV : Rep.Disk.V wr (.agg #[.slice Ad D.length cd, .slice Ap P.length cp]) ⟨D, P⟩ F) (hF : ∀ g ∈ F, sb < g) (hQ : Own Rep.Op 90 nb wr (.slice Ao Q.length co) Q) (hnb : sb < nb) (hl : Q.length ≤ 7) (hw : wtDisk ⟨D, P⟩ ≤ 100000) (hD : ∀ x ∈ Q, x.Data.length ≤ 512)
    (hO : Only [sb] w wr) (hz : Only [sb, w.heap.size] wr w') (hsb : sb = w.heap.size + 1) : RunD w (.returned (.tuple #[.agg #[.slice Ad D.length cd, .slice Ap P.length cp], .slice Ao Q.length co, .int .i64 l])) w' := by
  obtain ⟨G, hV2, hG⟩ := hQ.done
  obtain ⟨A', c', he, hs2⟩ := Rep.slice_V hV2
  injection he with e1 e2 e3
  subst e1; subst e3
  refine ⟨⟨D, P⟩, Ad, cd, Ap, cp, F, Q, Ao, co, G, l, rfl, Lib.hid (V_only hV hz (fun g hg hq => ?_)), Lib.hid (Rep.sl_only hs2 hz (fun g hg hq => ?_)), Lib.hid hl, Lib.hid hw, Lib.hid hD, Lib.hid ((hO.more (G := []) (fun g hg hlt => absurd hlt (by simp at hg; omega))).then_ hz (fun g hg hlt => absurd hlt (by simp at hg; omega)))⟩
  · have h1 := hF g hg
    simp at hq
    omega
  · have h1 := hG.ge g hg
    simp at hq
    omega
set_option maxRecDepth 100000 in
set_option maxHeartbeats 8000000 in
theorem drawRunOps_calls (A : Option Addr) (c : Nat) (bs : List Int) (F : List Nat) (w : World) (h : (Rep.int .u8).sl w A c bs F) (hl : bs.length ≤ 1048576) :
    Calls Try.prog 36 #[.slice A bs.length c] w (RunD w) := by
  have hu := Try.underlying29
  have HE0 := Lib.hid (alloc_ext w (.cells #[.slice none 0 0, .slice none 0 0] 29))
  have HSL := Lib.hid (Rep.sl_ext h HE0.out)
  have HB := Lib.hid (heap_alloc_new w (.cells #[.slice none 0 0, .slice none 0 0] 29))
  obtain ⟨sb, hsb⟩ : ∃ sb, sb = w.heap.size + 1 := ⟨_, rfl⟩
  have hsz : (w.alloc (.cells #[.slice none 0 0, .slice none 0 0] 29)).heap.size = sb := by rw [hsb]; simp
  clear h
  go_enter Try.func36, Try.ntmps36
  go_wp2_with (go_at_call 72; refine (l1Source_calls A c bs F _ HSL.out hl).mono ?_; rintro e w1 ⟨rfl, HS1, HE1⟩; rw [hsz] at HS1; refine Hid.out ?_)
  refine Lib.hid ?_
  go_wp2_with (go_at_call 73; rw [← hsb]; refine (l1DrawDisk_calls sb 0 w1 HS1.out (by decide)).mono ?_; rintro e w2 ⟨d, v, FD, rfl, HV, HFD, HWT, HS2, HO2⟩; refine Hid.out ?_)
  refine Lib.hid ?_
  obtain ⟨D, P⟩ := d
  obtain ⟨cs, ⟨Ad, cd, Fd, Ap, cp, Fp, rfl, rfl, -, hsD, hsP⟩, rfl⟩ := HV.out
  have HSD := Lib.hid hsD
  have HSP := Lib.hid hsP
  have HVD := Lib.hid HV.out
  obtain ⟨FD, hFD⟩ : ∃ F, F = Fd ++ Fp := ⟨_, rfl⟩
  rw [← hFD] at HFD HVD
  clear hsD hsP HV hFD
  have hval : Rep.Disk.val [.slice Ad D.length cd, .slice Ap P.length cp] = .agg #[.slice Ad D.length cd, .slice Ap P.length cp] := rfl
  rw [hval] at HVD ⊢
  have hW3 : Ext w2 ((w2.alloc (.cells #[.slice Ad D.length cd, .slice Ap P.length cp] 29)).alloc (.cells #[] 90)) := (alloc_ext _ _).trans (alloc_ext _ _)
  have HS3 := Lib.hid (HS2.out.ext hW3)
  have HW3 := Lib.hid hW3
  clear hW3
  obtain ⟨i0, hi, hz0, hz1, hz2⟩ := info_parts infoOp
  go_wp2_with (go_at_call 74; rw [← hsb]; refine (l1Next_calls sb 60 _ HS3.out (by decide) 8 (by decide)).mono ?_; rintro e w4 ⟨j0, rfl, hj0, HS4, HO4⟩; refine Hid.out ?_)
  refine Lib.hid ?_
  have hj7 : j0 ≤ 7 := by omega
  have HWD := Lib.hid (show Only [sb] w w2 from (HE0.out.more (by simp)).then_ ((HE1.out.more (by simp)).trans HO2.out) (fun g hg _ => hg))
  have hss : w.heap.size < sb := by omega
  have hsw : sb < w1.heap.size := HS1.out.lt
  have hsw2 : w1.heap.size ≤ w2.heap.size := HO2.out.size
  obtain ⟨W2, hW2⟩ : ∃ W2, W2 = (w2.alloc (.cells #[.slice Ad D.length cd, .slice Ap P.length cp] 29)) := ⟨_, rfl⟩
  obtain ⟨nb, hnb⟩ : ∃ nb, nb = w2.heap.size + 1 := ⟨_, rfl⟩
  have hW2s : W2.heap.size = nb := by rw [hW2, hnb]; simp
  have HEW := Lib.hid (show Ext w2 W2 from by rw [hW2]; exact alloc_ext _ _)
  have HBX2 := Lib.hid (show W2.heap[w2.heap.size]? = some (.cells #[.slice Ad D.length cd, .slice Ap P.length cp] 29 (0, 0)) from by rw [hW2]; exact heap_alloc_new _ _)
  have HBR2 := Lib.hid (show W2.heap[w.heap.size]? = some (.cells #[.slice none 0 0, .slice none 0 0] 29 (0, 0)) from HEW.out.heap (HO2.out.heap (HE1.out.heap HB.out (by simp)) (by simp; omega)) (by simp))
  rw [← hW2] at HO4
  have HOWN4 := Lib.hid ((Own.made (r := Rep.Op) (e := 90) (n := nb) (w := W2) (by omega) #[] 0 (by decide) rfl).keep HO4.out (fun g hg => .inl (by
    have e1 := List.mem_singleton.1 hg
    omega)))
  rw [hW2s] at HOWN4
  have HOO4 := Lib.hid (show Only [sb] W2 w4 from ((alloc_ext W2 _).more (by simp)).trans HO4.out)
  rw [← hnb]
  generalize hbx : w2.heap.size = bx at *
  have HHS := Lib.hid hsb
  have HHN := Lib.hid hnb
  have HNB := Lib.hid hW2s
  have HVW := Lib.hid (V_only HVD.out (HEW.out.more (G := [sb]) (by simp)) (fun g hg hq => by have := HFD.out g hg; simp at hq; omega))
  have HFD2 := Lib.hid (show ∀ g ∈ FD, sb < g from fun g hg => by have := HFD.out g hg; omega)
  have HWW := Lib.hid (show Only [sb] w W2 from HWD.out.ext HEW.out)
  have hbn : bx < nb := by omega
  clear hW2 HVD HFD HWD HEW HO4 HW3 HS3 HSD HSP HB HE0 HSL HE1 HS1 HS2 HO2 hnb hW2s hbx hval hsz
  go_wp2_with fail
  clear hj0
  go_loopg [7, 8] j0 (fun m o i wr => ∃ (M : Nat) (Q : List DOp) (Ao : Option Addr) (co : Nat), o = .slice Ao Q.length co ∧ i = .int .i64 m ∧ Hid (M + 9 * m ≤ 61 + 63) ∧ Hid (Q.length + m ≤ 7) ∧ Hid (∀ x ∈ Q, x.Data.length ≤ 512) ∧ Hid (Own Rep.Op 90 nb wr (.slice Ao Q.length co) Q) ∧ Hid (Src sb M wr) ∧ Hid (Only [sb] W2 wr))
  case atStart => exact ⟨61, [], _, _, rfl, rfl, Lib.hid (by omega), Lib.hid (by simp; omega), Lib.hid (by simp), HOWN4, HS4, HOO4⟩
  case round =>
    obtain ⟨M, Q, Ao, co, rfl, rfl, HM, HQL, HQD, HOQ, HSQ, HOO⟩ := hrel
    have HBX := Lib.hid (HOO.out.heap HBX2.out (by simp; omega))
    have HBR := Lib.hid (HOO.out.heap HBR2.out (by simp; omega))
    have m := fun o => cell_of_row _ _ o _ _ _ HBX.out
    have f := fun o => frozen_of_row _ _ o _ _ HBX.out
    by_cases hg0 : 0 < gk
    · obtain ⟨mq, rfl⟩ : ∃ m, gk = m + 1 := ⟨gk - 1, by omega⟩
      have hmq : mq ≤ 6 := by have := HQL.out; omega
      clear hg0
      have hDL : D.length ≤ 100000 := by have := HWT.out; simp only [wtDisk] at this; omega
      go_wp2_with (go_at_call 63; refine (l1Sectors_calls Ad Ap D.length P.length cd cp wr (by omega)).mono ?_; rintro e wa ⟨rfl, hwa⟩; subst hwa; refine Hid.out ?_)
      refine Lib.hid ?_
      have HEA := Lib.hid (alloc_ext wr (.cells #[.slice Ad D.length cd, .slice Ap P.length cp] 29))
      generalize (wr.alloc (.cells #[.slice Ad D.length cd, .slice Ap P.length cp] 29)) = wa at *
      go_wp2_with (go_at_call 75; rw [← HHS.out]; refine (l1DrawOp_calls sb M wa (HSQ.out.ext HEA.out) (by have := HM.out; omega) ((D.length : Int) / 512) (by omega) (by omega)).mono ?_; rintro e wb ⟨k, s, Ax, cx, xs, Fx, rfl, HKS, HXS, HXN, HSB, HOB⟩; refine Hid.out ?_)
      refine Lib.hid ?_
      have hE8 := alloc_ext wb (.cells #[.int .i64 k, .int .i64 s, .slice Ax xs.length cx] 90)
      have HSE := Lib.hid (HSB.out.ext hE8)
      have hX : Rep.Op.R (wb.alloc (.cells #[.int .i64 k, .int .i64 s, .slice Ax xs.length cx] 90)) ⟨k, s, xs⟩ [.int .i64 k, .int .i64 s, .slice Ax xs.length cx] Fx := ⟨Ax, cx, Fx, rfl, rfl, ⟨HKS.out.1, HKS.out.2.1⟩, Rep.sl_ext HXS.out hE8⟩
      have hOWb : Only [sb] wr (wb.alloc (.cells #[.int .i64 k, .int .i64 s, .slice Ax xs.length cx] 90)) := ((HEA.out.more (by simp)).trans HOB.out).alloc _
      have HOWB := Lib.hid (HOO.out.trans hOWb)
      obtain ⟨cs, ho, hle, happ⟩ := Own.app HOQ.out hOWb (fun g hg => .inl (by have e1 := List.mem_singleton.1 hg; omega)) ((HXN.out.keep hE8 (by simp)).more HEA.out.size) hX
      have HAPP := Lib.hid happ
      have HOWN := Lib.hid ho
      clear happ ho hX hOWb hE8
      go_wp2_with (at_builtin; go_must (refine wpList_append_own_at _ rfl _ _ 51 rfl nb 90 i0 _ 3 40 Try.underlying51 hi hz0 hz1 hz2 rfl (by decide) (.slice Ao Q.length co) Q.length cs rfl HOWN.out ⟨wb.heap.size, 0, none⟩ 1 1 [.int .i64 k, .int .i64 s, .slice Ax xs.length cx] rfl rfl (cells_new' _ _ _ (by simp)) (by intro u hu; simp at hu; rcases hu with rfl | rfl | rfl <;> rfl) (by have := HQL.out; unfold maxLen; omega) (by have := HQL.out; omega) hle ?_); intro v' w' hown hgrow hnil hat; obtain ⟨Av, cv, rfl⟩ := ownsRow_form hown; have HR := Lib.hid (HAPP.out _ w' hown hgrow hat); have HSG := Lib.hid (HSE.out.below ((Below.refl nb _).grown hgrow hle (fun g hg => (HOWN.out.lt _ hg).1)) (by omega)); clear hown hgrow hnil hat)
      go_roundg mq
      case measure => omega
      case rel =>
        have hl : (Q ++ [(⟨k, s, xs⟩ : DOp)]).length = Q.length + 1 := by simp
        refine ⟨M + 9, Q ++ [⟨k, s, xs⟩], Av, cv, by rw [hl], by go_num, Lib.hid (by have := HM.out; omega), Lib.hid (by rw [hl]; have := HQL.out; omega), Lib.hid ?_, Lib.hid ?_, HSG, Lib.hid ?_⟩
        · intro x hx
          rcases List.mem_append.1 hx with hx | hx
          · exact HQD.out x hx
          · simp at hx; subst hx; exact HKS.out.2.2
        · rw [hl]; exact HR.out.1
        · exact HR.out.2 _ _ HOWB.out (by rw [HNB.out]; exact Nat.le_refl _)
    · obtain rfl : gk = 0 := by omega
      clear hg0 hi hz0 hz1 hz2 m f
      have HBXd := Lib.hid (show wr.drew.heap[bx]? = _ from HBX.out)
      have HBRd := Lib.hid (show wr.drew.heap[w.heap.size]? = _ from HBR.out)
      have HSd := Lib.hid (HSQ.out.ext ((Only.refl [] wr).drew))
      have hst : Only [w.heap.size] wr ((wr.drew.setCell ⟨w.heap.size, 0, none⟩ (.slice Ad D.length cd)).setCell ⟨w.heap.size, 1, none⟩ (.slice Ap P.length cp)) := by repeat (first | with_reducible exact (Only.refl _ _).drew | ((with_reducible apply Only.set); · simp))
      have HST := Lib.hid hst
      have HS2d := Lib.hid (HSQ.out.off HBR.out (by simp) (by simp) (by omega) hst)
      clear hst
      have m := fun o => cell_of_row _ _ o _ _ _ HBXd.out
      have f := fun o => frozen_of_row _ _ o _ _ HBXd.out
      have mr := fun o => cell_of_row _ _ o _ _ _ HBRd.out
      have fr := fun o => frozen_of_row _ _ o _ _ HBRd.out
      have hbw : ¬ bx = w.heap.size := by omega
      go_wp2_with fail
      refine wp_region_noPanic ?_
      refine wp_region_held_drew (S := (fun w' => True)) (by kernel_rfl) ?_ (fun hHeld => ?_)
      · exact True.intro
      refine wpAnyH_take (i := 1) (v := ?_) rfl (by kernel_rfl) (by kernel_rfl) (by kernel_rfl) (fun _ _ _ h => h) (Or.inl ⟨by rfl, ?_⟩) (by assumption) ?_
      rotate_left
      · intro w hSw; (try dsimp only at hSw); go_simp <;> with_reducible rfl
      try simp only [Act.put, List.setIfInBounds_toArray, List.set_cons_zero, List.set_cons_succ]
      refine wpAnyH_take (i := 2) (v := ?_) rfl (by kernel_rfl) (by kernel_rfl) (by kernel_rfl) (fun _ _ _ h => h) (Or.inl ⟨by rfl, ?_⟩) (by assumption) ?_
      rotate_left
      · intro w hSw; (try dsimp only at hSw); go_simp <;> with_reducible rfl
      try simp only [Act.put, List.setIfInBounds_toArray, List.set_cons_zero, List.set_cons_succ]
      refine wpAnyH_ready (rs := [0, 3]) (by kernel_rfl) (by simp) ?_
      refine AllReadyH.cons rfl (fun K hK => ?_) ?_
      · go_simp
        refine hK.out _ _ ?_ (fun hHeld => ?_)
        · exact True.intro
        clear hK K
        try simp only [Act.put, List.setIfInBounds_toArray, List.set_cons_zero, List.set_cons_succ]
        refine wpAnyH_ready (rs := [3]) (by kernel_rfl) (by simp) ?_
        refine AllReadyH.cons rfl (fun K hK => ?_) ?_
        · go_simp
          rw [← HHS.out]
          refine (l1Next_calls sb M _ HSd.out (by have := HM.out; omega) 11 (by decide)).mono ?_
          rintro e wc ⟨r, rfl, hr, HSC, HOC⟩
          have ew : IntKind.i64.wrap ((r : Int) - 1) = (r : Int) - 1 := by rw [IntKind.wrap_i64] <;> omega
          have HZ := Lib.hid (((Only.refl [sb, w.heap.size] wr).drew).trans (HOC.out.more (by simp)))
          have HBXc := Lib.hid (HOC.out.heap HBXd.out (by simp; omega))
          have HBRc := Lib.hid (HOC.out.heap HBRd.out (by simp; omega))
          have mc := fun o => cell_of_row _ _ o _ _ _ HBXc.out
          have fc := fun o => frozen_of_row _ _ o _ _ HBXc.out
          have mrc := fun o => cell_of_row _ _ o _ _ _ HBRc.out
          have frc := fun o => frozen_of_row _ _ o _ _ HBRc.out
          go_wp2_with fail
          refine hK.out _ _ ?_ (fun hHeld => ?_)
          · exact True.intro
          clear hK K
          try simp only [Act.put, List.setIfInBounds_toArray, List.set_cons_zero, List.set_cons_succ]
          refine wpAnyH_take (i := 4) (v := ?_) rfl (by kernel_rfl) (by kernel_rfl) (by kernel_rfl) (fun _ _ _ h => h) (Or.inl ⟨by rfl, ?_⟩) (by assumption) ?_
          rotate_left
          · intro w hSw; (try dsimp only at hSw); go_simp <;> with_reducible rfl
          try simp only [Act.put, List.setIfInBounds_toArray, List.set_cons_zero, List.set_cons_succ]
          refine wpAnyH_ready (rs := [5]) (by kernel_rfl) (by simp) ?_
          refine AllReadyH.cons rfl (fun K hK => ?_) ?_
          · go_simp
            refine hK.out _ _ ?_ (fun hHeld => ?_)
            · exact True.intro
            clear hK K
            try simp only [Act.put, List.setIfInBounds_toArray, List.set_cons_zero, List.set_cons_succ]
            refine wpAnyH_take (i := 6) (v := ?_) rfl (by kernel_rfl) (by kernel_rfl) (by kernel_rfl) (fun _ _ _ h => h) (Or.inl ⟨by rfl, ?_⟩) (by assumption) ?_
            rotate_left
            · intro w hSw; (try dsimp only at hSw); go_simp <;> with_reducible rfl
            try simp only [Act.put, List.setIfInBounds_toArray, List.set_cons_zero, List.set_cons_succ]
            refine wpAnyH_take (i := 7) (v := ?_) rfl (by kernel_rfl) (by kernel_rfl) (by kernel_rfl) (fun _ _ _ h => h) (Or.inl ⟨by rfl, ?_⟩) (by assumption) ?_
            rotate_left
            · intro w hSw; (try dsimp only at hSw); go_simp <;> with_reducible rfl
            try simp only [Act.put, List.setIfInBounds_toArray, List.set_cons_zero, List.set_cons_succ]
            refine wpAnyH_done (by kernel_rfl) ?_ _
            refine NoPanic.normal ?_
            try simp only [List.getElem_toArray, List.getElem_cons_succ, List.getElem_cons_zero, Act.put, List.setIfInBounds_toArray, List.set_cons_zero, List.set_cons_succ]
            go_wp2
            refine bodyPost_ret (v := .tuple #[.agg #[.slice Ad D.length cd, .slice Ap P.length cp], .slice Ao Q.length co, .int .i64 ((r : Int) - 1)]) (by simp [results, Try.results36, go_sem, mrc]) rfl ?_
            exact RunD.close _ (V_only HVW.out HOO.out (fun g hg hq => by have := HFD2.out g hg; simp at hq; omega)) HFD2.out HOQ.out (by omega) (by have := HQL.out; omega) HWT.out HQD.out (HWW.out.trans HOO.out) (by first | exact HZ.out | (exact (HZ.out.set (by simp) |>.set (by simp)))) HHS.out
          exact AllReadyH.nil
        exact AllReadyH.nil
      refine AllReadyH.cons rfl (fun K hK => ?_) ?_
      · go_simp
        rw [← HHS.out]
        refine (l1Next_calls sb M _ HSd.out (by have := HM.out; omega) 11 (by decide)).mono ?_
        rintro e wc ⟨r, rfl, hr, HSC, HOC⟩
        have ew : IntKind.i64.wrap ((r : Int) - 1) = (r : Int) - 1 := by rw [IntKind.wrap_i64] <;> omega
        have HZ := Lib.hid (((Only.refl [sb, w.heap.size] wr).drew).trans (HOC.out.more (by simp)))
        have HBXc := Lib.hid (HOC.out.heap HBXd.out (by simp; omega))
        have HBRc := Lib.hid (HOC.out.heap HBRd.out (by simp; omega))
        have mc := fun o => cell_of_row _ _ o _ _ _ HBXc.out
        have fc := fun o => frozen_of_row _ _ o _ _ HBXc.out
        have mrc := fun o => cell_of_row _ _ o _ _ _ HBRc.out
        have frc := fun o => frozen_of_row _ _ o _ _ HBRc.out
        go_wp2_with fail
        refine hK.out _ _ ?_ (fun hHeld => ?_)
        · exact True.intro
        clear hK K
        try simp only [Act.put, List.setIfInBounds_toArray, List.set_cons_zero, List.set_cons_succ]
        refine wpAnyH_take (i := 4) (v := ?_) rfl (by kernel_rfl) (by kernel_rfl) (by kernel_rfl) (fun _ _ _ h => h) (Or.inl ⟨by rfl, ?_⟩) (by assumption) ?_
        rotate_left
        · intro w hSw; (try dsimp only at hSw); go_simp <;> with_reducible rfl
        try simp only [Act.put, List.setIfInBounds_toArray, List.set_cons_zero, List.set_cons_succ]
        refine wpAnyH_ready (rs := [0]) (by kernel_rfl) (by simp) ?_
        refine AllReadyH.cons rfl (fun K hK => ?_) ?_
        · go_simp
          refine hK.out _ _ ?_ (fun hHeld => ?_)
          · exact True.intro
          clear hK K
          try simp only [Act.put, List.setIfInBounds_toArray, List.set_cons_zero, List.set_cons_succ]
          refine wpAnyH_ready (rs := [5]) (by kernel_rfl) (by simp) ?_
          refine AllReadyH.cons rfl (fun K hK => ?_) ?_
          · go_simp
            refine hK.out _ _ ?_ (fun hHeld => ?_)
            · exact True.intro
            clear hK K
            try simp only [Act.put, List.setIfInBounds_toArray, List.set_cons_zero, List.set_cons_succ]
            refine wpAnyH_take (i := 6) (v := ?_) rfl (by kernel_rfl) (by kernel_rfl) (by kernel_rfl) (fun _ _ _ h => h) (Or.inl ⟨by rfl, ?_⟩) (by assumption) ?_
            rotate_left
            · intro w hSw; (try dsimp only at hSw); go_simp <;> with_reducible rfl
            try simp only [Act.put, List.setIfInBounds_toArray, List.set_cons_zero, List.set_cons_succ]
            refine wpAnyH_take (i := 7) (v := ?_) rfl (by kernel_rfl) (by kernel_rfl) (by kernel_rfl) (fun _ _ _ h => h) (Or.inl ⟨by rfl, ?_⟩) (by assumption) ?_
            rotate_left
            · intro w hSw; (try dsimp only at hSw); go_simp <;> with_reducible rfl
            try simp only [Act.put, List.setIfInBounds_toArray, List.set_cons_zero, List.set_cons_succ]
            refine wpAnyH_done (by kernel_rfl) ?_ _
            refine NoPanic.normal ?_
            try simp only [List.getElem_toArray, List.getElem_cons_succ, List.getElem_cons_zero, Act.put, List.setIfInBounds_toArray, List.set_cons_zero, List.set_cons_succ]
            go_wp2
            refine bodyPost_ret (v := .tuple #[.agg #[.slice Ad D.length cd, .slice Ap P.length cp], .slice Ao Q.length co, .int .i64 ((r : Int) - 1)]) (by simp [results, Try.results36, go_sem, mrc]) rfl ?_
            exact RunD.close _ (V_only HVW.out HOO.out (fun g hg hq => by have := HFD2.out g hg; simp at hq; omega)) HFD2.out HOQ.out (by omega) (by have := HQL.out; omega) HWT.out HQD.out (HWW.out.trans HOO.out) (by first | exact HZ.out | (exact (HZ.out.set (by simp) |>.set (by simp)))) HHS.out
          exact AllReadyH.nil
        exact AllReadyH.nil
      exact AllReadyH.nil
end Go.Proofs.Ytdjcfcgkldokgaa
