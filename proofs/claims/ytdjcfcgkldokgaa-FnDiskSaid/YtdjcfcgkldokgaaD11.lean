/- One pending write more: the reference's. -/
import Derived.Test.YtdjcfcgkldokgaaD10
import Derived.Deep.RegionHeld3
namespace Go.Proofs.Ytdjcfcgkldokgaa
open Go.RowKit
set_option linter.unusedSimpArgs false
set_option linter.unusedVariables false
theorem DiskP.imp {P Q : Nat → Prop} {b n : Nat} {w : World} {A : Option Addr} {c : Nat} {pv : Value} {d : DDisk} (h : DiskP P b n w A c pv d) (hPQ : ∀ g, P g → g < w.heap.size → Q g) : DiskP Q b n w A c pv d := by
  obtain ⟨F, h1, h2, h3, h4, h5⟩ := h
  exact ⟨F, h1, fun g hg => ⟨(h2 g hg).1, (h2 g hg).2.1, hPQ g (h2 g hg).2.2 (Rep.sl_lt h1 g hg)⟩, h3, h4, h5.imp hPQ⟩
theorem DiskP.V {P : Nat → Prop} {b n : Nat} {w : World} {A : Option Addr} {c : Nat} {pv : Value} {d : DDisk} (h : DiskP P b n w A c pv d) : ∃ F, Rep.Disk.V w (.agg #[.slice A d.Durable.length c, pv]) d F := by
  obtain ⟨F, Ap, cp, G, rfl, q1, q2, -⟩ := h.open_
  exact ⟨_, _, ⟨A, c, F, Ap, cp, G, rfl, rfl, trivial, q1, q2⟩, rfl⟩
theorem valid_facts {d : DDisk} (h : validDisk d = true) : d.Durable.length % 512 = 0 ∧ 512 ≤ d.Durable.length ∧ d.Durable.length ≤ 524288 ∧ d.Pending.length ≤ 8192 ∧ d.Pending.all (okW (d.Durable.length / 512)) = true := by
  have hH : headOK d = true := by unfold validDisk at h; simp only [Bool.and_eq_true] at h; exact h.1
  obtain ⟨h1, h2, h3, h4⟩ := (headOK_iff _).1 hH
  exact ⟨h1, h2, h3, h4, by rw [validDisk_is hH] at h; exact h⟩
theorem DiskP.more {P : Nat → Prop} {b b' n : Nat} {w : World} {A : Option Addr} {c : Nat} {pv : Value} {d : DDisk} (h : DiskP P b n w A c pv d) (hb : b' ≤ b) : DiskP P b' n w A c pv d := by
  obtain ⟨F, h1, h2, h3, h4, h5⟩ := h
  exact ⟨F, h1, fun g hg => ⟨Nat.le_trans hb (h2 g hg).1, (h2 g hg).2⟩, h3, h4, h5⟩
/-- What putting leaves: a disk, in blocks that meet P. -/
def PutPost (P : Nat → Prop) (b : Nat) (d : DDisk) (w : World) (e : Ending) (w' : World) : Prop :=
  ∃ A c Ap cp n, e = .returned (.agg #[.slice A d.Durable.length c, .slice Ap d.Pending.length cp]) ∧ DiskP P b n w' A c (.slice Ap d.Pending.length cp) d ∧ b ≤ n ∧ ∃ H, Only H w w' ∧ ∀ g ∈ H, P g ∧ b ≤ g
set_option maxRecDepth 100000 in
set_option maxHeartbeats 2000000 in
/-- The part behind the test for room. -/
theorem l1Put_room (P : Nat → Prop) (b n : Nat) (w : World) (A : Option Addr) (c : Nat) (pv : Value) (d : DDisk) (hD : DiskP P b n w A c pv d) (hb : b ≤ n) (hP : ∀ g, w.heap.size ≤ g → P g) (hv : validDisk d = true) (s : Int) (es : (Lit.int .i64 s).wf = true) (Ad : Option Addr) (cd : Nat) (data : List Int) (Fd : List Nat) (hdt : (Rep.int .u8).sl w Ad cd data Fd) (hs : data.length ≤ 70368744177664) :
    Calls Try.prog 64 #[.agg #[.slice A d.Durable.length c, pv], .int .i64 s, .slice Ad data.length cd] w (PutPost P b (diskPut d s data) w) := by
  have hu := Try.underlying29
  have hu2 := Try.underlying64
  obtain ⟨i0, hi, hz0, hz1, hz2⟩ := info_parts info64
  obtain ⟨v1, v2, v3, v4, v5⟩ := valid_facts hv
  obtain ⟨Ap, cp, hpv, hcp⟩ := hD.form
  subst hpv
  have hnl := hD.le
  obtain ⟨R, hR⟩ : ∃ R, R = diskPut d s data := ⟨_, rfl⟩
  rw [← hR]
  have HR := Lib.hid hR
  clear hR
  have hPn : ∀ g, w.heap.size + 2 ≤ g → P g ∧ g ≠ w.heap.size ∧ g ≠ w.heap.size + 1 := fun g hg => ⟨hP g (by omega), by omega, by omega⟩
  go_enter Try.func64, Try.ntmps64
  by_cases h8 : d.Pending.length = 8192
  · have h8b : ((d.Pending.length : Int) == 8192) = true := by simp [h8]
    have hRd : R = ⟨settleL d.Durable d.Pending, [] ++ [⟨s, data⟩]⟩ := by rw [HR.out, diskPut, if_pos h8]; rfl
    obtain ⟨Fv, hV⟩ := (hD.ext ((alloc_ext w (.cells #[.slice A d.Durable.length c, .slice Ap d.Pending.length cp] 29)).alloc (.cells #[.slice none 0 0, .slice none 0 0] 29)) hb).V
    have HD8 := Lib.hid h8
    clear h8
    go_wp2_with fail
    refine (l1Settle_calls _ d _ _ hV hv true none 0 [] [] (Rep.sl_nil (by simp))).mono ?_
    rw [selOf_true, kept_all]
    rintro e w1 ⟨B, dd, pv, n', rfl, hD1, hn1, hE⟩
    obtain ⟨Ap', cp', rfl, -⟩ := hD1.form
    have hl1 := settleL_len d.Pending d.Durable (fun x hx => List.all_eq_true.1 v5 x hx)
    have hb1 := Only.heap hE (heap_alloc2_old w _ _) (by simp)
    have hb2 := Only.heap hE (heap_alloc2_new w _ _) (by simp)
    have hzw1 : w.heap.size + 2 ≤ w1.heap.size := by have := hE.size; simp at this; omega
    have hn2 : w.heap.size + 2 ≤ n' := by simp at hn1; omega
    have hDP : DiskP (fun g => P g ∧ g ≠ w.heap.size ∧ g ≠ w.heap.size + 1) b n' w1 B dd (.slice Ap' 0 cp') ⟨settleL d.Durable d.Pending, []⟩ := (DiskP.of (hD1.more (b' := w.heap.size + 2) (by simp)) (fun g hg _ => hPn g hg) hn2).more (by omega)
    have hEw : Ext w w1 := ((alloc_ext w _).alloc _).ext hE
    have m1 := fun o => cell_of_row _ _ o _ _ _ hb1
    have f1 := fun o => frozen_of_row _ _ o _ _ hb1
    have HB1 := Lib.hid hb1; have HB2 := Lib.hid hb2; have HDP := Lib.hid hDP; have HEw := Lib.hid hEw; have HL1 := Lib.hid hl1
    clear hb1 hb2 hD1 hE hDP hEw hl1 hD hV hn1
    go_wp2_with fail
    obtain ⟨W, hW⟩ : ∃ W, W = (w1.setCell ⟨w.heap.size, 0, none⟩ (.slice B (settleL d.Durable d.Pending).length dd)).setCell ⟨w.heap.size, 1, none⟩ (.slice Ap' 0 cp') := ⟨_, rfl⟩
    rw [← hW]
    have hbx : W.heap[w.heap.size]? = some (.cells #[.slice B (settleL d.Durable d.Pending).length dd, .slice Ap' 0 cp'] 29 (0, 0)) := by rw [hW]; exact heap_setCell_same _ _ 1 _ _ _ (heap_setCell_same _ _ 0 _ _ _ HB1.out)
    have hO1 : Only [w.heap.size] w1 W := by rw [hW]; exact ((Only.refl _ _).setCell (by simp) _).setCell (by simp) _
    have hrs := hO1.heap HB2.out (by simp)
    have hDW := HDP.out.keep hO1 (fun g hg => .inl (fun hp => by simp at hg; exact hp.2.1 hg)) (by omega)
    have hEW : Ext w W := HEw.out.then_ hO1 (fun g hg hlt => by simp at hg; omega)
    have hEW2 : w.heap.size + 2 ≤ W.heap.size := by have := hO1.size; omega
    clear hW m1 f1 hO1 HB1 HB2 HDP
    have n1 : W.cell? ⟨w.heap.size, 1, none⟩ = some (.slice Ap' 0 cp') := cell_of_row _ _ 1 _ _ _ hbx
    have f1 := fun o => frozen_of_row _ _ o _ _ hbx
    obtain ⟨FD, z1, z2, z3, z4, z5⟩ := hDW
    have HZ1 := Lib.hid z1; have HZ2 := Lib.hid z2; have HZ3 := Lib.hid z3; have HZ4 := Lib.hid z4; have HZ5 := Lib.hid z5
    have HBX := Lib.hid hbx; have HRS := Lib.hid hrs; have HEW := Lib.hid hEW
    have hzW := hEW2
    clear hbx hrs hEW z1 z2 z3 z4 z5 hEW2
    refine wp_region_noPanic ?_
    refine wp_region_held_drew (S := (fun _ => True)) (by kernel_rfl) ?_ (fun hHeld => ?_)
    · (try dsimp only); try trivial
    refine wpAnyH_take (i := 0) (v := ?_) rfl (by kernel_rfl) (by kernel_rfl) (by kernel_rfl) (fun _ _ _ h => h) (Or.inl ⟨by rfl, ?_⟩) (by assumption) ?_
    rotate_left
    · intro w hSw; (try dsimp only at hSw); go_simp <;> with_reducible rfl
    try simp only [Act.put, List.setIfInBounds_toArray, List.set_cons_zero, List.set_cons_succ]
    refine wpAnyH_take (i := 2) (v := ?_) rfl (by kernel_rfl) (by kernel_rfl) (by kernel_rfl) (fun _ _ _ h => h) (Or.inl ⟨by rfl, ?_⟩) (by assumption) ?_
    rotate_left
    · intro w hSw; (try dsimp only at hSw); go_simp <;> with_reducible rfl
    try simp only [Act.put, List.setIfInBounds_toArray, List.set_cons_zero, List.set_cons_succ]
    refine wpAnyH_take (i := 3) (v := ?_) rfl (by kernel_rfl) (by kernel_rfl) (by kernel_rfl) (fun _ _ _ h => h) (Or.inl ⟨by rfl, ?_⟩) (by assumption) ?_
    rotate_left
    · intro w hSw; (try dsimp only at hSw); go_simp <;> with_reducible rfl
    try simp only [Act.put, List.setIfInBounds_toArray, List.set_cons_zero, List.set_cons_succ]
    refine wpAnyH_ready (rs := [1, 4]) (by kernel_rfl) (by simp) ?_
    refine AllReadyH.cons rfl (fun K hK => ?_) ?_
    · go_simp
      refine hK.out _ _ ?_ (fun hHeld => ?_)
      · (try dsimp only); try trivial
      clear hK K
      try simp only [Act.put, List.setIfInBounds_toArray, List.set_cons_zero, List.set_cons_succ]
      refine wpAnyH_ready (rs := [4]) (by kernel_rfl) (by simp) ?_
      refine AllReadyH.cons rfl (fun K hK => ?_) ?_
      · go_simp
        refine (l1Copy_calls _ _ _ _ _ (Rep.sl_ext hdt (HEW.out.drew)) (by omega)).mono ?_
        rintro e w5 ⟨v5, G5, rfl, hV5, hN5⟩
        obtain ⟨A5, c5, rfl, q5⟩ := Rep.slice_V hV5
        have hx5 := ((Only.refl [] W).drew).ext hN5.ext
        have hzz := hx5.size
        have hEW1 : Only [] W (w5.alloc (.cells #[.int .i64 s, .slice A5 data.length c5] 64)) := hx5.alloc _
        have hb5 := hx5.heap HBX.out (by simp)
        have p1 := fun o => cell_of_row _ _ o _ _ _ hb5
        have g1 := fun o => frozen_of_row _ _ o _ _ hb5
        have hb4 := hEW1.heap HBX.out (by simp)
        have n4 := fun o => cell_of_row _ _ o _ _ _ hb4
        have g4 := fun o => frozen_of_row _ _ o _ _ hb4
        have HB4 := Lib.hid hb4
        have hF := (NewIn.one (n := W.heap.size) hN5 (fun b hb => Rep.sl_lt q5 b hb) (by simp)).keep (alloc_ext w5 (.cells #[.int .i64 s, .slice A5 data.length c5] 64)) (by simp)
        obtain ⟨cs, ho, hle, hown0, happ⟩ := OwnP.app HZ5.out hEW1 (by simp) hF (fun g hg => hPn g (by have := hF.ge g hg; omega)) (hPn _ (by simp; omega)) (x := (⟨s, data⟩ : DSectorWrite)) ⟨A5, c5, G5, rfl, rfl, es, Rep.sl_ext q5 (alloc_ext _ _)⟩
        have HEW1 := Lib.hid hEW1
        have HAPP := Lib.hid happ
        have HOWN := Lib.hid ho
        have HO0 := Lib.hid hown0
        clear happ ho hEW1 hF hb4 hb5 hown0
        go_wp2_with fail
        refine hK.out _ _ ?_ (fun hHeld => ?_)
        · (try dsimp only); try trivial
        clear hK K
        try simp only [Act.put, List.setIfInBounds_toArray, List.set_cons_zero, List.set_cons_succ]
        refine wpAnyH_take (i := 5) (v := ?_) rfl (by kernel_rfl) (by kernel_rfl) (by kernel_rfl) (fun _ _ _ h => h) (Or.inl ⟨by rfl, ?_⟩) (by assumption) ?_
        rotate_left
        · intro w hSw; (try dsimp only at hSw); go_simp <;> with_reducible rfl
        try simp only [Act.put, List.setIfInBounds_toArray, List.set_cons_zero, List.set_cons_succ]
        refine wpAnyH_ready (rs := [6]) (by kernel_rfl) (by simp) ?_
        refine AllReadyH.cons rfl (fun K hK => ?_) ?_
        · go_simp
          refine hK.out _ _ ?_ (fun hHeld => ?_)
          · (try dsimp only); try trivial
          clear hK K
          try simp only [Act.put, List.setIfInBounds_toArray, List.set_cons_zero, List.set_cons_succ]
          refine wpAnyH_ready (rs := [7]) (by kernel_rfl) (by simp) ?_
          refine AllReadyH.cons rfl (fun K hK => ?_) ?_
          · refine step_append_own rfl (.tmp 14) (.tmp 19) 27 rfl n' 64 i0 _ 2 32 Try.underlying27 hi hz0 hz1 hz2 rfl (by decide) (.slice Ap' 0 cp') 0 cs rfl HOWN.out ⟨w5.heap.size, 0, none⟩ 1 1 [.int .i64 s, .slice A5 data.length c5] rfl rfl (cells_new' _ _ _ (by simp)) (by intro u hu; simp at hu; rcases hu with rfl | rfl <;> rfl) (by unfold maxLen; omega) (by omega) hle ?_
            intro v' w' hown hgrow hnil hat
            obtain ⟨Av, cv, rfl⟩ := ownsRow_form hown
            have hb3' := (hgrow.block w.heap.size (Array.getElem?_eq_some_iff.1 HB4.out).1 (fun he => (HO0.out _ he.symm).1.2.1 rfl)).trans HB4.out
            have m3' := fun o => cell_of_row _ _ o _ _ _ hb3'
            have f3' := fun o => frozen_of_row _ _ o _ _ hb3'
            refine hK.out _ _ ?_ (fun hHeld => ?_)
            · (try dsimp only); try trivial
            clear hK K
            try simp only [Act.put, List.setIfInBounds_toArray, List.set_cons_zero, List.set_cons_succ]
            refine wpAnyH_take (i := 8) (v := ?_) rfl (by kernel_rfl) (by kernel_rfl) (by kernel_rfl) (fun _ _ _ h => h) (Or.inl ⟨by rfl, ?_⟩) (by assumption) ?_
            rotate_left
            · intro w hSw; (try dsimp only at hSw); go_simp <;> with_reducible rfl
            try simp only [Act.put, List.setIfInBounds_toArray, List.set_cons_zero, List.set_cons_succ]
            refine wpAnyH_ready (rs := [9]) (by kernel_rfl) (by simp) ?_
            refine AllReadyH.cons rfl (fun K hK => ?_) ?_
            · go_simp
              refine hK.out _ _ ?_ (fun hHeld => ?_)
              · (try dsimp only); try trivial
              clear hK K
              try simp only [Act.put, List.setIfInBounds_toArray, List.set_cons_zero, List.set_cons_succ]
              refine wpAnyH_done (by kernel_rfl) ?_ _
              refine NoPanic.normal ?_
              have hsl1 := Rep.sl_keep (Rep.sl_ext HZ1.out HEW1.out) (fun b hb => hgrow.block b (Nat.lt_of_lt_of_le (Rep.sl_lt HZ1.out b hb) HEW1.out.size) (fun he => by have h1 := (HO0.out b he.symm).2.1; have h2 := (HZ2.out b hb).2.1; omega))
              have hun1 : Unfr w' FD := fun b hb j => (World.frozen?_of_block (a := ⟨b, j, none⟩) ((hgrow.block b (Nat.lt_of_lt_of_le (Rep.sl_lt HZ1.out b hb) HEW1.out.size) (fun he => by have h1 := (HO0.out b he.symm).2.1; have h2 := (HZ2.out b hb).2.1; omega)).trans (HEW1.out.block b (Rep.sl_lt HZ1.out b hb) (by simp)))).trans (HZ4.out b hb j)
              have hD9 : DiskP (fun g => P g ∧ g ≠ w.heap.size ∧ g ≠ w.heap.size + 1) b n' w' B dd (.slice Av (0 + 1) cv) R := by
                rw [hRd]
                exact ⟨FD, hsl1, HZ2.out, HZ3.out, hun1, HAPP.out _ w' hown hgrow hat⟩
              have hO9 : Only (Value.ownBlock (.slice Ap' 0 cp')).toList w w' := Only.grown ((HEW.out.ext HEW1.out).more (by simp)) hgrow (fun g hg _ => by rw [hg]; simp)
              have hH9 : ∀ g ∈ (Value.ownBlock (.slice Ap' 0 cp')).toList, P g ∧ b ≤ g := fun g hg => by
                have hg' : Value.ownBlock (.slice Ap' 0 cp') = some g := by simpa using hg
                have := HO0.out g hg'
                exact ⟨this.1.1, by omega⟩
              have hbr := (hgrow.block (w.heap.size + 1) (Array.getElem?_eq_some_iff.1 (HEW1.out.heap HRS.out (by simp))).1 (fun he => (HO0.out _ he.symm).1.2.2 rfl)).trans (HEW1.out.heap HRS.out (by simp))
              have mr := fun o => cell_of_row _ _ o _ _ _ hbr
              have fr := fun o => frozen_of_row _ _ o _ _ hbr
              have HD9 := Lib.hid hD9; have HO9 := Lib.hid hO9; have HH9 := Lib.hid hH9
              have hRl : (settleL d.Durable d.Pending).length = R.Durable.length ∧ 0 + 1 = R.Pending.length := by rw [hRd]; simp
              have HRL := Lib.hid hRl
              try clear p1
              try clear g1
              try clear n4
              try clear g4
              clear hsl1 hun1 hD9 hO9 hH9 hbr hown hgrow hat hnil n1 f1 hRl
              go_wp2
              refine bodyPost_ret (v := .agg #[.slice B (settleL d.Durable d.Pending).length dd, .slice Av (0 + 1) cv]) (by simp [results, Try.results64, go_sem, mr]) rfl ?_
              have hfin : ∀ W9, Only [w.heap.size, w.heap.size + 1] w' W9 → PutPost P b R w (.returned (.agg #[.slice B (settleL d.Durable d.Pending).length dd, .slice Av (0 + 1) cv])) W9 := by
                intro W9 hO
                have hl := HRL.out
                have hD := HD9.out.keep hO (fun g hg => .inl (fun hp => by simp at hg; rcases hg with rfl | rfl; exact hp.2.1 rfl; exact hp.2.2 rfl)) (by omega)
                rw [hl.1, hl.2]
                rw [hl.2] at hD
                exact ⟨_, _, _, _, _, rfl, hD.imp (fun g hg _ => hg.1), by omega, _, HO9.out.then_ hO (fun g hg hlt => by simp at hg; omega), HH9.out⟩
              apply hfin
              repeat (first | with_reducible exact Only.refl _ _ | ((with_reducible apply Only.set); · simp))
            exact AllReadyH.nil
          exact AllReadyH.nil
        exact AllReadyH.nil
      exact AllReadyH.nil
    refine AllReadyH.cons rfl (fun K hK => ?_) ?_
    · go_simp
      refine (l1Copy_calls _ _ _ _ _ (Rep.sl_ext hdt (HEW.out.drew)) (by omega)).mono ?_
      rintro e w5 ⟨v5, G5, rfl, hV5, hN5⟩
      obtain ⟨A5, c5, rfl, q5⟩ := Rep.slice_V hV5
      have hx5 := ((Only.refl [] W).drew).ext hN5.ext
      have hzz := hx5.size
      have hEW1 : Only [] W (w5.alloc (.cells #[.int .i64 s, .slice A5 data.length c5] 64)) := hx5.alloc _
      have hb5 := hx5.heap HBX.out (by simp)
      have p1 := fun o => cell_of_row _ _ o _ _ _ hb5
      have g1 := fun o => frozen_of_row _ _ o _ _ hb5
      have hb4 := hEW1.heap HBX.out (by simp)
      have n4 := fun o => cell_of_row _ _ o _ _ _ hb4
      have g4 := fun o => frozen_of_row _ _ o _ _ hb4
      have HB4 := Lib.hid hb4
      have hF := (NewIn.one (n := W.heap.size) hN5 (fun b hb => Rep.sl_lt q5 b hb) (by simp)).keep (alloc_ext w5 (.cells #[.int .i64 s, .slice A5 data.length c5] 64)) (by simp)
      obtain ⟨cs, ho, hle, hown0, happ⟩ := OwnP.app HZ5.out hEW1 (by simp) hF (fun g hg => hPn g (by have := hF.ge g hg; omega)) (hPn _ (by simp; omega)) (x := (⟨s, data⟩ : DSectorWrite)) ⟨A5, c5, G5, rfl, rfl, es, Rep.sl_ext q5 (alloc_ext _ _)⟩
      have HEW1 := Lib.hid hEW1
      have HAPP := Lib.hid happ
      have HOWN := Lib.hid ho
      have HO0 := Lib.hid hown0
      clear happ ho hEW1 hF hb4 hb5 hown0
      go_wp2_with fail
      refine hK.out _ _ ?_ (fun hHeld => ?_)
      · (try dsimp only); try trivial
      clear hK K
      try simp only [Act.put, List.setIfInBounds_toArray, List.set_cons_zero, List.set_cons_succ]
      refine wpAnyH_take (i := 5) (v := ?_) rfl (by kernel_rfl) (by kernel_rfl) (by kernel_rfl) (fun _ _ _ h => h) (Or.inl ⟨by rfl, ?_⟩) (by assumption) ?_
      rotate_left
      · intro w hSw; (try dsimp only at hSw); go_simp <;> with_reducible rfl
      try simp only [Act.put, List.setIfInBounds_toArray, List.set_cons_zero, List.set_cons_succ]
      refine wpAnyH_ready (rs := [1, 6]) (by kernel_rfl) (by simp) ?_
      refine AllReadyH.cons rfl (fun K hK => ?_) ?_
      · go_simp
        refine hK.out _ _ ?_ (fun hHeld => ?_)
        · (try dsimp only); try trivial
        clear hK K
        try simp only [Act.put, List.setIfInBounds_toArray, List.set_cons_zero, List.set_cons_succ]
        refine wpAnyH_ready (rs := [6]) (by kernel_rfl) (by simp) ?_
        refine AllReadyH.cons rfl (fun K hK => ?_) ?_
        · go_simp
          refine hK.out _ _ ?_ (fun hHeld => ?_)
          · (try dsimp only); try trivial
          clear hK K
          try simp only [Act.put, List.setIfInBounds_toArray, List.set_cons_zero, List.set_cons_succ]
          refine wpAnyH_ready (rs := [7]) (by kernel_rfl) (by simp) ?_
          refine AllReadyH.cons rfl (fun K hK => ?_) ?_
          · refine step_append_own rfl (.tmp 14) (.tmp 19) 27 rfl n' 64 i0 _ 2 32 Try.underlying27 hi hz0 hz1 hz2 rfl (by decide) (.slice Ap' 0 cp') 0 cs rfl HOWN.out ⟨w5.heap.size, 0, none⟩ 1 1 [.int .i64 s, .slice A5 data.length c5] rfl rfl (cells_new' _ _ _ (by simp)) (by intro u hu; simp at hu; rcases hu with rfl | rfl <;> rfl) (by unfold maxLen; omega) (by omega) hle ?_
            intro v' w' hown hgrow hnil hat
            obtain ⟨Av, cv, rfl⟩ := ownsRow_form hown
            have hb3' := (hgrow.block w.heap.size (Array.getElem?_eq_some_iff.1 HB4.out).1 (fun he => (HO0.out _ he.symm).1.2.1 rfl)).trans HB4.out
            have m3' := fun o => cell_of_row _ _ o _ _ _ hb3'
            have f3' := fun o => frozen_of_row _ _ o _ _ hb3'
            refine hK.out _ _ ?_ (fun hHeld => ?_)
            · (try dsimp only); try trivial
            clear hK K
            try simp only [Act.put, List.setIfInBounds_toArray, List.set_cons_zero, List.set_cons_succ]
            refine wpAnyH_take (i := 8) (v := ?_) rfl (by kernel_rfl) (by kernel_rfl) (by kernel_rfl) (fun _ _ _ h => h) (Or.inl ⟨by rfl, ?_⟩) (by assumption) ?_
            rotate_left
            · intro w hSw; (try dsimp only at hSw); go_simp <;> with_reducible rfl
            try simp only [Act.put, List.setIfInBounds_toArray, List.set_cons_zero, List.set_cons_succ]
            refine wpAnyH_ready (rs := [9]) (by kernel_rfl) (by simp) ?_
            refine AllReadyH.cons rfl (fun K hK => ?_) ?_
            · go_simp
              refine hK.out _ _ ?_ (fun hHeld => ?_)
              · (try dsimp only); try trivial
              clear hK K
              try simp only [Act.put, List.setIfInBounds_toArray, List.set_cons_zero, List.set_cons_succ]
              refine wpAnyH_done (by kernel_rfl) ?_ _
              refine NoPanic.normal ?_
              have hsl1 := Rep.sl_keep (Rep.sl_ext HZ1.out HEW1.out) (fun b hb => hgrow.block b (Nat.lt_of_lt_of_le (Rep.sl_lt HZ1.out b hb) HEW1.out.size) (fun he => by have h1 := (HO0.out b he.symm).2.1; have h2 := (HZ2.out b hb).2.1; omega))
              have hun1 : Unfr w' FD := fun b hb j => (World.frozen?_of_block (a := ⟨b, j, none⟩) ((hgrow.block b (Nat.lt_of_lt_of_le (Rep.sl_lt HZ1.out b hb) HEW1.out.size) (fun he => by have h1 := (HO0.out b he.symm).2.1; have h2 := (HZ2.out b hb).2.1; omega)).trans (HEW1.out.block b (Rep.sl_lt HZ1.out b hb) (by simp)))).trans (HZ4.out b hb j)
              have hD9 : DiskP (fun g => P g ∧ g ≠ w.heap.size ∧ g ≠ w.heap.size + 1) b n' w' B dd (.slice Av (0 + 1) cv) R := by
                rw [hRd]
                exact ⟨FD, hsl1, HZ2.out, HZ3.out, hun1, HAPP.out _ w' hown hgrow hat⟩
              have hO9 : Only (Value.ownBlock (.slice Ap' 0 cp')).toList w w' := Only.grown ((HEW.out.ext HEW1.out).more (by simp)) hgrow (fun g hg _ => by rw [hg]; simp)
              have hH9 : ∀ g ∈ (Value.ownBlock (.slice Ap' 0 cp')).toList, P g ∧ b ≤ g := fun g hg => by
                have hg' : Value.ownBlock (.slice Ap' 0 cp') = some g := by simpa using hg
                have := HO0.out g hg'
                exact ⟨this.1.1, by omega⟩
              have hbr := (hgrow.block (w.heap.size + 1) (Array.getElem?_eq_some_iff.1 (HEW1.out.heap HRS.out (by simp))).1 (fun he => (HO0.out _ he.symm).1.2.2 rfl)).trans (HEW1.out.heap HRS.out (by simp))
              have mr := fun o => cell_of_row _ _ o _ _ _ hbr
              have fr := fun o => frozen_of_row _ _ o _ _ hbr
              have HD9 := Lib.hid hD9; have HO9 := Lib.hid hO9; have HH9 := Lib.hid hH9
              have hRl : (settleL d.Durable d.Pending).length = R.Durable.length ∧ 0 + 1 = R.Pending.length := by rw [hRd]; simp
              have HRL := Lib.hid hRl
              try clear p1
              try clear g1
              try clear n4
              try clear g4
              clear hsl1 hun1 hD9 hO9 hH9 hbr hown hgrow hat hnil n1 f1 hRl
              go_wp2
              refine bodyPost_ret (v := .agg #[.slice B (settleL d.Durable d.Pending).length dd, .slice Av (0 + 1) cv]) (by simp [results, Try.results64, go_sem, mr]) rfl ?_
              have hfin : ∀ W9, Only [w.heap.size, w.heap.size + 1] w' W9 → PutPost P b R w (.returned (.agg #[.slice B (settleL d.Durable d.Pending).length dd, .slice Av (0 + 1) cv])) W9 := by
                intro W9 hO
                have hl := HRL.out
                have hD := HD9.out.keep hO (fun g hg => .inl (fun hp => by simp at hg; rcases hg with rfl | rfl; exact hp.2.1 rfl; exact hp.2.2 rfl)) (by omega)
                rw [hl.1, hl.2]
                rw [hl.2] at hD
                exact ⟨_, _, _, _, _, rfl, hD.imp (fun g hg _ => hg.1), by omega, _, HO9.out.then_ hO (fun g hg hlt => by simp at hg; omega), HH9.out⟩
              apply hfin
              repeat (first | with_reducible exact Only.refl _ _ | ((with_reducible apply Only.set); · simp))
            exact AllReadyH.nil
          exact AllReadyH.nil
        exact AllReadyH.nil
      refine AllReadyH.cons rfl (fun K hK => ?_) ?_
      · go_simp
        refine hK.out _ _ ?_ (fun hHeld => ?_)
        · (try dsimp only); try trivial
        clear hK K
        try simp only [Act.put, List.setIfInBounds_toArray, List.set_cons_zero, List.set_cons_succ]
        refine wpAnyH_ready (rs := [1]) (by kernel_rfl) (by simp) ?_
        refine AllReadyH.cons rfl (fun K hK => ?_) ?_
        · go_simp
          refine hK.out _ _ ?_ (fun hHeld => ?_)
          · (try dsimp only); try trivial
          clear hK K
          try simp only [Act.put, List.setIfInBounds_toArray, List.set_cons_zero, List.set_cons_succ]
          refine wpAnyH_ready (rs := [7]) (by kernel_rfl) (by simp) ?_
          refine AllReadyH.cons rfl (fun K hK => ?_) ?_
          · refine step_append_own rfl (.tmp 14) (.tmp 19) 27 rfl n' 64 i0 _ 2 32 Try.underlying27 hi hz0 hz1 hz2 rfl (by decide) (.slice Ap' 0 cp') 0 cs rfl HOWN.out ⟨w5.heap.size, 0, none⟩ 1 1 [.int .i64 s, .slice A5 data.length c5] rfl rfl (cells_new' _ _ _ (by simp)) (by intro u hu; simp at hu; rcases hu with rfl | rfl <;> rfl) (by unfold maxLen; omega) (by omega) hle ?_
            intro v' w' hown hgrow hnil hat
            obtain ⟨Av, cv, rfl⟩ := ownsRow_form hown
            have hb3' := (hgrow.block w.heap.size (Array.getElem?_eq_some_iff.1 HB4.out).1 (fun he => (HO0.out _ he.symm).1.2.1 rfl)).trans HB4.out
            have m3' := fun o => cell_of_row _ _ o _ _ _ hb3'
            have f3' := fun o => frozen_of_row _ _ o _ _ hb3'
            refine hK.out _ _ ?_ (fun hHeld => ?_)
            · (try dsimp only); try trivial
            clear hK K
            try simp only [Act.put, List.setIfInBounds_toArray, List.set_cons_zero, List.set_cons_succ]
            refine wpAnyH_take (i := 8) (v := ?_) rfl (by kernel_rfl) (by kernel_rfl) (by kernel_rfl) (fun _ _ _ h => h) (Or.inl ⟨by rfl, ?_⟩) (by assumption) ?_
            rotate_left
            · intro w hSw; (try dsimp only at hSw); go_simp <;> with_reducible rfl
            try simp only [Act.put, List.setIfInBounds_toArray, List.set_cons_zero, List.set_cons_succ]
            refine wpAnyH_ready (rs := [9]) (by kernel_rfl) (by simp) ?_
            refine AllReadyH.cons rfl (fun K hK => ?_) ?_
            · go_simp
              refine hK.out _ _ ?_ (fun hHeld => ?_)
              · (try dsimp only); try trivial
              clear hK K
              try simp only [Act.put, List.setIfInBounds_toArray, List.set_cons_zero, List.set_cons_succ]
              refine wpAnyH_done (by kernel_rfl) ?_ _
              refine NoPanic.normal ?_
              have hsl1 := Rep.sl_keep (Rep.sl_ext HZ1.out HEW1.out) (fun b hb => hgrow.block b (Nat.lt_of_lt_of_le (Rep.sl_lt HZ1.out b hb) HEW1.out.size) (fun he => by have h1 := (HO0.out b he.symm).2.1; have h2 := (HZ2.out b hb).2.1; omega))
              have hun1 : Unfr w' FD := fun b hb j => (World.frozen?_of_block (a := ⟨b, j, none⟩) ((hgrow.block b (Nat.lt_of_lt_of_le (Rep.sl_lt HZ1.out b hb) HEW1.out.size) (fun he => by have h1 := (HO0.out b he.symm).2.1; have h2 := (HZ2.out b hb).2.1; omega)).trans (HEW1.out.block b (Rep.sl_lt HZ1.out b hb) (by simp)))).trans (HZ4.out b hb j)
              have hD9 : DiskP (fun g => P g ∧ g ≠ w.heap.size ∧ g ≠ w.heap.size + 1) b n' w' B dd (.slice Av (0 + 1) cv) R := by
                rw [hRd]
                exact ⟨FD, hsl1, HZ2.out, HZ3.out, hun1, HAPP.out _ w' hown hgrow hat⟩
              have hO9 : Only (Value.ownBlock (.slice Ap' 0 cp')).toList w w' := Only.grown ((HEW.out.ext HEW1.out).more (by simp)) hgrow (fun g hg _ => by rw [hg]; simp)
              have hH9 : ∀ g ∈ (Value.ownBlock (.slice Ap' 0 cp')).toList, P g ∧ b ≤ g := fun g hg => by
                have hg' : Value.ownBlock (.slice Ap' 0 cp') = some g := by simpa using hg
                have := HO0.out g hg'
                exact ⟨this.1.1, by omega⟩
              have hbr := (hgrow.block (w.heap.size + 1) (Array.getElem?_eq_some_iff.1 (HEW1.out.heap HRS.out (by simp))).1 (fun he => (HO0.out _ he.symm).1.2.2 rfl)).trans (HEW1.out.heap HRS.out (by simp))
              have mr := fun o => cell_of_row _ _ o _ _ _ hbr
              have fr := fun o => frozen_of_row _ _ o _ _ hbr
              have HD9 := Lib.hid hD9; have HO9 := Lib.hid hO9; have HH9 := Lib.hid hH9
              have hRl : (settleL d.Durable d.Pending).length = R.Durable.length ∧ 0 + 1 = R.Pending.length := by rw [hRd]; simp
              have HRL := Lib.hid hRl
              try clear p1
              try clear g1
              try clear n4
              try clear g4
              clear hsl1 hun1 hD9 hO9 hH9 hbr hown hgrow hat hnil n1 f1 hRl
              go_wp2
              refine bodyPost_ret (v := .agg #[.slice B (settleL d.Durable d.Pending).length dd, .slice Av (0 + 1) cv]) (by simp [results, Try.results64, go_sem, mr]) rfl ?_
              have hfin : ∀ W9, Only [w.heap.size, w.heap.size + 1] w' W9 → PutPost P b R w (.returned (.agg #[.slice B (settleL d.Durable d.Pending).length dd, .slice Av (0 + 1) cv])) W9 := by
                intro W9 hO
                have hl := HRL.out
                have hD := HD9.out.keep hO (fun g hg => .inl (fun hp => by simp at hg; rcases hg with rfl | rfl; exact hp.2.1 rfl; exact hp.2.2 rfl)) (by omega)
                rw [hl.1, hl.2]
                rw [hl.2] at hD
                exact ⟨_, _, _, _, _, rfl, hD.imp (fun g hg _ => hg.1), by omega, _, HO9.out.then_ hO (fun g hg hlt => by simp at hg; omega), HH9.out⟩
              apply hfin
              repeat (first | with_reducible exact Only.refl _ _ | ((with_reducible apply Only.set); · simp))
            exact AllReadyH.nil
          exact AllReadyH.nil
        exact AllReadyH.nil
      exact AllReadyH.nil
    exact AllReadyH.nil
  · have h8b : ((d.Pending.length : Int) == 8192) = false := by simp; omega
    have hRd : R = ⟨d.Durable, d.Pending ++ [⟨s, data⟩]⟩ := by rw [HR.out, diskPut, if_neg h8]
    have hD2 := (hD.imp (Q := fun g => P g ∧ g ≠ w.heap.size ∧ g ≠ w.heap.size + 1) (fun g hg hlt => ⟨hg, by omega, by omega⟩)).ext ((alloc_ext w (.cells #[.slice A d.Durable.length c, .slice Ap d.Pending.length cp] 29)).alloc (.cells #[.slice none 0 0, .slice none 0 0] 29)) hb
    go_wp2_with fail
    have hbx := heap_alloc2_old w (.cells #[.slice A d.Durable.length c, .slice Ap d.Pending.length cp] 29) (.cells #[.slice none 0 0, .slice none 0 0] 29)
    have hrs := heap_alloc2_new w (.cells #[.slice A d.Durable.length c, .slice Ap d.Pending.length cp] 29) (.cells #[.slice none 0 0, .slice none 0 0] 29)
    have hEW := (alloc_ext w (.cells #[.slice A d.Durable.length c, .slice Ap d.Pending.length cp] 29)).alloc (.cells #[.slice none 0 0, .slice none 0 0] 29)
    have hEW2 : w.heap.size + 2 ≤ ((w.alloc (.cells #[.slice A d.Durable.length c, .slice Ap d.Pending.length cp] 29)).alloc (.cells #[.slice none 0 0, .slice none 0 0] 29)).heap.size := by simp
    have hDW := hD2
    generalize ((w.alloc (.cells #[.slice A d.Durable.length c, .slice Ap d.Pending.length cp] 29)).alloc (.cells #[.slice none 0 0, .slice none 0 0] 29)) = W at hbx hrs hEW hEW2 hDW ⊢
    clear hD2 hD
    have hnp : d.Pending.length ≤ 8191 := by omega
    clear h8
    have n1 : W.cell? ⟨w.heap.size, 1, none⟩ = some (.slice Ap d.Pending.length cp) := cell_of_row _ _ 1 _ _ _ hbx
    have f1 := fun o => frozen_of_row _ _ o _ _ hbx
    obtain ⟨FD, z1, z2, z3, z4, z5⟩ := hDW
    have HZ1 := Lib.hid z1; have HZ2 := Lib.hid z2; have HZ3 := Lib.hid z3; have HZ4 := Lib.hid z4; have HZ5 := Lib.hid z5
    have HBX := Lib.hid hbx; have HRS := Lib.hid hrs; have HEW := Lib.hid hEW
    have hzW := hEW2
    clear hbx hrs hEW z1 z2 z3 z4 z5 hEW2
    refine wp_region_noPanic ?_
    refine wp_region_held_drew (S := (fun _ => True)) (by kernel_rfl) ?_ (fun hHeld => ?_)
    · (try dsimp only); try trivial
    refine wpAnyH_take (i := 0) (v := ?_) rfl (by kernel_rfl) (by kernel_rfl) (by kernel_rfl) (fun _ _ _ h => h) (Or.inl ⟨by rfl, ?_⟩) (by assumption) ?_
    rotate_left
    · intro w hSw; (try dsimp only at hSw); go_simp <;> with_reducible rfl
    try simp only [Act.put, List.setIfInBounds_toArray, List.set_cons_zero, List.set_cons_succ]
    refine wpAnyH_take (i := 2) (v := ?_) rfl (by kernel_rfl) (by kernel_rfl) (by kernel_rfl) (fun _ _ _ h => h) (Or.inl ⟨by rfl, ?_⟩) (by assumption) ?_
    rotate_left
    · intro w hSw; (try dsimp only at hSw); go_simp <;> with_reducible rfl
    try simp only [Act.put, List.setIfInBounds_toArray, List.set_cons_zero, List.set_cons_succ]
    refine wpAnyH_take (i := 3) (v := ?_) rfl (by kernel_rfl) (by kernel_rfl) (by kernel_rfl) (fun _ _ _ h => h) (Or.inl ⟨by rfl, ?_⟩) (by assumption) ?_
    rotate_left
    · intro w hSw; (try dsimp only at hSw); go_simp <;> with_reducible rfl
    try simp only [Act.put, List.setIfInBounds_toArray, List.set_cons_zero, List.set_cons_succ]
    refine wpAnyH_ready (rs := [1, 4]) (by kernel_rfl) (by simp) ?_
    refine AllReadyH.cons rfl (fun K hK => ?_) ?_
    · go_simp
      refine hK.out _ _ ?_ (fun hHeld => ?_)
      · (try dsimp only); try trivial
      clear hK K
      try simp only [Act.put, List.setIfInBounds_toArray, List.set_cons_zero, List.set_cons_succ]
      refine wpAnyH_ready (rs := [4]) (by kernel_rfl) (by simp) ?_
      refine AllReadyH.cons rfl (fun K hK => ?_) ?_
      · go_simp
        refine (l1Copy_calls _ _ _ _ _ (Rep.sl_ext hdt (HEW.out.drew)) (by omega)).mono ?_
        rintro e w5 ⟨v5, G5, rfl, hV5, hN5⟩
        obtain ⟨A5, c5, rfl, q5⟩ := Rep.slice_V hV5
        have hx5 := ((Only.refl [] W).drew).ext hN5.ext
        have hzz := hx5.size
        have hEW1 : Only [] W (w5.alloc (.cells #[.int .i64 s, .slice A5 data.length c5] 64)) := hx5.alloc _
        have hb5 := hx5.heap HBX.out (by simp)
        have p1 := fun o => cell_of_row _ _ o _ _ _ hb5
        have g1 := fun o => frozen_of_row _ _ o _ _ hb5
        have hb4 := hEW1.heap HBX.out (by simp)
        have n4 := fun o => cell_of_row _ _ o _ _ _ hb4
        have g4 := fun o => frozen_of_row _ _ o _ _ hb4
        have HB4 := Lib.hid hb4
        have hF := (NewIn.one (n := W.heap.size) hN5 (fun b hb => Rep.sl_lt q5 b hb) (by simp)).keep (alloc_ext w5 (.cells #[.int .i64 s, .slice A5 data.length c5] 64)) (by simp)
        obtain ⟨cs, ho, hle, hown0, happ⟩ := OwnP.app HZ5.out hEW1 (by simp) hF (fun g hg => hPn g (by have := hF.ge g hg; omega)) (hPn _ (by simp; omega)) (x := (⟨s, data⟩ : DSectorWrite)) ⟨A5, c5, G5, rfl, rfl, es, Rep.sl_ext q5 (alloc_ext _ _)⟩
        have HEW1 := Lib.hid hEW1
        have HAPP := Lib.hid happ
        have HOWN := Lib.hid ho
        have HO0 := Lib.hid hown0
        clear happ ho hEW1 hF hb4 hb5 hown0
        go_wp2_with fail
        refine hK.out _ _ ?_ (fun hHeld => ?_)
        · (try dsimp only); try trivial
        clear hK K
        try simp only [Act.put, List.setIfInBounds_toArray, List.set_cons_zero, List.set_cons_succ]
        refine wpAnyH_take (i := 5) (v := ?_) rfl (by kernel_rfl) (by kernel_rfl) (by kernel_rfl) (fun _ _ _ h => h) (Or.inl ⟨by rfl, ?_⟩) (by assumption) ?_
        rotate_left
        · intro w hSw; (try dsimp only at hSw); go_simp <;> with_reducible rfl
        try simp only [Act.put, List.setIfInBounds_toArray, List.set_cons_zero, List.set_cons_succ]
        refine wpAnyH_ready (rs := [6]) (by kernel_rfl) (by simp) ?_
        refine AllReadyH.cons rfl (fun K hK => ?_) ?_
        · go_simp
          refine hK.out _ _ ?_ (fun hHeld => ?_)
          · (try dsimp only); try trivial
          clear hK K
          try simp only [Act.put, List.setIfInBounds_toArray, List.set_cons_zero, List.set_cons_succ]
          refine wpAnyH_ready (rs := [7]) (by kernel_rfl) (by simp) ?_
          refine AllReadyH.cons rfl (fun K hK => ?_) ?_
          · refine step_append_own rfl (.tmp 14) (.tmp 19) 27 rfl n 64 i0 _ 2 32 Try.underlying27 hi hz0 hz1 hz2 rfl (by decide) (.slice Ap d.Pending.length cp) d.Pending.length cs rfl HOWN.out ⟨w5.heap.size, 0, none⟩ 1 1 [.int .i64 s, .slice A5 data.length c5] rfl rfl (cells_new' _ _ _ (by simp)) (by intro u hu; simp at hu; rcases hu with rfl | rfl <;> rfl) (by unfold maxLen; omega) (by omega) hle ?_
            intro v' w' hown hgrow hnil hat
            obtain ⟨Av, cv, rfl⟩ := ownsRow_form hown
            have hb3' := (hgrow.block w.heap.size (Array.getElem?_eq_some_iff.1 HB4.out).1 (fun he => (HO0.out _ he.symm).1.2.1 rfl)).trans HB4.out
            have m3' := fun o => cell_of_row _ _ o _ _ _ hb3'
            have f3' := fun o => frozen_of_row _ _ o _ _ hb3'
            refine hK.out _ _ ?_ (fun hHeld => ?_)
            · (try dsimp only); try trivial
            clear hK K
            try simp only [Act.put, List.setIfInBounds_toArray, List.set_cons_zero, List.set_cons_succ]
            refine wpAnyH_take (i := 8) (v := ?_) rfl (by kernel_rfl) (by kernel_rfl) (by kernel_rfl) (fun _ _ _ h => h) (Or.inl ⟨by rfl, ?_⟩) (by assumption) ?_
            rotate_left
            · intro w hSw; (try dsimp only at hSw); go_simp <;> with_reducible rfl
            try simp only [Act.put, List.setIfInBounds_toArray, List.set_cons_zero, List.set_cons_succ]
            refine wpAnyH_ready (rs := [9]) (by kernel_rfl) (by simp) ?_
            refine AllReadyH.cons rfl (fun K hK => ?_) ?_
            · go_simp
              refine hK.out _ _ ?_ (fun hHeld => ?_)
              · (try dsimp only); try trivial
              clear hK K
              try simp only [Act.put, List.setIfInBounds_toArray, List.set_cons_zero, List.set_cons_succ]
              refine wpAnyH_done (by kernel_rfl) ?_ _
              refine NoPanic.normal ?_
              have hsl1 := Rep.sl_keep (Rep.sl_ext HZ1.out HEW1.out) (fun b hb => hgrow.block b (Nat.lt_of_lt_of_le (Rep.sl_lt HZ1.out b hb) HEW1.out.size) (fun he => by have h1 := (HO0.out b he.symm).2.1; have h2 := (HZ2.out b hb).2.1; omega))
              have hun1 : Unfr w' FD := fun b hb j => (World.frozen?_of_block (a := ⟨b, j, none⟩) ((hgrow.block b (Nat.lt_of_lt_of_le (Rep.sl_lt HZ1.out b hb) HEW1.out.size) (fun he => by have h1 := (HO0.out b he.symm).2.1; have h2 := (HZ2.out b hb).2.1; omega)).trans (HEW1.out.block b (Rep.sl_lt HZ1.out b hb) (by simp)))).trans (HZ4.out b hb j)
              have hD9 : DiskP (fun g => P g ∧ g ≠ w.heap.size ∧ g ≠ w.heap.size + 1) b n w' A c (.slice Av (d.Pending.length + 1) cv) R := by
                rw [hRd]
                exact ⟨FD, hsl1, HZ2.out, HZ3.out, hun1, HAPP.out _ w' hown hgrow hat⟩
              have hO9 : Only (Value.ownBlock (.slice Ap d.Pending.length cp)).toList w w' := Only.grown ((HEW.out.ext HEW1.out).more (by simp)) hgrow (fun g hg _ => by rw [hg]; simp)
              have hH9 : ∀ g ∈ (Value.ownBlock (.slice Ap d.Pending.length cp)).toList, P g ∧ b ≤ g := fun g hg => by
                have hg' : Value.ownBlock (.slice Ap d.Pending.length cp) = some g := by simpa using hg
                have := HO0.out g hg'
                exact ⟨this.1.1, by omega⟩
              have hbr := (hgrow.block (w.heap.size + 1) (Array.getElem?_eq_some_iff.1 (HEW1.out.heap HRS.out (by simp))).1 (fun he => (HO0.out _ he.symm).1.2.2 rfl)).trans (HEW1.out.heap HRS.out (by simp))
              have mr := fun o => cell_of_row _ _ o _ _ _ hbr
              have fr := fun o => frozen_of_row _ _ o _ _ hbr
              have HD9 := Lib.hid hD9; have HO9 := Lib.hid hO9; have HH9 := Lib.hid hH9
              have hRl : d.Durable.length = R.Durable.length ∧ d.Pending.length + 1 = R.Pending.length := by rw [hRd]; simp
              have HRL := Lib.hid hRl
              try clear p1
              try clear g1
              try clear n4
              try clear g4
              clear hsl1 hun1 hD9 hO9 hH9 hbr hown hgrow hat hnil n1 f1 hRl
              go_wp2
              refine bodyPost_ret (v := .agg #[.slice A d.Durable.length c, .slice Av (d.Pending.length + 1) cv]) (by simp [results, Try.results64, go_sem, mr]) rfl ?_
              have hfin : ∀ W9, Only [w.heap.size, w.heap.size + 1] w' W9 → PutPost P b R w (.returned (.agg #[.slice A d.Durable.length c, .slice Av (d.Pending.length + 1) cv])) W9 := by
                intro W9 hO
                have hl := HRL.out
                have hD := HD9.out.keep hO (fun g hg => .inl (fun hp => by simp at hg; rcases hg with rfl | rfl; exact hp.2.1 rfl; exact hp.2.2 rfl)) (by omega)
                rw [hl.1, hl.2]
                rw [hl.2] at hD
                exact ⟨_, _, _, _, _, rfl, hD.imp (fun g hg _ => hg.1), by omega, _, HO9.out.then_ hO (fun g hg hlt => by simp at hg; omega), HH9.out⟩
              apply hfin
              repeat (first | with_reducible exact Only.refl _ _ | ((with_reducible apply Only.set); · simp))
            exact AllReadyH.nil
          exact AllReadyH.nil
        exact AllReadyH.nil
      exact AllReadyH.nil
    refine AllReadyH.cons rfl (fun K hK => ?_) ?_
    · go_simp
      refine (l1Copy_calls _ _ _ _ _ (Rep.sl_ext hdt (HEW.out.drew)) (by omega)).mono ?_
      rintro e w5 ⟨v5, G5, rfl, hV5, hN5⟩
      obtain ⟨A5, c5, rfl, q5⟩ := Rep.slice_V hV5
      have hx5 := ((Only.refl [] W).drew).ext hN5.ext
      have hzz := hx5.size
      have hEW1 : Only [] W (w5.alloc (.cells #[.int .i64 s, .slice A5 data.length c5] 64)) := hx5.alloc _
      have hb5 := hx5.heap HBX.out (by simp)
      have p1 := fun o => cell_of_row _ _ o _ _ _ hb5
      have g1 := fun o => frozen_of_row _ _ o _ _ hb5
      have hb4 := hEW1.heap HBX.out (by simp)
      have n4 := fun o => cell_of_row _ _ o _ _ _ hb4
      have g4 := fun o => frozen_of_row _ _ o _ _ hb4
      have HB4 := Lib.hid hb4
      have hF := (NewIn.one (n := W.heap.size) hN5 (fun b hb => Rep.sl_lt q5 b hb) (by simp)).keep (alloc_ext w5 (.cells #[.int .i64 s, .slice A5 data.length c5] 64)) (by simp)
      obtain ⟨cs, ho, hle, hown0, happ⟩ := OwnP.app HZ5.out hEW1 (by simp) hF (fun g hg => hPn g (by have := hF.ge g hg; omega)) (hPn _ (by simp; omega)) (x := (⟨s, data⟩ : DSectorWrite)) ⟨A5, c5, G5, rfl, rfl, es, Rep.sl_ext q5 (alloc_ext _ _)⟩
      have HEW1 := Lib.hid hEW1
      have HAPP := Lib.hid happ
      have HOWN := Lib.hid ho
      have HO0 := Lib.hid hown0
      clear happ ho hEW1 hF hb4 hb5 hown0
      go_wp2_with fail
      refine hK.out _ _ ?_ (fun hHeld => ?_)
      · (try dsimp only); try trivial
      clear hK K
      try simp only [Act.put, List.setIfInBounds_toArray, List.set_cons_zero, List.set_cons_succ]
      refine wpAnyH_take (i := 5) (v := ?_) rfl (by kernel_rfl) (by kernel_rfl) (by kernel_rfl) (fun _ _ _ h => h) (Or.inl ⟨by rfl, ?_⟩) (by assumption) ?_
      rotate_left
      · intro w hSw; (try dsimp only at hSw); go_simp <;> with_reducible rfl
      try simp only [Act.put, List.setIfInBounds_toArray, List.set_cons_zero, List.set_cons_succ]
      refine wpAnyH_ready (rs := [1, 6]) (by kernel_rfl) (by simp) ?_
      refine AllReadyH.cons rfl (fun K hK => ?_) ?_
      · go_simp
        refine hK.out _ _ ?_ (fun hHeld => ?_)
        · (try dsimp only); try trivial
        clear hK K
        try simp only [Act.put, List.setIfInBounds_toArray, List.set_cons_zero, List.set_cons_succ]
        refine wpAnyH_ready (rs := [6]) (by kernel_rfl) (by simp) ?_
        refine AllReadyH.cons rfl (fun K hK => ?_) ?_
        · go_simp
          refine hK.out _ _ ?_ (fun hHeld => ?_)
          · (try dsimp only); try trivial
          clear hK K
          try simp only [Act.put, List.setIfInBounds_toArray, List.set_cons_zero, List.set_cons_succ]
          refine wpAnyH_ready (rs := [7]) (by kernel_rfl) (by simp) ?_
          refine AllReadyH.cons rfl (fun K hK => ?_) ?_
          · refine step_append_own rfl (.tmp 14) (.tmp 19) 27 rfl n 64 i0 _ 2 32 Try.underlying27 hi hz0 hz1 hz2 rfl (by decide) (.slice Ap d.Pending.length cp) d.Pending.length cs rfl HOWN.out ⟨w5.heap.size, 0, none⟩ 1 1 [.int .i64 s, .slice A5 data.length c5] rfl rfl (cells_new' _ _ _ (by simp)) (by intro u hu; simp at hu; rcases hu with rfl | rfl <;> rfl) (by unfold maxLen; omega) (by omega) hle ?_
            intro v' w' hown hgrow hnil hat
            obtain ⟨Av, cv, rfl⟩ := ownsRow_form hown
            have hb3' := (hgrow.block w.heap.size (Array.getElem?_eq_some_iff.1 HB4.out).1 (fun he => (HO0.out _ he.symm).1.2.1 rfl)).trans HB4.out
            have m3' := fun o => cell_of_row _ _ o _ _ _ hb3'
            have f3' := fun o => frozen_of_row _ _ o _ _ hb3'
            refine hK.out _ _ ?_ (fun hHeld => ?_)
            · (try dsimp only); try trivial
            clear hK K
            try simp only [Act.put, List.setIfInBounds_toArray, List.set_cons_zero, List.set_cons_succ]
            refine wpAnyH_take (i := 8) (v := ?_) rfl (by kernel_rfl) (by kernel_rfl) (by kernel_rfl) (fun _ _ _ h => h) (Or.inl ⟨by rfl, ?_⟩) (by assumption) ?_
            rotate_left
            · intro w hSw; (try dsimp only at hSw); go_simp <;> with_reducible rfl
            try simp only [Act.put, List.setIfInBounds_toArray, List.set_cons_zero, List.set_cons_succ]
            refine wpAnyH_ready (rs := [9]) (by kernel_rfl) (by simp) ?_
            refine AllReadyH.cons rfl (fun K hK => ?_) ?_
            · go_simp
              refine hK.out _ _ ?_ (fun hHeld => ?_)
              · (try dsimp only); try trivial
              clear hK K
              try simp only [Act.put, List.setIfInBounds_toArray, List.set_cons_zero, List.set_cons_succ]
              refine wpAnyH_done (by kernel_rfl) ?_ _
              refine NoPanic.normal ?_
              have hsl1 := Rep.sl_keep (Rep.sl_ext HZ1.out HEW1.out) (fun b hb => hgrow.block b (Nat.lt_of_lt_of_le (Rep.sl_lt HZ1.out b hb) HEW1.out.size) (fun he => by have h1 := (HO0.out b he.symm).2.1; have h2 := (HZ2.out b hb).2.1; omega))
              have hun1 : Unfr w' FD := fun b hb j => (World.frozen?_of_block (a := ⟨b, j, none⟩) ((hgrow.block b (Nat.lt_of_lt_of_le (Rep.sl_lt HZ1.out b hb) HEW1.out.size) (fun he => by have h1 := (HO0.out b he.symm).2.1; have h2 := (HZ2.out b hb).2.1; omega)).trans (HEW1.out.block b (Rep.sl_lt HZ1.out b hb) (by simp)))).trans (HZ4.out b hb j)
              have hD9 : DiskP (fun g => P g ∧ g ≠ w.heap.size ∧ g ≠ w.heap.size + 1) b n w' A c (.slice Av (d.Pending.length + 1) cv) R := by
                rw [hRd]
                exact ⟨FD, hsl1, HZ2.out, HZ3.out, hun1, HAPP.out _ w' hown hgrow hat⟩
              have hO9 : Only (Value.ownBlock (.slice Ap d.Pending.length cp)).toList w w' := Only.grown ((HEW.out.ext HEW1.out).more (by simp)) hgrow (fun g hg _ => by rw [hg]; simp)
              have hH9 : ∀ g ∈ (Value.ownBlock (.slice Ap d.Pending.length cp)).toList, P g ∧ b ≤ g := fun g hg => by
                have hg' : Value.ownBlock (.slice Ap d.Pending.length cp) = some g := by simpa using hg
                have := HO0.out g hg'
                exact ⟨this.1.1, by omega⟩
              have hbr := (hgrow.block (w.heap.size + 1) (Array.getElem?_eq_some_iff.1 (HEW1.out.heap HRS.out (by simp))).1 (fun he => (HO0.out _ he.symm).1.2.2 rfl)).trans (HEW1.out.heap HRS.out (by simp))
              have mr := fun o => cell_of_row _ _ o _ _ _ hbr
              have fr := fun o => frozen_of_row _ _ o _ _ hbr
              have HD9 := Lib.hid hD9; have HO9 := Lib.hid hO9; have HH9 := Lib.hid hH9
              have hRl : d.Durable.length = R.Durable.length ∧ d.Pending.length + 1 = R.Pending.length := by rw [hRd]; simp
              have HRL := Lib.hid hRl
              try clear p1
              try clear g1
              try clear n4
              try clear g4
              clear hsl1 hun1 hD9 hO9 hH9 hbr hown hgrow hat hnil n1 f1 hRl
              go_wp2
              refine bodyPost_ret (v := .agg #[.slice A d.Durable.length c, .slice Av (d.Pending.length + 1) cv]) (by simp [results, Try.results64, go_sem, mr]) rfl ?_
              have hfin : ∀ W9, Only [w.heap.size, w.heap.size + 1] w' W9 → PutPost P b R w (.returned (.agg #[.slice A d.Durable.length c, .slice Av (d.Pending.length + 1) cv])) W9 := by
                intro W9 hO
                have hl := HRL.out
                have hD := HD9.out.keep hO (fun g hg => .inl (fun hp => by simp at hg; rcases hg with rfl | rfl; exact hp.2.1 rfl; exact hp.2.2 rfl)) (by omega)
                rw [hl.1, hl.2]
                rw [hl.2] at hD
                exact ⟨_, _, _, _, _, rfl, hD.imp (fun g hg _ => hg.1), by omega, _, HO9.out.then_ hO (fun g hg hlt => by simp at hg; omega), HH9.out⟩
              apply hfin
              repeat (first | with_reducible exact Only.refl _ _ | ((with_reducible apply Only.set); · simp))
            exact AllReadyH.nil
          exact AllReadyH.nil
        exact AllReadyH.nil
      refine AllReadyH.cons rfl (fun K hK => ?_) ?_
      · go_simp
        refine hK.out _ _ ?_ (fun hHeld => ?_)
        · (try dsimp only); try trivial
        clear hK K
        try simp only [Act.put, List.setIfInBounds_toArray, List.set_cons_zero, List.set_cons_succ]
        refine wpAnyH_ready (rs := [1]) (by kernel_rfl) (by simp) ?_
        refine AllReadyH.cons rfl (fun K hK => ?_) ?_
        · go_simp
          refine hK.out _ _ ?_ (fun hHeld => ?_)
          · (try dsimp only); try trivial
          clear hK K
          try simp only [Act.put, List.setIfInBounds_toArray, List.set_cons_zero, List.set_cons_succ]
          refine wpAnyH_ready (rs := [7]) (by kernel_rfl) (by simp) ?_
          refine AllReadyH.cons rfl (fun K hK => ?_) ?_
          · refine step_append_own rfl (.tmp 14) (.tmp 19) 27 rfl n 64 i0 _ 2 32 Try.underlying27 hi hz0 hz1 hz2 rfl (by decide) (.slice Ap d.Pending.length cp) d.Pending.length cs rfl HOWN.out ⟨w5.heap.size, 0, none⟩ 1 1 [.int .i64 s, .slice A5 data.length c5] rfl rfl (cells_new' _ _ _ (by simp)) (by intro u hu; simp at hu; rcases hu with rfl | rfl <;> rfl) (by unfold maxLen; omega) (by omega) hle ?_
            intro v' w' hown hgrow hnil hat
            obtain ⟨Av, cv, rfl⟩ := ownsRow_form hown
            have hb3' := (hgrow.block w.heap.size (Array.getElem?_eq_some_iff.1 HB4.out).1 (fun he => (HO0.out _ he.symm).1.2.1 rfl)).trans HB4.out
            have m3' := fun o => cell_of_row _ _ o _ _ _ hb3'
            have f3' := fun o => frozen_of_row _ _ o _ _ hb3'
            refine hK.out _ _ ?_ (fun hHeld => ?_)
            · (try dsimp only); try trivial
            clear hK K
            try simp only [Act.put, List.setIfInBounds_toArray, List.set_cons_zero, List.set_cons_succ]
            refine wpAnyH_take (i := 8) (v := ?_) rfl (by kernel_rfl) (by kernel_rfl) (by kernel_rfl) (fun _ _ _ h => h) (Or.inl ⟨by rfl, ?_⟩) (by assumption) ?_
            rotate_left
            · intro w hSw; (try dsimp only at hSw); go_simp <;> with_reducible rfl
            try simp only [Act.put, List.setIfInBounds_toArray, List.set_cons_zero, List.set_cons_succ]
            refine wpAnyH_ready (rs := [9]) (by kernel_rfl) (by simp) ?_
            refine AllReadyH.cons rfl (fun K hK => ?_) ?_
            · go_simp
              refine hK.out _ _ ?_ (fun hHeld => ?_)
              · (try dsimp only); try trivial
              clear hK K
              try simp only [Act.put, List.setIfInBounds_toArray, List.set_cons_zero, List.set_cons_succ]
              refine wpAnyH_done (by kernel_rfl) ?_ _
              refine NoPanic.normal ?_
              have hsl1 := Rep.sl_keep (Rep.sl_ext HZ1.out HEW1.out) (fun b hb => hgrow.block b (Nat.lt_of_lt_of_le (Rep.sl_lt HZ1.out b hb) HEW1.out.size) (fun he => by have h1 := (HO0.out b he.symm).2.1; have h2 := (HZ2.out b hb).2.1; omega))
              have hun1 : Unfr w' FD := fun b hb j => (World.frozen?_of_block (a := ⟨b, j, none⟩) ((hgrow.block b (Nat.lt_of_lt_of_le (Rep.sl_lt HZ1.out b hb) HEW1.out.size) (fun he => by have h1 := (HO0.out b he.symm).2.1; have h2 := (HZ2.out b hb).2.1; omega)).trans (HEW1.out.block b (Rep.sl_lt HZ1.out b hb) (by simp)))).trans (HZ4.out b hb j)
              have hD9 : DiskP (fun g => P g ∧ g ≠ w.heap.size ∧ g ≠ w.heap.size + 1) b n w' A c (.slice Av (d.Pending.length + 1) cv) R := by
                rw [hRd]
                exact ⟨FD, hsl1, HZ2.out, HZ3.out, hun1, HAPP.out _ w' hown hgrow hat⟩
              have hO9 : Only (Value.ownBlock (.slice Ap d.Pending.length cp)).toList w w' := Only.grown ((HEW.out.ext HEW1.out).more (by simp)) hgrow (fun g hg _ => by rw [hg]; simp)
              have hH9 : ∀ g ∈ (Value.ownBlock (.slice Ap d.Pending.length cp)).toList, P g ∧ b ≤ g := fun g hg => by
                have hg' : Value.ownBlock (.slice Ap d.Pending.length cp) = some g := by simpa using hg
                have := HO0.out g hg'
                exact ⟨this.1.1, by omega⟩
              have hbr := (hgrow.block (w.heap.size + 1) (Array.getElem?_eq_some_iff.1 (HEW1.out.heap HRS.out (by simp))).1 (fun he => (HO0.out _ he.symm).1.2.2 rfl)).trans (HEW1.out.heap HRS.out (by simp))
              have mr := fun o => cell_of_row _ _ o _ _ _ hbr
              have fr := fun o => frozen_of_row _ _ o _ _ hbr
              have HD9 := Lib.hid hD9; have HO9 := Lib.hid hO9; have HH9 := Lib.hid hH9
              have hRl : d.Durable.length = R.Durable.length ∧ d.Pending.length + 1 = R.Pending.length := by rw [hRd]; simp
              have HRL := Lib.hid hRl
              try clear p1
              try clear g1
              try clear n4
              try clear g4
              clear hsl1 hun1 hD9 hO9 hH9 hbr hown hgrow hat hnil n1 f1 hRl
              go_wp2
              refine bodyPost_ret (v := .agg #[.slice A d.Durable.length c, .slice Av (d.Pending.length + 1) cv]) (by simp [results, Try.results64, go_sem, mr]) rfl ?_
              have hfin : ∀ W9, Only [w.heap.size, w.heap.size + 1] w' W9 → PutPost P b R w (.returned (.agg #[.slice A d.Durable.length c, .slice Av (d.Pending.length + 1) cv])) W9 := by
                intro W9 hO
                have hl := HRL.out
                have hD := HD9.out.keep hO (fun g hg => .inl (fun hp => by simp at hg; rcases hg with rfl | rfl; exact hp.2.1 rfl; exact hp.2.2 rfl)) (by omega)
                rw [hl.1, hl.2]
                rw [hl.2] at hD
                exact ⟨_, _, _, _, _, rfl, hD.imp (fun g hg _ => hg.1), by omega, _, HO9.out.then_ hO (fun g hg hlt => by simp at hg; omega), HH9.out⟩
              apply hfin
              repeat (first | with_reducible exact Only.refl _ _ | ((with_reducible apply Only.set); · simp))
            exact AllReadyH.nil
          exact AllReadyH.nil
        exact AllReadyH.nil
      exact AllReadyH.nil
    exact AllReadyH.nil
end Go.Proofs.Ytdjcfcgkldokgaa
