/- One pending write more: the program's. -/
import Derived.Test.YtdjcfcgkldokgaaD12
namespace Go.Proofs.Ytdjcfcgkldokgaa
open Go.RowKit
set_option linter.unusedSimpArgs false
set_option linter.unusedVariables false
theorem sectors_calls (n0 o : Nat) (A : Option Addr) (k c : Nat) (w : World) (h0 : w.cell? ⟨n0, o, none⟩ = some (.slice A k c)) (hk : k ≤ 9223372036854775807) :
    Calls Try.prog 76 #[.pointer (some ⟨n0, o, none⟩)] w fun e w' => e = .returned (.int .i64 ((k : Int) / 512)) ∧ w' = w := by
  have hu := Try.underlying29
  go_enter Try.func76, Try.ntmps76
  go_wp2
  go_ret
  exact ⟨rfl, rfl⟩
theorem setIfInBounds_same {bs : Array Value} {i : Nat} {v : Value} (h : bs[i]? = some v) : bs.setIfInBounds i v = bs := by
  apply Array.ext_getElem?
  intro j
  rw [Array.getElem?_setIfInBounds]
  split
  · subst j; rw [h]; split
    · rfl
    · rename_i hi; rw [Array.getElem?_eq_none (by omega)] at h; cases h
  · rfl
theorem setIfInBounds_twice (bs : Array Value) (i : Nat) (u v : Value) : (bs.setIfInBounds i u).setIfInBounds i v = bs.setIfInBounds i v := by
  apply Array.ext_getElem?
  intro j
  simp only [Array.getElem?_setIfInBounds, Array.size_setIfInBounds]
  split <;> simp_all
def diskWriteV (d : DDisk) (s : Int) (data : List Int) : DDisk := if 0 ≤ s ∧ s < (d.Durable.length / 512 : Nat) ∧ data.length = 512 then diskPut d s data else d
/-- A disk in a box, changed in place. -/
def BoxPost (P : Nat → Prop) (b n0 o : Nat) (A : Option Addr) (c : Nat) (bs : Array Value) (t : TypeId) (d : DDisk) (w : World) (e : Ending) (w' : World) : Prop :=
  e = .returned (.tuple #[]) ∧ Hid (∃ Ap cp n, w'.heap[n0]? = some (.cells (bs.setIfInBounds (o + 1) (.slice Ap d.Pending.length cp)) t (0, 0)) ∧ DiskP P b n w' A c (.slice Ap d.Pending.length cp) d ∧ b ≤ n ∧ ∃ H, Only (n0 :: H) w w' ∧ ∀ g ∈ H, P g ∧ b ≤ g)
set_option maxRecDepth 100000 in
set_option maxHeartbeats 2000000 in
theorem write_calls (P : Nat → Prop) (b n n0 o : Nat) (w : World) (A : Option Addr) (c : Nat) (Ap : Option Addr) (cp : Nat) (d : DDisk) (bs : Array Value) (t : TypeId) (hbs : w.heap[n0]? = some (.cells bs t (0, 0))) (hb0 : bs[o]? = some (.slice A d.Durable.length c)) (hb1 : bs[o + 1]? = some (.slice Ap d.Pending.length cp))
    (hD : DiskP P b n w A c (.slice Ap d.Pending.length cp) d) (hb : b ≤ n) (hn0 : ¬ P n0) (hP : ∀ g, w.heap.size ≤ g → P g) (hv : validDisk d = true) (s : Int) (es : (Lit.int .i64 s).wf = true) (Ad : Option Addr) (cd : Nat) (data : List Int) (Fd : List Nat) (hdt : (Rep.int .u8).sl w Ad cd data Fd) (hdj : ∀ g ∈ Fd, g ≠ n0 ∧ ¬ (P g ∧ b ≤ g)) :
    Calls Try.prog 65 #[.pointer (some ⟨n0, o, none⟩), .int .i64 s, .slice Ad data.length cd] w (BoxPost P b n0 o A c bs t (diskWriteV d s data) w) := by
  have hu := Try.underlying29
  have hu2 := Try.underlying64
  obtain ⟨i0, hi, hz0, hz1, hz2⟩ := info_parts info64
  obtain ⟨v1, v2, v3, v4, v5⟩ := valid_facts hv
  have hm3 := Nat.le_trans hdt.1 hdt.2.1
  unfold maxLen at hm3
  have hnl := hD.le
  have hn0w : n0 < w.heap.size := (Array.getElem?_eq_some_iff.1 hbs).1
  obtain ⟨R, hR⟩ : ∃ R, R = diskWriteV d s data := ⟨_, rfl⟩
  rw [← hR]
  have HR := Lib.hid hR
  have c0 : w.cell? ⟨n0, o, none⟩ = some (.slice A d.Durable.length c) := (cell_of_row _ _ o _ _ _ hbs).trans hb0
  have c1 : w.cell? ⟨n0, o + 1, none⟩ = some (.slice Ap d.Pending.length cp) := (cell_of_row _ _ (o + 1) _ _ _ hbs).trans hb1
  have HBS := Lib.hid hbs; have HB1 := Lib.hid hb1; have HB0 := Lib.hid hb0
  clear hR hbs hb1 hb0
  by_cases hc : 0 ≤ s ∧ s < (d.Durable.length / 512 : Nat) ∧ data.length = 512
  rotate_left
  · obtain rfl : R = d := by rw [HR.out, diskWriteV, if_neg hc]
    have hh : s < 0 ∨ (0 ≤ s ∧ ((R.Durable.length : Int) / 512 ≤ s)) ∨ (0 ≤ s ∧ s < (R.Durable.length : Int) / 512 ∧ ((data.length : Int) != 512) = true) := by
      by_cases h0 : s < 0
      · exact .inl h0
      · by_cases h1 : (R.Durable.length : Int) / 512 ≤ s
        · exact .inr (.inl ⟨by omega, h1⟩)
        · refine .inr (.inr ⟨by omega, by omega, ?_⟩)
          have : ¬ data.length = 512 := fun h => hc ⟨by omega, by omega, h⟩
          simp; omega
    clear hc
    rcases hh with h2 | ⟨h2, h3⟩ | ⟨h2, h3, h4⟩
    all_goals
      go_enter Try.func65, Try.ntmps65
      go_wp2_with (go_at_call 76; refine (sectors_calls _ _ _ _ _ _ c0 (by omega)).mono ?_; rintro e w1 ⟨rfl, rfl⟩)
      refine bodyPost_ret (v := .tuple #[]) (by simp [results, Try.results65, go_sem]) rfl ?_
      refine ⟨rfl, Ap, cp, n, ?_, hD, hb, [], Only.refl _ _, by simp⟩
      rw [setIfInBounds_same HB1.out]
      exact HBS.out
  have hRq : R = diskPut d s data := by rw [HR.out, diskWriteV, if_pos hc]
  obtain ⟨h0, h1, h2⟩ := hc
  have h1' : s < (d.Durable.length : Int) / 512 := by omega
  have h2' : ((data.length : Int) != 512) = false := by simp; omega
  have HH2 := Lib.hid h2
  have hs : data.length ≤ 70368744177664 := by omega
  have f0 : ∀ j, w.frozen? ⟨n0, j, none⟩ = false := fun j => frozen_of_row _ _ j _ _ HBS.out
  have hPn := hP
  clear h1 h2 HR
  go_enter Try.func65, Try.ntmps65
  by_cases h8 : d.Pending.length = 8192
  · have h8b : ((d.Pending.length : Int) == 8192) = true := by simp [h8]
    have hRd : R = ⟨settleL d.Durable d.Pending, [] ++ [⟨s, data⟩]⟩ := by rw [hRq, diskPut, if_pos h8]; rfl
    have HD8 := Lib.hid h8
    obtain ⟨FD0, Ap0, cp0, G0, hpv0, q1, q2, q3, q4, q5, q7⟩ := hD.open_
    injection hpv0 with hpv1 hpv2 hpv3
    subst hpv1; subst hpv3
    clear h8 hRq
    go_wp2_with (go_at_call 76; refine (sectors_calls _ _ _ _ _ _ c0 (by omega)).mono ?_; rintro e w1 ⟨rfl, rfl⟩)
    refine (settle_calls n0 o A c d.Durable FD0 Ap cp d.Pending G0 w1 c0 c1 f0 q1 q2 q7 (fun b hb hb' => by have h1 := q3 b hb; have h2 := q4 b hb'; omega) (fun hb => hn0 (q3 _ hb).2.2) v5 v2 v3).mono ?_
    rintro e W ⟨rfl, wm, hO3, qm, hum, hW⟩
    have hl1 := settleL_len d.Pending d.Durable (fun x hx => List.all_eq_true.1 v5 x hx)
    have hbm := hO3.heap HBS.out (fun hb => hn0 (q3 _ hb).2.2)
    have hx : Only [n0] wm W := by rw [hW]; exact (Only.refl _ _).setCell (by simp) _
    have hbx : W.heap[n0]? = some (.cells (bs.setIfInBounds (o + 1) (.slice none 0 0)) t (0, 0)) := by rw [hW]; exact heap_setCell_same _ _ (o + 1) _ _ _ hbm
    have hd0 : ∀ b ∈ FD0, b ∉ [n0] := fun b hb hb' => by simp at hb'; subst hb'; exact hn0 (q3 _ hb).2.2
    have hEW0 : Only (n0 :: FD0) w1 W := (hO3.more (G := n0 :: FD0) (fun b hb _ => by simp [hb])).trans (hx.more (fun b hb _ => by simp at hb; simp [hb]))
    have hDW : DiskP P b n W A c (.slice none 0 0) ⟨settleL d.Durable d.Pending, []⟩ := ⟨FD0, Rep.sl_only qm hx hd0, q3, q5, Unfr.only hum hx (fun b hb => Rep.sl_lt qm b hb) hd0, OwnP.nil (by have := hO3.size; have := hx.size; omega)⟩
    have hb1W : (bs.setIfInBounds (o + 1) (.slice none 0 0))[o + 1]? = some (.slice none 0 0) := by
      rw [Array.getElem?_setIfInBounds, if_pos rfl, if_pos (by have := (Array.getElem?_eq_some_iff.1 HB1.out).1; omega)]
    have hSW : w1.heap.size ≤ W.heap.size := hEW0.size
    have hH0 : ∀ g ∈ FD0, P g ∧ b ≤ g := fun g hg => ⟨(q3 g hg).2.2, (q3 g hg).1⟩
    have hdtW : (Rep.int .u8).sl W Ad cd data Fd := Rep.sl_only hdt hEW0 (fun g hg hg' => by
      rcases List.mem_cons.1 hg' with h | h
      · exact (hdj g hg).1 h
      · exact (hdj g hg).2 (hH0 g h))
    obtain ⟨FD1, hFD1⟩ : ∃ q, q = FD0 := ⟨_, rfl⟩
    rw [← hFD1] at hEW0 hH0
    clear hW hO3 qm hum hbm hx q1 q2 q3 q4 q5 q7 hd0 c0 c1 f0 hD hFD1
    go_wp2_with fail
    have n1 : W.cell? ⟨n0, o + 1, none⟩ = some (.slice none 0 0) := (cell_of_row _ _ (o + 1) _ _ _ hbx).trans hb1W
    have f1 := fun o => frozen_of_row _ _ o _ _ hbx
    obtain ⟨FD, z1, z2, z3, z4, z5⟩ := hDW
    have HZ1 := Lib.hid z1; have HZ2 := Lib.hid z2; have HZ3 := Lib.hid z3; have HZ4 := Lib.hid z4; have HZ5 := Lib.hid z5
    have HBX := Lib.hid hbx; have HEW0 := Lib.hid hEW0; have HH0 := Lib.hid hH0; have HDT := Lib.hid hdtW; have HB1W := Lib.hid hb1W
    clear hbx hEW0 hH0 hdtW z1 z2 z3 z4 z5
    refine wp_region_noPanic ?_
    refine wp_region_held_drew (S := (fun _ => True)) (by kernel_rfl) ?_ (fun hHeld => ?_)
    · (try dsimp only); try trivial
    refine wpAnyH_take (i := 0) (v := ?_) rfl (by kernel_rfl) (by kernel_rfl) (by kernel_rfl) (fun _ _ _ h => h) (Or.inl ⟨by rfl, ?_⟩) (by assumption) ?_
    rotate_left
    · intro w hSw; (try dsimp only at hSw); go_simp <;> with_reducible rfl
    try simp only [Act.put, List.setIfInBounds_toArray, List.set_cons_zero, List.set_cons_succ]
    refine wpAnyH_take (i := 1) (v := ?_) rfl (by kernel_rfl) (by kernel_rfl) (by kernel_rfl) (fun _ _ _ h => h) (Or.inl ⟨by rfl, ?_⟩) (by assumption) ?_
    rotate_left
    · intro w hSw; (try dsimp only at hSw); go_simp <;> with_reducible rfl
    try simp only [Act.put, List.setIfInBounds_toArray, List.set_cons_zero, List.set_cons_succ]
    refine wpAnyH_take (i := 2) (v := ?_) rfl (by kernel_rfl) (by kernel_rfl) (by kernel_rfl) (fun _ _ _ h => h) (Or.inl ⟨by rfl, ?_⟩) (by assumption) ?_
    rotate_left
    · intro w hSw; (try dsimp only at hSw); go_simp <;> with_reducible rfl
    try simp only [Act.put, List.setIfInBounds_toArray, List.set_cons_zero, List.set_cons_succ]
    refine wpAnyH_take (i := 3) (v := ?_) rfl (by kernel_rfl) (by kernel_rfl) (by kernel_rfl) (fun _ _ _ h => h) (Or.inl ⟨by rfl, ?_⟩) (by assumption) ?_
    rotate_left
    · intro w hSw; (try dsimp only at hSw); go_simp <;> with_reducible rfl
    try simp only [Act.put, List.setIfInBounds_toArray, List.set_cons_zero, List.set_cons_succ]
    refine wpAnyH_take (i := 5) (v := ?_) rfl (by kernel_rfl) (by kernel_rfl) (by kernel_rfl) (fun _ _ _ h => h) (Or.inl ⟨by rfl, ?_⟩) (by assumption) ?_
    rotate_left
    · intro w hSw; (try dsimp only at hSw); go_simp <;> with_reducible rfl
    try simp only [Act.put, List.setIfInBounds_toArray, List.set_cons_zero, List.set_cons_succ]
    refine wpAnyH_take (i := 6) (v := ?_) rfl (by kernel_rfl) (by kernel_rfl) (by kernel_rfl) (fun _ _ _ h => h) (Or.inl ⟨by rfl, ?_⟩) (by assumption) ?_
    rotate_left
    · intro w hSw; (try dsimp only at hSw); go_simp <;> with_reducible rfl
    try simp only [Act.put, List.setIfInBounds_toArray, List.set_cons_zero, List.set_cons_succ]
    refine wpAnyH_ready (rs := [4, 7]) (by kernel_rfl) (by simp) ?_
    refine AllReadyH.cons rfl (fun K hK => ?_) ?_
    · go_simp
      refine hK.out _ _ ?_ (fun hHeld => ?_)
      · (try dsimp only); try trivial
      clear hK K
      try simp only [Act.put, List.setIfInBounds_toArray, List.set_cons_zero, List.set_cons_succ]
      refine wpAnyH_ready (rs := [7]) (by kernel_rfl) (by simp) ?_
      refine AllReadyH.cons rfl (fun K hK => ?_) ?_
      · go_simp
        refine (Clone_calls _ _ _ _ _ (Rep.sl_ext HDT.out (Only.refl [] _).drew) (by omega)).mono ?_
        rintro e w5 ⟨v5, G5, rfl, hV5, hN5⟩
        obtain ⟨A5, c5, rfl, q5⟩ := Rep.slice_V hV5
        have hx5 := ((Only.refl [] W).drew).ext hN5.ext
        have hzz := hx5.size
        have hEW1 : Only [] W (w5.alloc (.cells #[.int .i64 s, .slice A5 data.length c5] 64)) := hx5.alloc _
        have hb5 := hx5.heap HBX.out (by simp)
        have p1 := fun o => cell_of_row _ _ o _ _ _ hb5
        have g1 := fun o => frozen_of_row _ _ o _ _ hb5
        have hb4 := hEW1.heap HBX.out (by simp)
        have n4 := fun o => cell_of_row _ _ o _ _ _ hb4
        have g4 := fun o => frozen_of_row _ _ o _ _ hb4
        have HB4 := Lib.hid hb4
        have hF := (NewIn.one (n := W.heap.size) hN5 (fun b hb => Rep.sl_lt q5 b hb) (by simp)).keep (alloc_ext w5 (.cells #[.int .i64 s, .slice A5 data.length c5] 64)) (by simp)
        obtain ⟨cs, ho, hle, hown0, happ⟩ := OwnP.app HZ5.out hEW1 (by simp) hF (fun g hg => hPn g (by have := hF.ge g hg; omega)) (hPn _ (by simp; omega)) (x := (⟨s, data⟩ : DSectorWrite)) ⟨A5, c5, G5, rfl, rfl, es, Rep.sl_ext q5 (alloc_ext _ _)⟩
        have HEW1 := Lib.hid hEW1
        have HAPP := Lib.hid happ
        have HOWN := Lib.hid ho
        have HO0 := Lib.hid hown0
        clear happ ho hEW1 hF hb4 hb5 hown0
        go_wp2_with fail
        refine hK.out _ _ ?_ (fun hHeld => ?_)
        · (try dsimp only); try trivial
        clear hK K
        try simp only [Act.put, List.setIfInBounds_toArray, List.set_cons_zero, List.set_cons_succ]
        refine wpAnyH_take (i := 8) (v := ?_) rfl (by kernel_rfl) (by kernel_rfl) (by kernel_rfl) (fun _ _ _ h => h) (Or.inl ⟨by rfl, ?_⟩) (by assumption) ?_
        rotate_left
        · intro w hSw; (try dsimp only at hSw); go_simp <;> with_reducible rfl
        try simp only [Act.put, List.setIfInBounds_toArray, List.set_cons_zero, List.set_cons_succ]
        refine wpAnyH_ready (rs := [9]) (by kernel_rfl) (by simp) ?_
        refine AllReadyH.cons rfl (fun K hK => ?_) ?_
        · go_simp
          refine hK.out _ _ ?_ (fun hHeld => ?_)
          · (try dsimp only); try trivial
          clear hK K
          try simp only [Act.put, List.setIfInBounds_toArray, List.set_cons_zero, List.set_cons_succ]
          refine wpAnyH_ready (rs := [10]) (by kernel_rfl) (by simp) ?_
          refine AllReadyH.cons rfl (fun K hK => ?_) ?_
          · refine step_append_own rfl (.tmp 31) (.tmp 36) 27 rfl n 64 i0 _ 2 32 Try.underlying27 hi hz0 hz1 hz2 rfl (by decide) (.slice none 0 0) 0 cs rfl HOWN.out ⟨w5.heap.size, 0, none⟩ 1 1 [.int .i64 s, .slice A5 data.length c5] rfl rfl (cells_new' _ _ _ (by simp)) (by intro u hu; simp at hu; rcases hu with rfl | rfl <;> rfl) (by unfold maxLen; omega) (by omega) hle ?_
            intro v' w' hown hgrow hnil hat
            obtain ⟨Av, cv, rfl⟩ := ownsRow_form hown
            have hb3' := (hgrow.block n0 (Array.getElem?_eq_some_iff.1 HB4.out).1 (fun he => hn0 (HO0.out _ he.symm).1)).trans HB4.out
            have m3' := fun o => cell_of_row _ _ o _ _ _ hb3'
            have f3' := fun o => frozen_of_row _ _ o _ _ hb3'
            refine hK.out _ _ ?_ (fun hHeld => ?_)
            · (try dsimp only); try trivial
            clear hK K
            try simp only [Act.put, List.setIfInBounds_toArray, List.set_cons_zero, List.set_cons_succ]
            refine wpAnyH_take (i := 11) (v := ?_) rfl (by kernel_rfl) (by kernel_rfl) (by kernel_rfl) (fun _ _ _ h => h) (Or.inl ⟨by rfl, ?_⟩) (by assumption) ?_
            rotate_left
            · intro w hSw; (try dsimp only at hSw); go_simp <;> with_reducible rfl
            try simp only [Act.put, List.setIfInBounds_toArray, List.set_cons_zero, List.set_cons_succ]
            refine wpAnyH_take (i := 12) (v := ?_) rfl (by kernel_rfl) (by kernel_rfl) (by kernel_rfl) (fun _ _ _ h => h) (Or.inl ⟨by rfl, ?_⟩) (by assumption) ?_
            rotate_left
            · intro w hSw; (try dsimp only at hSw); go_simp <;> with_reducible rfl
            try simp only [Act.put, List.setIfInBounds_toArray, List.set_cons_zero, List.set_cons_succ]
            refine wpAnyH_ready (rs := [13]) (by kernel_rfl) (by simp) ?_
            refine AllReadyH.cons rfl (fun K hK => ?_) ?_
            · go_simp
              refine hK.out _ _ ?_ (fun hHeld => ?_)
              · (try dsimp only); try trivial
              clear hK K
              try simp only [Act.put, List.setIfInBounds_toArray, List.set_cons_zero, List.set_cons_succ]
              refine wpAnyH_done (by kernel_rfl) ?_ _
              refine NoPanic.normal ?_
              have hsl1 := Rep.sl_keep (Rep.sl_ext HZ1.out HEW1.out) (fun b hb => hgrow.block b (Nat.lt_of_lt_of_le (Rep.sl_lt HZ1.out b hb) HEW1.out.size) (fun he => by have h1 := (HO0.out b he.symm).2.1; have h2 := (HZ2.out b hb).2.1; omega))
              have hun1 : Unfr w' FD := fun b hb j => (World.frozen?_of_block (a := ⟨b, j, none⟩) ((hgrow.block b (Nat.lt_of_lt_of_le (Rep.sl_lt HZ1.out b hb) HEW1.out.size) (fun he => by have h1 := (HO0.out b he.symm).2.1; have h2 := (HZ2.out b hb).2.1; omega)).trans (HEW1.out.block b (Rep.sl_lt HZ1.out b hb) (by simp)))).trans (HZ4.out b hb j)
              have hD9 : DiskP P b n w' A c (.slice Av (0 + 1) cv) R := by
                rw [hRd]
                exact ⟨FD, hsl1, HZ2.out, HZ3.out, hun1, HAPP.out _ w' hown hgrow hat⟩
              have hH9 : ∀ g ∈ (Value.ownBlock (.slice none 0 0)).toList, P g ∧ b ≤ g := fun g hg => by
                have hg' : Value.ownBlock (.slice none 0 0) = some g := by simpa using hg
                have := HO0.out g hg'
                exact ⟨this.1, by omega⟩
              have hO9 : Only (n0 :: (FD1 ++ (Value.ownBlock (.slice none 0 0)).toList)) w1 w' := Only.grown ((HEW0.out.more (fun b hb _ => by simp at hb ⊢; rcases hb with hb | hb <;> simp [hb])).ext HEW1.out) hgrow (fun g hg _ => by rw [hg]; simp)
              have HD9 := Lib.hid hD9; have HO9 := Lib.hid hO9; have HH9 := Lib.hid hH9; have HB9 := Lib.hid hb3'
              have hRl : 0 + 1 = R.Pending.length := by rw [hRd]; simp
              have HRL := Lib.hid hRl
              try clear p1
              try clear g1
              try clear n4
              try clear g4
              clear hsl1 hun1 hD9 hO9 hH9 hown hgrow hat hnil n1 f1 hRl hb3' m3' f3'
              go_wp2
              refine bodyPost_ret (v := .tuple #[]) (by simp [results, Try.results65, go_sem]) rfl ?_
              have hO8 : Only [n0] w' (w'.setCell ⟨n0, o + 1, none⟩ (.slice Av (0 + 1) cv)) := (Only.refl _ _).setCell (by simp) _
              have hb8 := heap_setCell_same w' n0 (o + 1) _ _ (.slice Av (0 + 1) cv) HB9.out
              rw [setIfInBounds_twice] at hb8
              have hD8 := HD9.out.keep hO8 (fun g hg => .inl (fun hp => by simp at hg; subst hg; exact hn0 hp)) (by omega)
              have hl := HRL.out
              refine ⟨rfl, Av, cv, n, ?_, ?_, by omega, _, HO9.out.trans (hO8.more (fun b hb _ => by simp at hb; simp [hb])), fun g hg => ?_⟩
              · rw [← hl]; exact hb8
              · rw [← hl]; exact hD8
              · rcases List.mem_append.1 hg with hg | hg
                · exact HH0.out g hg
                · exact HH9.out g hg
            exact AllReadyH.nil
          exact AllReadyH.nil
        exact AllReadyH.nil
      exact AllReadyH.nil
    refine AllReadyH.cons rfl (fun K hK => ?_) ?_
    · go_simp
      refine (Clone_calls _ _ _ _ _ (Rep.sl_ext HDT.out (Only.refl [] _).drew) (by omega)).mono ?_
      rintro e w5 ⟨v5, G5, rfl, hV5, hN5⟩
      obtain ⟨A5, c5, rfl, q5⟩ := Rep.slice_V hV5
      have hx5 := ((Only.refl [] W).drew).ext hN5.ext
      have hzz := hx5.size
      have hEW1 : Only [] W (w5.alloc (.cells #[.int .i64 s, .slice A5 data.length c5] 64)) := hx5.alloc _
      have hb5 := hx5.heap HBX.out (by simp)
      have p1 := fun o => cell_of_row _ _ o _ _ _ hb5
      have g1 := fun o => frozen_of_row _ _ o _ _ hb5
      have hb4 := hEW1.heap HBX.out (by simp)
      have n4 := fun o => cell_of_row _ _ o _ _ _ hb4
      have g4 := fun o => frozen_of_row _ _ o _ _ hb4
      have HB4 := Lib.hid hb4
      have hF := (NewIn.one (n := W.heap.size) hN5 (fun b hb => Rep.sl_lt q5 b hb) (by simp)).keep (alloc_ext w5 (.cells #[.int .i64 s, .slice A5 data.length c5] 64)) (by simp)
      obtain ⟨cs, ho, hle, hown0, happ⟩ := OwnP.app HZ5.out hEW1 (by simp) hF (fun g hg => hPn g (by have := hF.ge g hg; omega)) (hPn _ (by simp; omega)) (x := (⟨s, data⟩ : DSectorWrite)) ⟨A5, c5, G5, rfl, rfl, es, Rep.sl_ext q5 (alloc_ext _ _)⟩
      have HEW1 := Lib.hid hEW1
      have HAPP := Lib.hid happ
      have HOWN := Lib.hid ho
      have HO0 := Lib.hid hown0
      clear happ ho hEW1 hF hb4 hb5 hown0
      go_wp2_with fail
      refine hK.out _ _ ?_ (fun hHeld => ?_)
      · (try dsimp only); try trivial
      clear hK K
      try simp only [Act.put, List.setIfInBounds_toArray, List.set_cons_zero, List.set_cons_succ]
      refine wpAnyH_take (i := 8) (v := ?_) rfl (by kernel_rfl) (by kernel_rfl) (by kernel_rfl) (fun _ _ _ h => h) (Or.inl ⟨by rfl, ?_⟩) (by assumption) ?_
      rotate_left
      · intro w hSw; (try dsimp only at hSw); go_simp <;> with_reducible rfl
      try simp only [Act.put, List.setIfInBounds_toArray, List.set_cons_zero, List.set_cons_succ]
      refine wpAnyH_ready (rs := [4, 9]) (by kernel_rfl) (by simp) ?_
      refine AllReadyH.cons rfl (fun K hK => ?_) ?_
      · go_simp
        refine hK.out _ _ ?_ (fun hHeld => ?_)
        · (try dsimp only); try trivial
        clear hK K
        try simp only [Act.put, List.setIfInBounds_toArray, List.set_cons_zero, List.set_cons_succ]
        refine wpAnyH_ready (rs := [9]) (by kernel_rfl) (by simp) ?_
        refine AllReadyH.cons rfl (fun K hK => ?_) ?_
        · go_simp
          refine hK.out _ _ ?_ (fun hHeld => ?_)
          · (try dsimp only); try trivial
          clear hK K
          try simp only [Act.put, List.setIfInBounds_toArray, List.set_cons_zero, List.set_cons_succ]
          refine wpAnyH_ready (rs := [10]) (by kernel_rfl) (by simp) ?_
          refine AllReadyH.cons rfl (fun K hK => ?_) ?_
          · refine step_append_own rfl (.tmp 31) (.tmp 36) 27 rfl n 64 i0 _ 2 32 Try.underlying27 hi hz0 hz1 hz2 rfl (by decide) (.slice none 0 0) 0 cs rfl HOWN.out ⟨w5.heap.size, 0, none⟩ 1 1 [.int .i64 s, .slice A5 data.length c5] rfl rfl (cells_new' _ _ _ (by simp)) (by intro u hu; simp at hu; rcases hu with rfl | rfl <;> rfl) (by unfold maxLen; omega) (by omega) hle ?_
            intro v' w' hown hgrow hnil hat
            obtain ⟨Av, cv, rfl⟩ := ownsRow_form hown
            have hb3' := (hgrow.block n0 (Array.getElem?_eq_some_iff.1 HB4.out).1 (fun he => hn0 (HO0.out _ he.symm).1)).trans HB4.out
            have m3' := fun o => cell_of_row _ _ o _ _ _ hb3'
            have f3' := fun o => frozen_of_row _ _ o _ _ hb3'
            refine hK.out _ _ ?_ (fun hHeld => ?_)
            · (try dsimp only); try trivial
            clear hK K
            try simp only [Act.put, List.setIfInBounds_toArray, List.set_cons_zero, List.set_cons_succ]
            refine wpAnyH_take (i := 11) (v := ?_) rfl (by kernel_rfl) (by kernel_rfl) (by kernel_rfl) (fun _ _ _ h => h) (Or.inl ⟨by rfl, ?_⟩) (by assumption) ?_
            rotate_left
            · intro w hSw; (try dsimp only at hSw); go_simp <;> with_reducible rfl
            try simp only [Act.put, List.setIfInBounds_toArray, List.set_cons_zero, List.set_cons_succ]
            refine wpAnyH_take (i := 12) (v := ?_) rfl (by kernel_rfl) (by kernel_rfl) (by kernel_rfl) (fun _ _ _ h => h) (Or.inl ⟨by rfl, ?_⟩) (by assumption) ?_
            rotate_left
            · intro w hSw; (try dsimp only at hSw); go_simp <;> with_reducible rfl
            try simp only [Act.put, List.setIfInBounds_toArray, List.set_cons_zero, List.set_cons_succ]
            refine wpAnyH_ready (rs := [13]) (by kernel_rfl) (by simp) ?_
            refine AllReadyH.cons rfl (fun K hK => ?_) ?_
            · go_simp
              refine hK.out _ _ ?_ (fun hHeld => ?_)
              · (try dsimp only); try trivial
              clear hK K
              try simp only [Act.put, List.setIfInBounds_toArray, List.set_cons_zero, List.set_cons_succ]
              refine wpAnyH_done (by kernel_rfl) ?_ _
              refine NoPanic.normal ?_
              have hsl1 := Rep.sl_keep (Rep.sl_ext HZ1.out HEW1.out) (fun b hb => hgrow.block b (Nat.lt_of_lt_of_le (Rep.sl_lt HZ1.out b hb) HEW1.out.size) (fun he => by have h1 := (HO0.out b he.symm).2.1; have h2 := (HZ2.out b hb).2.1; omega))
              have hun1 : Unfr w' FD := fun b hb j => (World.frozen?_of_block (a := ⟨b, j, none⟩) ((hgrow.block b (Nat.lt_of_lt_of_le (Rep.sl_lt HZ1.out b hb) HEW1.out.size) (fun he => by have h1 := (HO0.out b he.symm).2.1; have h2 := (HZ2.out b hb).2.1; omega)).trans (HEW1.out.block b (Rep.sl_lt HZ1.out b hb) (by simp)))).trans (HZ4.out b hb j)
              have hD9 : DiskP P b n w' A c (.slice Av (0 + 1) cv) R := by
                rw [hRd]
                exact ⟨FD, hsl1, HZ2.out, HZ3.out, hun1, HAPP.out _ w' hown hgrow hat⟩
              have hH9 : ∀ g ∈ (Value.ownBlock (.slice none 0 0)).toList, P g ∧ b ≤ g := fun g hg => by
                have hg' : Value.ownBlock (.slice none 0 0) = some g := by simpa using hg
                have := HO0.out g hg'
                exact ⟨this.1, by omega⟩
              have hO9 : Only (n0 :: (FD1 ++ (Value.ownBlock (.slice none 0 0)).toList)) w1 w' := Only.grown ((HEW0.out.more (fun b hb _ => by simp at hb ⊢; rcases hb with hb | hb <;> simp [hb])).ext HEW1.out) hgrow (fun g hg _ => by rw [hg]; simp)
              have HD9 := Lib.hid hD9; have HO9 := Lib.hid hO9; have HH9 := Lib.hid hH9; have HB9 := Lib.hid hb3'
              have hRl : 0 + 1 = R.Pending.length := by rw [hRd]; simp
              have HRL := Lib.hid hRl
              try clear p1
              try clear g1
              try clear n4
              try clear g4
              clear hsl1 hun1 hD9 hO9 hH9 hown hgrow hat hnil n1 f1 hRl hb3' m3' f3'
              go_wp2
              refine bodyPost_ret (v := .tuple #[]) (by simp [results, Try.results65, go_sem]) rfl ?_
              have hO8 : Only [n0] w' (w'.setCell ⟨n0, o + 1, none⟩ (.slice Av (0 + 1) cv)) := (Only.refl _ _).setCell (by simp) _
              have hb8 := heap_setCell_same w' n0 (o + 1) _ _ (.slice Av (0 + 1) cv) HB9.out
              rw [setIfInBounds_twice] at hb8
              have hD8 := HD9.out.keep hO8 (fun g hg => .inl (fun hp => by simp at hg; subst hg; exact hn0 hp)) (by omega)
              have hl := HRL.out
              refine ⟨rfl, Av, cv, n, ?_, ?_, by omega, _, HO9.out.trans (hO8.more (fun b hb _ => by simp at hb; simp [hb])), fun g hg => ?_⟩
              · rw [← hl]; exact hb8
              · rw [← hl]; exact hD8
              · rcases List.mem_append.1 hg with hg | hg
                · exact HH0.out g hg
                · exact HH9.out g hg
            exact AllReadyH.nil
          exact AllReadyH.nil
        exact AllReadyH.nil
      refine AllReadyH.cons rfl (fun K hK => ?_) ?_
      · go_simp
        refine hK.out _ _ ?_ (fun hHeld => ?_)
        · (try dsimp only); try trivial
        clear hK K
        try simp only [Act.put, List.setIfInBounds_toArray, List.set_cons_zero, List.set_cons_succ]
        refine wpAnyH_ready (rs := [4]) (by kernel_rfl) (by simp) ?_
        refine AllReadyH.cons rfl (fun K hK => ?_) ?_
        · go_simp
          refine hK.out _ _ ?_ (fun hHeld => ?_)
          · (try dsimp only); try trivial
          clear hK K
          try simp only [Act.put, List.setIfInBounds_toArray, List.set_cons_zero, List.set_cons_succ]
          refine wpAnyH_ready (rs := [10]) (by kernel_rfl) (by simp) ?_
          refine AllReadyH.cons rfl (fun K hK => ?_) ?_
          · refine step_append_own rfl (.tmp 31) (.tmp 36) 27 rfl n 64 i0 _ 2 32 Try.underlying27 hi hz0 hz1 hz2 rfl (by decide) (.slice none 0 0) 0 cs rfl HOWN.out ⟨w5.heap.size, 0, none⟩ 1 1 [.int .i64 s, .slice A5 data.length c5] rfl rfl (cells_new' _ _ _ (by simp)) (by intro u hu; simp at hu; rcases hu with rfl | rfl <;> rfl) (by unfold maxLen; omega) (by omega) hle ?_
            intro v' w' hown hgrow hnil hat
            obtain ⟨Av, cv, rfl⟩ := ownsRow_form hown
            have hb3' := (hgrow.block n0 (Array.getElem?_eq_some_iff.1 HB4.out).1 (fun he => hn0 (HO0.out _ he.symm).1)).trans HB4.out
            have m3' := fun o => cell_of_row _ _ o _ _ _ hb3'
            have f3' := fun o => frozen_of_row _ _ o _ _ hb3'
            refine hK.out _ _ ?_ (fun hHeld => ?_)
            · (try dsimp only); try trivial
            clear hK K
            try simp only [Act.put, List.setIfInBounds_toArray, List.set_cons_zero, List.set_cons_succ]
            refine wpAnyH_take (i := 11) (v := ?_) rfl (by kernel_rfl) (by kernel_rfl) (by kernel_rfl) (fun _ _ _ h => h) (Or.inl ⟨by rfl, ?_⟩) (by assumption) ?_
            rotate_left
            · intro w hSw; (try dsimp only at hSw); go_simp <;> with_reducible rfl
            try simp only [Act.put, List.setIfInBounds_toArray, List.set_cons_zero, List.set_cons_succ]
            refine wpAnyH_take (i := 12) (v := ?_) rfl (by kernel_rfl) (by kernel_rfl) (by kernel_rfl) (fun _ _ _ h => h) (Or.inl ⟨by rfl, ?_⟩) (by assumption) ?_
            rotate_left
            · intro w hSw; (try dsimp only at hSw); go_simp <;> with_reducible rfl
            try simp only [Act.put, List.setIfInBounds_toArray, List.set_cons_zero, List.set_cons_succ]
            refine wpAnyH_ready (rs := [13]) (by kernel_rfl) (by simp) ?_
            refine AllReadyH.cons rfl (fun K hK => ?_) ?_
            · go_simp
              refine hK.out _ _ ?_ (fun hHeld => ?_)
              · (try dsimp only); try trivial
              clear hK K
              try simp only [Act.put, List.setIfInBounds_toArray, List.set_cons_zero, List.set_cons_succ]
              refine wpAnyH_done (by kernel_rfl) ?_ _
              refine NoPanic.normal ?_
              have hsl1 := Rep.sl_keep (Rep.sl_ext HZ1.out HEW1.out) (fun b hb => hgrow.block b (Nat.lt_of_lt_of_le (Rep.sl_lt HZ1.out b hb) HEW1.out.size) (fun he => by have h1 := (HO0.out b he.symm).2.1; have h2 := (HZ2.out b hb).2.1; omega))
              have hun1 : Unfr w' FD := fun b hb j => (World.frozen?_of_block (a := ⟨b, j, none⟩) ((hgrow.block b (Nat.lt_of_lt_of_le (Rep.sl_lt HZ1.out b hb) HEW1.out.size) (fun he => by have h1 := (HO0.out b he.symm).2.1; have h2 := (HZ2.out b hb).2.1; omega)).trans (HEW1.out.block b (Rep.sl_lt HZ1.out b hb) (by simp)))).trans (HZ4.out b hb j)
              have hD9 : DiskP P b n w' A c (.slice Av (0 + 1) cv) R := by
                rw [hRd]
                exact ⟨FD, hsl1, HZ2.out, HZ3.out, hun1, HAPP.out _ w' hown hgrow hat⟩
              have hH9 : ∀ g ∈ (Value.ownBlock (.slice none 0 0)).toList, P g ∧ b ≤ g := fun g hg => by
                have hg' : Value.ownBlock (.slice none 0 0) = some g := by simpa using hg
                have := HO0.out g hg'
                exact ⟨this.1, by omega⟩
              have hO9 : Only (n0 :: (FD1 ++ (Value.ownBlock (.slice none 0 0)).toList)) w1 w' := Only.grown ((HEW0.out.more (fun b hb _ => by simp at hb ⊢; rcases hb with hb | hb <;> simp [hb])).ext HEW1.out) hgrow (fun g hg _ => by rw [hg]; simp)
              have HD9 := Lib.hid hD9; have HO9 := Lib.hid hO9; have HH9 := Lib.hid hH9; have HB9 := Lib.hid hb3'
              have hRl : 0 + 1 = R.Pending.length := by rw [hRd]; simp
              have HRL := Lib.hid hRl
              try clear p1
              try clear g1
              try clear n4
              try clear g4
              clear hsl1 hun1 hD9 hO9 hH9 hown hgrow hat hnil n1 f1 hRl hb3' m3' f3'
              go_wp2
              refine bodyPost_ret (v := .tuple #[]) (by simp [results, Try.results65, go_sem]) rfl ?_
              have hO8 : Only [n0] w' (w'.setCell ⟨n0, o + 1, none⟩ (.slice Av (0 + 1) cv)) := (Only.refl _ _).setCell (by simp) _
              have hb8 := heap_setCell_same w' n0 (o + 1) _ _ (.slice Av (0 + 1) cv) HB9.out
              rw [setIfInBounds_twice] at hb8
              have hD8 := HD9.out.keep hO8 (fun g hg => .inl (fun hp => by simp at hg; subst hg; exact hn0 hp)) (by omega)
              have hl := HRL.out
              refine ⟨rfl, Av, cv, n, ?_, ?_, by omega, _, HO9.out.trans (hO8.more (fun b hb _ => by simp at hb; simp [hb])), fun g hg => ?_⟩
              · rw [← hl]; exact hb8
              · rw [← hl]; exact hD8
              · rcases List.mem_append.1 hg with hg | hg
                · exact HH0.out g hg
                · exact HH9.out g hg
            exact AllReadyH.nil
          exact AllReadyH.nil
        exact AllReadyH.nil
      exact AllReadyH.nil
    exact AllReadyH.nil
  · have h8b : ((d.Pending.length : Int) == 8192) = false := by simp; omega
    have hRd : R = ⟨d.Durable, d.Pending ++ [⟨s, data⟩]⟩ := by rw [hRq, diskPut, if_neg h8]
    have hnp : d.Pending.length ≤ 8191 := by omega
    clear h8 hRq
    go_wp2_with (go_at_call 76; refine (sectors_calls _ _ _ _ _ _ c0 (by omega)).mono ?_; rintro e w1 ⟨rfl, rfl⟩)
    have hbx := HBS.out
    have hDW := hD
    have hEW0 : Only (n0 :: []) w1 w1 := Only.refl _ _
    have hb1W := HB1.out
    have hSW : w1.heap.size ≤ w1.heap.size := Nat.le_refl _
    have hH0 : ∀ g ∈ ([] : List Nat), P g ∧ b ≤ g := by simp
    have hdtW := hdt
    clear c0 c1 f0 hD
    have n1 : w1.cell? ⟨n0, o + 1, none⟩ = some (.slice Ap d.Pending.length cp) := (cell_of_row _ _ (o + 1) _ _ _ hbx).trans hb1W
    have f1 := fun o => frozen_of_row _ _ o _ _ hbx
    obtain ⟨FD, z1, z2, z3, z4, z5⟩ := hDW
    have HZ1 := Lib.hid z1; have HZ2 := Lib.hid z2; have HZ3 := Lib.hid z3; have HZ4 := Lib.hid z4; have HZ5 := Lib.hid z5
    have HBX := Lib.hid hbx; have HEW0 := Lib.hid hEW0; have HH0 := Lib.hid hH0; have HDT := Lib.hid hdtW; have HB1W := Lib.hid hb1W
    clear hbx hEW0 hH0 hdtW z1 z2 z3 z4 z5
    refine wp_region_noPanic ?_
    refine wp_region_held_drew (S := (fun _ => True)) (by kernel_rfl) ?_ (fun hHeld => ?_)
    · (try dsimp only); try trivial
    refine wpAnyH_take (i := 0) (v := ?_) rfl (by kernel_rfl) (by kernel_rfl) (by kernel_rfl) (fun _ _ _ h => h) (Or.inl ⟨by rfl, ?_⟩) (by assumption) ?_
    rotate_left
    · intro w hSw; (try dsimp only at hSw); go_simp <;> with_reducible rfl
    try simp only [Act.put, List.setIfInBounds_toArray, List.set_cons_zero, List.set_cons_succ]
    refine wpAnyH_take (i := 1) (v := ?_) rfl (by kernel_rfl) (by kernel_rfl) (by kernel_rfl) (fun _ _ _ h => h) (Or.inl ⟨by rfl, ?_⟩) (by assumption) ?_
    rotate_left
    · intro w hSw; (try dsimp only at hSw); go_simp <;> with_reducible rfl
    try simp only [Act.put, List.setIfInBounds_toArray, List.set_cons_zero, List.set_cons_succ]
    refine wpAnyH_take (i := 2) (v := ?_) rfl (by kernel_rfl) (by kernel_rfl) (by kernel_rfl) (fun _ _ _ h => h) (Or.inl ⟨by rfl, ?_⟩) (by assumption) ?_
    rotate_left
    · intro w hSw; (try dsimp only at hSw); go_simp <;> with_reducible rfl
    try simp only [Act.put, List.setIfInBounds_toArray, List.set_cons_zero, List.set_cons_succ]
    refine wpAnyH_take (i := 3) (v := ?_) rfl (by kernel_rfl) (by kernel_rfl) (by kernel_rfl) (fun _ _ _ h => h) (Or.inl ⟨by rfl, ?_⟩) (by assumption) ?_
    rotate_left
    · intro w hSw; (try dsimp only at hSw); go_simp <;> with_reducible rfl
    try simp only [Act.put, List.setIfInBounds_toArray, List.set_cons_zero, List.set_cons_succ]
    refine wpAnyH_take (i := 5) (v := ?_) rfl (by kernel_rfl) (by kernel_rfl) (by kernel_rfl) (fun _ _ _ h => h) (Or.inl ⟨by rfl, ?_⟩) (by assumption) ?_
    rotate_left
    · intro w hSw; (try dsimp only at hSw); go_simp <;> with_reducible rfl
    try simp only [Act.put, List.setIfInBounds_toArray, List.set_cons_zero, List.set_cons_succ]
    refine wpAnyH_take (i := 6) (v := ?_) rfl (by kernel_rfl) (by kernel_rfl) (by kernel_rfl) (fun _ _ _ h => h) (Or.inl ⟨by rfl, ?_⟩) (by assumption) ?_
    rotate_left
    · intro w hSw; (try dsimp only at hSw); go_simp <;> with_reducible rfl
    try simp only [Act.put, List.setIfInBounds_toArray, List.set_cons_zero, List.set_cons_succ]
    refine wpAnyH_ready (rs := [4, 7]) (by kernel_rfl) (by simp) ?_
    refine AllReadyH.cons rfl (fun K hK => ?_) ?_
    · go_simp
      refine hK.out _ _ ?_ (fun hHeld => ?_)
      · (try dsimp only); try trivial
      clear hK K
      try simp only [Act.put, List.setIfInBounds_toArray, List.set_cons_zero, List.set_cons_succ]
      refine wpAnyH_ready (rs := [7]) (by kernel_rfl) (by simp) ?_
      refine AllReadyH.cons rfl (fun K hK => ?_) ?_
      · go_simp
        refine (Clone_calls _ _ _ _ _ (Rep.sl_ext HDT.out (Only.refl [] _).drew) (by omega)).mono ?_
        rintro e w5 ⟨v5, G5, rfl, hV5, hN5⟩
        obtain ⟨A5, c5, rfl, q5⟩ := Rep.slice_V hV5
        have hx5 := ((Only.refl [] w1).drew).ext hN5.ext
        have hzz := hx5.size
        have hEW1 : Only [] w1 (w5.alloc (.cells #[.int .i64 s, .slice A5 data.length c5] 64)) := hx5.alloc _
        have hb5 := hx5.heap HBX.out (by simp)
        have p1 := fun o => cell_of_row _ _ o _ _ _ hb5
        have g1 := fun o => frozen_of_row _ _ o _ _ hb5
        have hb4 := hEW1.heap HBX.out (by simp)
        have n4 := fun o => cell_of_row _ _ o _ _ _ hb4
        have g4 := fun o => frozen_of_row _ _ o _ _ hb4
        have HB4 := Lib.hid hb4
        have hF := (NewIn.one (n := w1.heap.size) hN5 (fun b hb => Rep.sl_lt q5 b hb) (by simp)).keep (alloc_ext w5 (.cells #[.int .i64 s, .slice A5 data.length c5] 64)) (by simp)
        obtain ⟨cs, ho, hle, hown0, happ⟩ := OwnP.app HZ5.out hEW1 (by simp) hF (fun g hg => hPn g (by have := hF.ge g hg; omega)) (hPn _ (by simp; omega)) (x := (⟨s, data⟩ : DSectorWrite)) ⟨A5, c5, G5, rfl, rfl, es, Rep.sl_ext q5 (alloc_ext _ _)⟩
        have HEW1 := Lib.hid hEW1
        have HAPP := Lib.hid happ
        have HOWN := Lib.hid ho
        have HO0 := Lib.hid hown0
        clear happ ho hEW1 hF hb4 hb5 hown0
        go_wp2_with fail
        refine hK.out _ _ ?_ (fun hHeld => ?_)
        · (try dsimp only); try trivial
        clear hK K
        try simp only [Act.put, List.setIfInBounds_toArray, List.set_cons_zero, List.set_cons_succ]
        refine wpAnyH_take (i := 8) (v := ?_) rfl (by kernel_rfl) (by kernel_rfl) (by kernel_rfl) (fun _ _ _ h => h) (Or.inl ⟨by rfl, ?_⟩) (by assumption) ?_
        rotate_left
        · intro w hSw; (try dsimp only at hSw); go_simp <;> with_reducible rfl
        try simp only [Act.put, List.setIfInBounds_toArray, List.set_cons_zero, List.set_cons_succ]
        refine wpAnyH_ready (rs := [9]) (by kernel_rfl) (by simp) ?_
        refine AllReadyH.cons rfl (fun K hK => ?_) ?_
        · go_simp
          refine hK.out _ _ ?_ (fun hHeld => ?_)
          · (try dsimp only); try trivial
          clear hK K
          try simp only [Act.put, List.setIfInBounds_toArray, List.set_cons_zero, List.set_cons_succ]
          refine wpAnyH_ready (rs := [10]) (by kernel_rfl) (by simp) ?_
          refine AllReadyH.cons rfl (fun K hK => ?_) ?_
          · refine step_append_own rfl (.tmp 31) (.tmp 36) 27 rfl n 64 i0 _ 2 32 Try.underlying27 hi hz0 hz1 hz2 rfl (by decide) (.slice Ap d.Pending.length cp) d.Pending.length cs rfl HOWN.out ⟨w5.heap.size, 0, none⟩ 1 1 [.int .i64 s, .slice A5 data.length c5] rfl rfl (cells_new' _ _ _ (by simp)) (by intro u hu; simp at hu; rcases hu with rfl | rfl <;> rfl) (by unfold maxLen; omega) (by omega) hle ?_
            intro v' w' hown hgrow hnil hat
            obtain ⟨Av, cv, rfl⟩ := ownsRow_form hown
            have hb3' := (hgrow.block n0 (Array.getElem?_eq_some_iff.1 HB4.out).1 (fun he => hn0 (HO0.out _ he.symm).1)).trans HB4.out
            have m3' := fun o => cell_of_row _ _ o _ _ _ hb3'
            have f3' := fun o => frozen_of_row _ _ o _ _ hb3'
            refine hK.out _ _ ?_ (fun hHeld => ?_)
            · (try dsimp only); try trivial
            clear hK K
            try simp only [Act.put, List.setIfInBounds_toArray, List.set_cons_zero, List.set_cons_succ]
            refine wpAnyH_take (i := 11) (v := ?_) rfl (by kernel_rfl) (by kernel_rfl) (by kernel_rfl) (fun _ _ _ h => h) (Or.inl ⟨by rfl, ?_⟩) (by assumption) ?_
            rotate_left
            · intro w hSw; (try dsimp only at hSw); go_simp <;> with_reducible rfl
            try simp only [Act.put, List.setIfInBounds_toArray, List.set_cons_zero, List.set_cons_succ]
            refine wpAnyH_take (i := 12) (v := ?_) rfl (by kernel_rfl) (by kernel_rfl) (by kernel_rfl) (fun _ _ _ h => h) (Or.inl ⟨by rfl, ?_⟩) (by assumption) ?_
            rotate_left
            · intro w hSw; (try dsimp only at hSw); go_simp <;> with_reducible rfl
            try simp only [Act.put, List.setIfInBounds_toArray, List.set_cons_zero, List.set_cons_succ]
            refine wpAnyH_ready (rs := [13]) (by kernel_rfl) (by simp) ?_
            refine AllReadyH.cons rfl (fun K hK => ?_) ?_
            · go_simp
              refine hK.out _ _ ?_ (fun hHeld => ?_)
              · (try dsimp only); try trivial
              clear hK K
              try simp only [Act.put, List.setIfInBounds_toArray, List.set_cons_zero, List.set_cons_succ]
              refine wpAnyH_done (by kernel_rfl) ?_ _
              refine NoPanic.normal ?_
              have hsl1 := Rep.sl_keep (Rep.sl_ext HZ1.out HEW1.out) (fun b hb => hgrow.block b (Nat.lt_of_lt_of_le (Rep.sl_lt HZ1.out b hb) HEW1.out.size) (fun he => by have h1 := (HO0.out b he.symm).2.1; have h2 := (HZ2.out b hb).2.1; omega))
              have hun1 : Unfr w' FD := fun b hb j => (World.frozen?_of_block (a := ⟨b, j, none⟩) ((hgrow.block b (Nat.lt_of_lt_of_le (Rep.sl_lt HZ1.out b hb) HEW1.out.size) (fun he => by have h1 := (HO0.out b he.symm).2.1; have h2 := (HZ2.out b hb).2.1; omega)).trans (HEW1.out.block b (Rep.sl_lt HZ1.out b hb) (by simp)))).trans (HZ4.out b hb j)
              have hD9 : DiskP P b n w' A c (.slice Av (d.Pending.length + 1) cv) R := by
                rw [hRd]
                exact ⟨FD, hsl1, HZ2.out, HZ3.out, hun1, HAPP.out _ w' hown hgrow hat⟩
              have hH9 : ∀ g ∈ (Value.ownBlock (.slice Ap d.Pending.length cp)).toList, P g ∧ b ≤ g := fun g hg => by
                have hg' : Value.ownBlock (.slice Ap d.Pending.length cp) = some g := by simpa using hg
                have := HO0.out g hg'
                exact ⟨this.1, by omega⟩
              have hO9 : Only (n0 :: (([] : List Nat) ++ (Value.ownBlock (.slice Ap d.Pending.length cp)).toList)) w1 w' := Only.grown ((HEW0.out.more (fun b hb _ => by simp at hb ⊢; rcases hb with hb | hb <;> simp [hb])).ext HEW1.out) hgrow (fun g hg _ => by rw [hg]; simp)
              have HD9 := Lib.hid hD9; have HO9 := Lib.hid hO9; have HH9 := Lib.hid hH9; have HB9 := Lib.hid hb3'
              have hRl : d.Pending.length + 1 = R.Pending.length := by rw [hRd]; simp
              have HRL := Lib.hid hRl
              try clear p1
              try clear g1
              try clear n4
              try clear g4
              clear hsl1 hun1 hD9 hO9 hH9 hown hgrow hat hnil n1 f1 hRl hb3' m3' f3'
              go_wp2
              refine bodyPost_ret (v := .tuple #[]) (by simp [results, Try.results65, go_sem]) rfl ?_
              have hO8 : Only [n0] w' (w'.setCell ⟨n0, o + 1, none⟩ (.slice Av (d.Pending.length + 1) cv)) := (Only.refl _ _).setCell (by simp) _
              have hb8 := heap_setCell_same w' n0 (o + 1) _ _ (.slice Av (d.Pending.length + 1) cv) HB9.out
              skip
              have hD8 := HD9.out.keep hO8 (fun g hg => .inl (fun hp => by simp at hg; subst hg; exact hn0 hp)) (by omega)
              have hl := HRL.out
              refine ⟨rfl, Av, cv, n, ?_, ?_, by omega, _, HO9.out.trans (hO8.more (fun b hb _ => by simp at hb; simp [hb])), fun g hg => ?_⟩
              · rw [← hl]; exact hb8
              · rw [← hl]; exact hD8
              · rcases List.mem_append.1 hg with hg | hg
                · exact HH0.out g hg
                · exact HH9.out g hg
            exact AllReadyH.nil
          exact AllReadyH.nil
        exact AllReadyH.nil
      exact AllReadyH.nil
    refine AllReadyH.cons rfl (fun K hK => ?_) ?_
    · go_simp
      refine (Clone_calls _ _ _ _ _ (Rep.sl_ext HDT.out (Only.refl [] _).drew) (by omega)).mono ?_
      rintro e w5 ⟨v5, G5, rfl, hV5, hN5⟩
      obtain ⟨A5, c5, rfl, q5⟩ := Rep.slice_V hV5
      have hx5 := ((Only.refl [] w1).drew).ext hN5.ext
      have hzz := hx5.size
      have hEW1 : Only [] w1 (w5.alloc (.cells #[.int .i64 s, .slice A5 data.length c5] 64)) := hx5.alloc _
      have hb5 := hx5.heap HBX.out (by simp)
      have p1 := fun o => cell_of_row _ _ o _ _ _ hb5
      have g1 := fun o => frozen_of_row _ _ o _ _ hb5
      have hb4 := hEW1.heap HBX.out (by simp)
      have n4 := fun o => cell_of_row _ _ o _ _ _ hb4
      have g4 := fun o => frozen_of_row _ _ o _ _ hb4
      have HB4 := Lib.hid hb4
      have hF := (NewIn.one (n := w1.heap.size) hN5 (fun b hb => Rep.sl_lt q5 b hb) (by simp)).keep (alloc_ext w5 (.cells #[.int .i64 s, .slice A5 data.length c5] 64)) (by simp)
      obtain ⟨cs, ho, hle, hown0, happ⟩ := OwnP.app HZ5.out hEW1 (by simp) hF (fun g hg => hPn g (by have := hF.ge g hg; omega)) (hPn _ (by simp; omega)) (x := (⟨s, data⟩ : DSectorWrite)) ⟨A5, c5, G5, rfl, rfl, es, Rep.sl_ext q5 (alloc_ext _ _)⟩
      have HEW1 := Lib.hid hEW1
      have HAPP := Lib.hid happ
      have HOWN := Lib.hid ho
      have HO0 := Lib.hid hown0
      clear happ ho hEW1 hF hb4 hb5 hown0
      go_wp2_with fail
      refine hK.out _ _ ?_ (fun hHeld => ?_)
      · (try dsimp only); try trivial
      clear hK K
      try simp only [Act.put, List.setIfInBounds_toArray, List.set_cons_zero, List.set_cons_succ]
      refine wpAnyH_take (i := 8) (v := ?_) rfl (by kernel_rfl) (by kernel_rfl) (by kernel_rfl) (fun _ _ _ h => h) (Or.inl ⟨by rfl, ?_⟩) (by assumption) ?_
      rotate_left
      · intro w hSw; (try dsimp only at hSw); go_simp <;> with_reducible rfl
      try simp only [Act.put, List.setIfInBounds_toArray, List.set_cons_zero, List.set_cons_succ]
      refine wpAnyH_ready (rs := [4, 9]) (by kernel_rfl) (by simp) ?_
      refine AllReadyH.cons rfl (fun K hK => ?_) ?_
      · go_simp
        refine hK.out _ _ ?_ (fun hHeld => ?_)
        · (try dsimp only); try trivial
        clear hK K
        try simp only [Act.put, List.setIfInBounds_toArray, List.set_cons_zero, List.set_cons_succ]
        refine wpAnyH_ready (rs := [9]) (by kernel_rfl) (by simp) ?_
        refine AllReadyH.cons rfl (fun K hK => ?_) ?_
        · go_simp
          refine hK.out _ _ ?_ (fun hHeld => ?_)
          · (try dsimp only); try trivial
          clear hK K
          try simp only [Act.put, List.setIfInBounds_toArray, List.set_cons_zero, List.set_cons_succ]
          refine wpAnyH_ready (rs := [10]) (by kernel_rfl) (by simp) ?_
          refine AllReadyH.cons rfl (fun K hK => ?_) ?_
          · refine step_append_own rfl (.tmp 31) (.tmp 36) 27 rfl n 64 i0 _ 2 32 Try.underlying27 hi hz0 hz1 hz2 rfl (by decide) (.slice Ap d.Pending.length cp) d.Pending.length cs rfl HOWN.out ⟨w5.heap.size, 0, none⟩ 1 1 [.int .i64 s, .slice A5 data.length c5] rfl rfl (cells_new' _ _ _ (by simp)) (by intro u hu; simp at hu; rcases hu with rfl | rfl <;> rfl) (by unfold maxLen; omega) (by omega) hle ?_
            intro v' w' hown hgrow hnil hat
            obtain ⟨Av, cv, rfl⟩ := ownsRow_form hown
            have hb3' := (hgrow.block n0 (Array.getElem?_eq_some_iff.1 HB4.out).1 (fun he => hn0 (HO0.out _ he.symm).1)).trans HB4.out
            have m3' := fun o => cell_of_row _ _ o _ _ _ hb3'
            have f3' := fun o => frozen_of_row _ _ o _ _ hb3'
            refine hK.out _ _ ?_ (fun hHeld => ?_)
            · (try dsimp only); try trivial
            clear hK K
            try simp only [Act.put, List.setIfInBounds_toArray, List.set_cons_zero, List.set_cons_succ]
            refine wpAnyH_take (i := 11) (v := ?_) rfl (by kernel_rfl) (by kernel_rfl) (by kernel_rfl) (fun _ _ _ h => h) (Or.inl ⟨by rfl, ?_⟩) (by assumption) ?_
            rotate_left
            · intro w hSw; (try dsimp only at hSw); go_simp <;> with_reducible rfl
            try simp only [Act.put, List.setIfInBounds_toArray, List.set_cons_zero, List.set_cons_succ]
            refine wpAnyH_take (i := 12) (v := ?_) rfl (by kernel_rfl) (by kernel_rfl) (by kernel_rfl) (fun _ _ _ h => h) (Or.inl ⟨by rfl, ?_⟩) (by assumption) ?_
            rotate_left
            · intro w hSw; (try dsimp only at hSw); go_simp <;> with_reducible rfl
            try simp only [Act.put, List.setIfInBounds_toArray, List.set_cons_zero, List.set_cons_succ]
            refine wpAnyH_ready (rs := [13]) (by kernel_rfl) (by simp) ?_
            refine AllReadyH.cons rfl (fun K hK => ?_) ?_
            · go_simp
              refine hK.out _ _ ?_ (fun hHeld => ?_)
              · (try dsimp only); try trivial
              clear hK K
              try simp only [Act.put, List.setIfInBounds_toArray, List.set_cons_zero, List.set_cons_succ]
              refine wpAnyH_done (by kernel_rfl) ?_ _
              refine NoPanic.normal ?_
              have hsl1 := Rep.sl_keep (Rep.sl_ext HZ1.out HEW1.out) (fun b hb => hgrow.block b (Nat.lt_of_lt_of_le (Rep.sl_lt HZ1.out b hb) HEW1.out.size) (fun he => by have h1 := (HO0.out b he.symm).2.1; have h2 := (HZ2.out b hb).2.1; omega))
              have hun1 : Unfr w' FD := fun b hb j => (World.frozen?_of_block (a := ⟨b, j, none⟩) ((hgrow.block b (Nat.lt_of_lt_of_le (Rep.sl_lt HZ1.out b hb) HEW1.out.size) (fun he => by have h1 := (HO0.out b he.symm).2.1; have h2 := (HZ2.out b hb).2.1; omega)).trans (HEW1.out.block b (Rep.sl_lt HZ1.out b hb) (by simp)))).trans (HZ4.out b hb j)
              have hD9 : DiskP P b n w' A c (.slice Av (d.Pending.length + 1) cv) R := by
                rw [hRd]
                exact ⟨FD, hsl1, HZ2.out, HZ3.out, hun1, HAPP.out _ w' hown hgrow hat⟩
              have hH9 : ∀ g ∈ (Value.ownBlock (.slice Ap d.Pending.length cp)).toList, P g ∧ b ≤ g := fun g hg => by
                have hg' : Value.ownBlock (.slice Ap d.Pending.length cp) = some g := by simpa using hg
                have := HO0.out g hg'
                exact ⟨this.1, by omega⟩
              have hO9 : Only (n0 :: (([] : List Nat) ++ (Value.ownBlock (.slice Ap d.Pending.length cp)).toList)) w1 w' := Only.grown ((HEW0.out.more (fun b hb _ => by simp at hb ⊢; rcases hb with hb | hb <;> simp [hb])).ext HEW1.out) hgrow (fun g hg _ => by rw [hg]; simp)
              have HD9 := Lib.hid hD9; have HO9 := Lib.hid hO9; have HH9 := Lib.hid hH9; have HB9 := Lib.hid hb3'
              have hRl : d.Pending.length + 1 = R.Pending.length := by rw [hRd]; simp
              have HRL := Lib.hid hRl
              try clear p1
              try clear g1
              try clear n4
              try clear g4
              clear hsl1 hun1 hD9 hO9 hH9 hown hgrow hat hnil n1 f1 hRl hb3' m3' f3'
              go_wp2
              refine bodyPost_ret (v := .tuple #[]) (by simp [results, Try.results65, go_sem]) rfl ?_
              have hO8 : Only [n0] w' (w'.setCell ⟨n0, o + 1, none⟩ (.slice Av (d.Pending.length + 1) cv)) := (Only.refl _ _).setCell (by simp) _
              have hb8 := heap_setCell_same w' n0 (o + 1) _ _ (.slice Av (d.Pending.length + 1) cv) HB9.out
              skip
              have hD8 := HD9.out.keep hO8 (fun g hg => .inl (fun hp => by simp at hg; subst hg; exact hn0 hp)) (by omega)
              have hl := HRL.out
              refine ⟨rfl, Av, cv, n, ?_, ?_, by omega, _, HO9.out.trans (hO8.more (fun b hb _ => by simp at hb; simp [hb])), fun g hg => ?_⟩
              · rw [← hl]; exact hb8
              · rw [← hl]; exact hD8
              · rcases List.mem_append.1 hg with hg | hg
                · exact HH0.out g hg
                · exact HH9.out g hg
            exact AllReadyH.nil
          exact AllReadyH.nil
        exact AllReadyH.nil
      refine AllReadyH.cons rfl (fun K hK => ?_) ?_
      · go_simp
        refine hK.out _ _ ?_ (fun hHeld => ?_)
        · (try dsimp only); try trivial
        clear hK K
        try simp only [Act.put, List.setIfInBounds_toArray, List.set_cons_zero, List.set_cons_succ]
        refine wpAnyH_ready (rs := [4]) (by kernel_rfl) (by simp) ?_
        refine AllReadyH.cons rfl (fun K hK => ?_) ?_
        · go_simp
          refine hK.out _ _ ?_ (fun hHeld => ?_)
          · (try dsimp only); try trivial
          clear hK K
          try simp only [Act.put, List.setIfInBounds_toArray, List.set_cons_zero, List.set_cons_succ]
          refine wpAnyH_ready (rs := [10]) (by kernel_rfl) (by simp) ?_
          refine AllReadyH.cons rfl (fun K hK => ?_) ?_
          · refine step_append_own rfl (.tmp 31) (.tmp 36) 27 rfl n 64 i0 _ 2 32 Try.underlying27 hi hz0 hz1 hz2 rfl (by decide) (.slice Ap d.Pending.length cp) d.Pending.length cs rfl HOWN.out ⟨w5.heap.size, 0, none⟩ 1 1 [.int .i64 s, .slice A5 data.length c5] rfl rfl (cells_new' _ _ _ (by simp)) (by intro u hu; simp at hu; rcases hu with rfl | rfl <;> rfl) (by unfold maxLen; omega) (by omega) hle ?_
            intro v' w' hown hgrow hnil hat
            obtain ⟨Av, cv, rfl⟩ := ownsRow_form hown
            have hb3' := (hgrow.block n0 (Array.getElem?_eq_some_iff.1 HB4.out).1 (fun he => hn0 (HO0.out _ he.symm).1)).trans HB4.out
            have m3' := fun o => cell_of_row _ _ o _ _ _ hb3'
            have f3' := fun o => frozen_of_row _ _ o _ _ hb3'
            refine hK.out _ _ ?_ (fun hHeld => ?_)
            · (try dsimp only); try trivial
            clear hK K
            try simp only [Act.put, List.setIfInBounds_toArray, List.set_cons_zero, List.set_cons_succ]
            refine wpAnyH_take (i := 11) (v := ?_) rfl (by kernel_rfl) (by kernel_rfl) (by kernel_rfl) (fun _ _ _ h => h) (Or.inl ⟨by rfl, ?_⟩) (by assumption) ?_
            rotate_left
            · intro w hSw; (try dsimp only at hSw); go_simp <;> with_reducible rfl
            try simp only [Act.put, List.setIfInBounds_toArray, List.set_cons_zero, List.set_cons_succ]
            refine wpAnyH_take (i := 12) (v := ?_) rfl (by kernel_rfl) (by kernel_rfl) (by kernel_rfl) (fun _ _ _ h => h) (Or.inl ⟨by rfl, ?_⟩) (by assumption) ?_
            rotate_left
            · intro w hSw; (try dsimp only at hSw); go_simp <;> with_reducible rfl
            try simp only [Act.put, List.setIfInBounds_toArray, List.set_cons_zero, List.set_cons_succ]
            refine wpAnyH_ready (rs := [13]) (by kernel_rfl) (by simp) ?_
            refine AllReadyH.cons rfl (fun K hK => ?_) ?_
            · go_simp
              refine hK.out _ _ ?_ (fun hHeld => ?_)
              · (try dsimp only); try trivial
              clear hK K
              try simp only [Act.put, List.setIfInBounds_toArray, List.set_cons_zero, List.set_cons_succ]
              refine wpAnyH_done (by kernel_rfl) ?_ _
              refine NoPanic.normal ?_
              have hsl1 := Rep.sl_keep (Rep.sl_ext HZ1.out HEW1.out) (fun b hb => hgrow.block b (Nat.lt_of_lt_of_le (Rep.sl_lt HZ1.out b hb) HEW1.out.size) (fun he => by have h1 := (HO0.out b he.symm).2.1; have h2 := (HZ2.out b hb).2.1; omega))
              have hun1 : Unfr w' FD := fun b hb j => (World.frozen?_of_block (a := ⟨b, j, none⟩) ((hgrow.block b (Nat.lt_of_lt_of_le (Rep.sl_lt HZ1.out b hb) HEW1.out.size) (fun he => by have h1 := (HO0.out b he.symm).2.1; have h2 := (HZ2.out b hb).2.1; omega)).trans (HEW1.out.block b (Rep.sl_lt HZ1.out b hb) (by simp)))).trans (HZ4.out b hb j)
              have hD9 : DiskP P b n w' A c (.slice Av (d.Pending.length + 1) cv) R := by
                rw [hRd]
                exact ⟨FD, hsl1, HZ2.out, HZ3.out, hun1, HAPP.out _ w' hown hgrow hat⟩
              have hH9 : ∀ g ∈ (Value.ownBlock (.slice Ap d.Pending.length cp)).toList, P g ∧ b ≤ g := fun g hg => by
                have hg' : Value.ownBlock (.slice Ap d.Pending.length cp) = some g := by simpa using hg
                have := HO0.out g hg'
                exact ⟨this.1, by omega⟩
              have hO9 : Only (n0 :: (([] : List Nat) ++ (Value.ownBlock (.slice Ap d.Pending.length cp)).toList)) w1 w' := Only.grown ((HEW0.out.more (fun b hb _ => by simp at hb ⊢; rcases hb with hb | hb <;> simp [hb])).ext HEW1.out) hgrow (fun g hg _ => by rw [hg]; simp)
              have HD9 := Lib.hid hD9; have HO9 := Lib.hid hO9; have HH9 := Lib.hid hH9; have HB9 := Lib.hid hb3'
              have hRl : d.Pending.length + 1 = R.Pending.length := by rw [hRd]; simp
              have HRL := Lib.hid hRl
              try clear p1
              try clear g1
              try clear n4
              try clear g4
              clear hsl1 hun1 hD9 hO9 hH9 hown hgrow hat hnil n1 f1 hRl hb3' m3' f3'
              go_wp2
              refine bodyPost_ret (v := .tuple #[]) (by simp [results, Try.results65, go_sem]) rfl ?_
              have hO8 : Only [n0] w' (w'.setCell ⟨n0, o + 1, none⟩ (.slice Av (d.Pending.length + 1) cv)) := (Only.refl _ _).setCell (by simp) _
              have hb8 := heap_setCell_same w' n0 (o + 1) _ _ (.slice Av (d.Pending.length + 1) cv) HB9.out
              skip
              have hD8 := HD9.out.keep hO8 (fun g hg => .inl (fun hp => by simp at hg; subst hg; exact hn0 hp)) (by omega)
              have hl := HRL.out
              refine ⟨rfl, Av, cv, n, ?_, ?_, by omega, _, HO9.out.trans (hO8.more (fun b hb _ => by simp at hb; simp [hb])), fun g hg => ?_⟩
              · rw [← hl]; exact hb8
              · rw [← hl]; exact hD8
              · rcases List.mem_append.1 hg with hg | hg
                · exact HH0.out g hg
                · exact HH9.out g hg
            exact AllReadyH.nil
          exact AllReadyH.nil
        exact AllReadyH.nil
      exact AllReadyH.nil
    exact AllReadyH.nil
end Go.Proofs.Ytdjcfcgkldokgaa
