/- The bytes of a page: the reference's. -/
import Derived.Test.YtdjcfcgkldokgaaE5
namespace Go.Proofs.Ytdjcfcgkldokgaa
open Go.RowKit
set_option linter.unusedSimpArgs false
set_option linter.unusedVariables false
set_option maxRecDepth 100000 in
set_option maxHeartbeats 2000000 in
theorem seePage_calls (w : World) (A : Option Addr) (c : Nat) (Ap : Option Addr) (cp : Nat) (d : DDisk) (F G : List Nat) (h1 : (Rep.int .u8).sl w A c d.Durable F) (h2 : Rep.SectorWrite.sl w Ap cp d.Pending G) (hv : validDisk d = true) (g : DGeometry) (p : Int) (s : Nat) (hps : pageSector g p = s) (hs : s + 8 ≤ d.Durable.length / 512) :
    Calls Try.prog 88 #[.agg #[.slice A d.Durable.length c, .slice Ap d.Pending.length cp], .agg #[.int .i64 g.Pages, .int .i64 g.Frames, .int .i64 g.LogSectors], .int .i64 p] w (NewPost (Rep.int .u8).slice (pageUp d s 8) w) := by
  have hu := Try.underlying75
  have hu2 := Try.underlying29
  obtain ⟨i0, hi, hz0, hz1, hz2⟩ := info_parts info5
  obtain ⟨v1, v2, v3, v4, v5⟩ := valid_facts hv
  have hEA := ((alloc_ext w (.cells #[.slice A d.Durable.length c, .slice Ap d.Pending.length cp] 29)).alloc (.cells #[.int .i64 g.Pages, .int .i64 g.Frames, .int .i64 g.LogSectors] 75)).alloc (.cells #[] 5)
  have hx := alloc_ext ((w.alloc (.cells #[.slice A d.Durable.length c, .slice Ap d.Pending.length cp] 29)).alloc (.cells #[.int .i64 g.Pages, .int .i64 g.Frames, .int .i64 g.LogSectors] 75)) (.cells #[] 5)
  have hb1 := hx.heap (heap_alloc2_old w (.cells #[.slice A d.Durable.length c, .slice Ap d.Pending.length cp] 29) (.cells #[.int .i64 g.Pages, .int .i64 g.Frames, .int .i64 g.LogSectors] 75)) (by simp)
  have hb2 := hx.heap (heap_alloc2_new w (.cells #[.slice A d.Durable.length c, .slice Ap d.Pending.length cp] 29) (.cells #[.int .i64 g.Pages, .int .i64 g.Frames, .int .i64 g.LogSectors] 75)) (by simp)
  have hz0' : (((w.alloc (.cells #[.slice A d.Durable.length c, .slice Ap d.Pending.length cp] 29)).alloc (.cells #[.int .i64 g.Pages, .int .i64 g.Frames, .int .i64 g.LogSectors] 75)).alloc (.cells #[] 5)).heap.size = w.heap.size + 3 := by simp
  have hmade : (((w.alloc (.cells #[.slice A d.Durable.length c, .slice Ap d.Pending.length cp] 29)).alloc (.cells #[.int .i64 g.Pages, .int .i64 g.Frames, .int .i64 g.LogSectors] 75)).alloc (.cells #[] 5)).ownsRow (w.heap.size + 2) 5 1 (.slice (some ⟨w.heap.size + 2, 0, none⟩) 0 0) 0 [] := by
    have := World.ownsRow_made (base := w.heap.size + 2) (e := 5) (size := 1) ((w.alloc (.cells #[.slice A d.Durable.length c, .slice Ap d.Pending.length cp] 29)).alloc (.cells #[.int .i64 g.Pages, .int .i64 g.Frames, .int .i64 g.LogSectors] 75)) #[] 0 (by simp) (by simp) (by simp)
    simpa using this
  have HEA := Lib.hid hEA; have HB1 := Lib.hid hb1; have HB2 := Lib.hid hb2; have HV := Lib.hid hv; have H1 := Lib.hid h1; have H2 := Lib.hid h2; have HPS := Lib.hid hps; have HMD := Lib.hid hmade
  clear hEA hb1 hb2 hx hv h1 h2 hps hmade
  go_enter Try.func88, Try.ntmps88
  go_wp2
  generalize ((w.alloc (.cells #[.slice A d.Durable.length c, .slice Ap d.Pending.length cp] 29)).alloc (.cells #[.int .i64 g.Pages, .int .i64 g.Frames, .int .i64 g.LogSectors] 75)).alloc (.cells #[] 5) = W0 at *
  go_loopg [7, 8] 8 (fun m v i wr => ∃ k : Nat, m + k = 8 ∧ i = .int .i64 k ∧ wr.ownsRow (w.heap.size + 2) 5 1 v (k * 512) ((pageUp d s k).map (.int .u8)) ∧ Only [w.heap.size + 2] W0 wr ∧ ∀ x ∈ pageUp d s k, (Lit.int .u8 x).wf = true)
  case atStart => exact ⟨0, rfl, rfl, HMD.out, Only.refl _ _, by simp [pageUp]⟩
  case round =>
    obtain ⟨k, hk, rfl, hown, hE, hwf⟩ := hrel
    have HOWN := Lib.hid hown; have HE := Lib.hid hE; have HWF := Lib.hid hwf; have HK := Lib.hid hk
    have hbr1 := hE.heap HB1.out (by simp)
    have hbr2 := hE.heap HB2.out (by simp)
    have m1 := fun o => cell_of_row _ _ o _ _ _ hbr1
    have m2 := fun o => cell_of_row _ _ o _ _ _ hbr2
    obtain ⟨Av, cv, rfl⟩ := ownsRow_form hown
    clear hown hE hwf hk hbr1 hbr2
    by_cases hlt : k < 8
    · go_wp2_with fail
      refine wp_region_noPanic ?_
      refine wp_region_held_drew (S := (fun w' => w'.cell? ⟨w.heap.size, 0, none⟩ = some (.slice A d.Durable.length c) ∧ w'.cell? ⟨w.heap.size, 1, none⟩ = some (.slice Ap d.Pending.length cp) ∧ w'.cell? ⟨w.heap.size + 1, 0, none⟩ = some (.int .i64 g.Pages) ∧ w'.cell? ⟨w.heap.size + 1, 1, none⟩ = some (.int .i64 g.Frames) ∧ w'.cell? ⟨w.heap.size + 1, 2, none⟩ = some (.int .i64 g.LogSectors))) (by kernel_rfl) ?_ (fun hHeld => ?_)
      · exact ⟨m1 0, m1 1, m2 0, m2 1, m2 2⟩
      refine wpAnyH_take (i := 0) (v := ?_) rfl (by kernel_rfl) (by kernel_rfl) (by kernel_rfl) (fun _ _ _ h => h) (Or.inl ⟨by rfl, ?_⟩) (by assumption) ?_
      rotate_left
      · intro w hSw; (try dsimp only at hSw); go_simp <;> with_reducible rfl
      try simp only [Act.put, List.setIfInBounds_toArray, List.set_cons_zero, List.set_cons_succ]
      refine wpAnyH_take (i := 1) (v := ?_) rfl (by kernel_rfl) (by kernel_rfl) (by kernel_rfl) (fun _ _ _ h => h) (Or.inl ⟨by rfl, ?_⟩) (by assumption) ?_
      rotate_left
      · intro w hSw; (try dsimp only at hSw); go_simp <;> with_reducible rfl
      try simp only [Act.put, List.setIfInBounds_toArray, List.set_cons_zero, List.set_cons_succ]
      refine wpAnyH_take (i := 2) (v := ?_) rfl (by kernel_rfl) (by kernel_rfl) (by kernel_rfl) (fun _ _ _ h => h) (Or.inl ⟨by rfl, ?_⟩) (by assumption) ?_
      rotate_left
      · intro w hSw; (try dsimp only at hSw); go_simp <;> with_reducible rfl
      try simp only [Act.put, List.setIfInBounds_toArray, List.set_cons_zero, List.set_cons_succ]
      refine wpAnyH_take (i := 3) (v := ?_) rfl (by kernel_rfl) (by kernel_rfl) (by kernel_rfl) (fun _ _ _ h => h) (Or.inl ⟨by rfl, ?_⟩) (by assumption) ?_
      rotate_left
      · intro w hSw; (try dsimp only at hSw); go_simp <;> with_reducible rfl
      try simp only [Act.put, List.setIfInBounds_toArray, List.set_cons_zero, List.set_cons_succ]
      refine wpAnyH_take (i := 5) (v := ?_) rfl (by kernel_rfl) (by kernel_rfl) (by kernel_rfl) (fun _ _ _ h => h) (Or.inl ⟨by rfl, ?_⟩) (by assumption) ?_
      rotate_left
      · intro w hSw; (try dsimp only at hSw); go_simp <;> with_reducible rfl
      try simp only [Act.put, List.setIfInBounds_toArray, List.set_cons_zero, List.set_cons_succ]
      refine wpAnyH_ready (rs := [4]) (by kernel_rfl) (by simp) ?_
      refine AllReadyH.cons rfl (fun K hK => ?_) ?_
      rotate_left
      · exact AllReadyH.nil
      go_simp
      refine (specPageSector_calls g p _).mono ?_
      rw [HPS.out]
      rintro e w1 ⟨rfl, hO⟩
      have HE1 := Lib.hid ((HE.out.drew).ext hO)
      have HEw := Lib.hid (HEA.out.then_ ((HE.out.drew).ext hO) (fun q hq hl => by simp at hq; omega))
      have HO := Lib.hid hO
      have hsk : IntKind.i64.wrap ((s : Int) + (k : Int)) = (s : Int) + (k : Int) := wrap_small _ (by omega) (by omega)
      have n1 := fun o => cell_of_row _ _ o _ _ _ (HE1.out.heap HB1.out (by simp))
      have n2 := fun o => cell_of_row _ _ o _ _ _ (HE1.out.heap HB2.out (by simp))
      clear hO
      refine hK.out _ _ ?_ (fun hHeld => ?_)
      · (try dsimp only); exact ⟨n1 0, n1 1, n2 0, n2 1, n2 2⟩
      clear hK K
      try simp only [Act.put, List.setIfInBounds_toArray, List.set_cons_zero, List.set_cons_succ]
      refine wpAnyH_take (i := 6) (v := ?_) rfl (by kernel_rfl) (by kernel_rfl) (by kernel_rfl) (fun _ _ _ h => h) (Or.inl ⟨by rfl, ?_⟩) (by assumption) ?_
      rotate_left
      · intro w hSw; (try dsimp only at hSw); go_simp <;> with_reducible rfl
      try simp only [Act.put, List.setIfInBounds_toArray, List.set_cons_zero, List.set_cons_succ]
      refine wpAnyH_ready (rs := [7]) (by kernel_rfl) (by simp) ?_
      refine AllReadyH.cons rfl (fun K hK => ?_) ?_
      rotate_left
      · exact AllReadyH.nil
      go_simp
      have hsc := see_calls w1 A c Ap cp d _ _ (Rep.sl_ext H1.out HEw.out) (Rep.sl_ext H2.out HEw.out) HV.out (s + k) (by omega)
      rw [show ((s + k : Nat) : Int) = (s : Int) + (k : Int) by omega] at hsc
      refine hsc.mono ?_
      clear hsc
      rintro e w2 ⟨B, cb, Fb, rfl, hB, hE2⟩
      have hln : (seenL d ((s : Int) + (k : Int))).length = 512 := seenL_len HV.out (by omega) (by omega)
      obtain ⟨gB, oB, rfl, hgB, hcells⟩ := sl_ints hB (by intro h; rw [h] at hln; simp at hln)
      have HC := Lib.hid hcells; have HSW := Lib.hid (sl_wf hB)
      have HLN := Lib.hid hln
      have HE3 := Lib.hid (HE1.out.ext hE2)
      have HOWN1 := Lib.hid (ownsRow_only (H := []) HOWN.out (((Only.refl [] wr).drew.ext HO.out).ext hE2) (by simp))
      have hzw := HE3.out.size
      have p1 := fun o => cell_of_row _ _ o _ _ _ (HE3.out.heap HB1.out (by simp))
      have p2 := fun o => cell_of_row _ _ o _ _ _ (HE3.out.heap HB2.out (by simp))
      rw [hln]
      clear hB hcells hln hE2
      refine hK.out _ _ ?_ (fun hHeld => ?_)
      · (try dsimp only); exact ⟨p1 0, p1 1, p2 0, p2 1, p2 2⟩
      clear hK K
      try simp only [Act.put, List.setIfInBounds_toArray, List.set_cons_zero, List.set_cons_succ]
      refine wpAnyH_ready (rs := [8]) (by kernel_rfl) (by simp) ?_
      refine AllReadyH.cons rfl (fun K hK => ?_) ?_
      rotate_left
      · exact AllReadyH.nil
      refine step_append_own rfl (.tmp 14) (.tmp 21) 22 rfl (w.heap.size + 2) 5 i0 (.int .u8 0) 1 1 Try.underlying22 hi hz0 hz1 hz2 rfl (by decide) (.slice Av (k * 512) cv) (k * 512) ((pageUp d s k).map (.int .u8)) rfl HOWN1.out ⟨gB, oB, none⟩ 512 cb ((seenL d ((s : Int) + (k : Int))).map (.int .u8)) rfl (by rw [List.length_map, HLN.out]) HC.out (ints_cells1 _) (by unfold maxLen; omega) (by omega) (by omega) ?_
      intro v' w' hown hgrow hnil hat
      obtain ⟨Av', cv', rfl⟩ := ownsRow_form hown
      have hgb : ∀ q, q < w.heap.size + 2 → w'.heap[q]? = w2.heap[q]? := fun q hq => hgrow.block q (by omega) (fun he => by have := (HOWN1.out.lt q he.symm).1; omega)
      have r1 := fun o => cell_of_row _ _ o _ _ _ ((hgb w.heap.size (by omega)).trans (HE3.out.heap HB1.out (by simp)))
      have r2 := fun o => cell_of_row _ _ o _ _ _ ((hgb (w.heap.size + 1) (by omega)).trans (HE3.out.heap HB2.out (by simp)))
      refine hK.out _ _ ?_ (fun hHeld => ?_)
      · (try dsimp only); exact ⟨r1 0, r1 1, r2 0, r2 1, r2 2⟩
      clear hK K
      try simp only [Act.put, List.setIfInBounds_toArray, List.set_cons_zero, List.set_cons_succ]
      refine wpAnyH_take (i := 9) (v := ?_) rfl (by kernel_rfl) (by kernel_rfl) (by kernel_rfl) (fun _ _ _ h => h) (Or.inl ⟨by rfl, ?_⟩) (by assumption) ?_
      rotate_left
      · intro w hSw; (try dsimp only at hSw); go_simp <;> with_reducible rfl
      try simp only [Act.put, List.setIfInBounds_toArray, List.set_cons_zero, List.set_cons_succ]
      refine wpAnyH_done (by kernel_rfl) ?_ _
      refine NoPanic.normal ?_
      go_wp2
      go_roundg (8 - (k + 1))
      case measure => have := HK.out; omega
      case rel =>
        refine ⟨k + 1, by have := HK.out; omega, by go_num, ?_, HE3.out.grown hgrow (fun q hq hl => ?_), ?_⟩
        · rw [pageUp, List.map_append, show (k + 1) * 512 = k * 512 + 512 by omega]; exact hown
        · have := (HOWN1.out.lt q hq).1; simp; omega
        · intro x hx
          rw [pageUp] at hx
          rcases List.mem_append.1 hx with hx | hx
          · exact HWF.out x hx
          · exact HSW.out x hx
    · have hk8 : k = 8 := by have := HK.out; omega
      subst hk8
      have hpl := pageUp_len (s := s) HV.out 8 hs
      have HPL := Lib.hid hpl
      have hzw := HE.out.size
      clear hpl
      go_wp2
      go_ret
      refine NewPost.ofOwn (e := 5) (n := w.heap.size + 2) (clone_done HWF.out ?_ (by omega)) (by omega) (HEA.out.then_ HE.out (fun q hq hl => by simp at hq; omega))
      rw [HPL.out]
      exact HOWN.out
end Go.Proofs.Ytdjcfcgkldokgaa
