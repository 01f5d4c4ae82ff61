/- PageCompact: the contracts. -/
import Derived.Test.YtghgjddiheebeaaDoorY7
namespace Go.Proofs.YtghgjddiheebeaaDoor
open Go.RowKit
set_option linter.unusedSimpArgs false
set_option linter.unusedVariables false
theorem NewPost.weak2 {α : Type} {r : Rep α} {x : α} {w : World} {e : Ending} {w' : World} (h : NewPost r x w e w') : ∃ v F, e = .returned v ∧ r.V w' v x F ∧ Ext w w' := by
  obtain ⟨v, F, h1, h2, h3⟩ := h
  exact ⟨v, F, h1, h2, h3.ext⟩
theorem Buf.newPost {w w' : World} {g off c : Nat} {xs : List Int} (h : Buf w' g off c xs) (hg : w.heap.size ≤ g) (hE : Ext w w') : NewPost (Rep.int .u8).slice xs w (.returned (.slice (some ⟨g, off, none⟩) xs.length c)) w' :=
  ⟨_, [g], rfl, Rep.slice_mk h.sl, hE, fun b hb => by simp at hb; omega, by simp, h.un⟩
theorem Wf.compI_len {p : List Int} (h : Wf p) : (compI p).length = 4096 := by
  rw [compI, splice_len _ _ _ (by rw [beL_length, h.up_len h.headI_len 32 (Nat.le_refl _)]; omega), h.up_len h.headI_len 32 (Nat.le_refl _)]
/-- What PageCompact answers. -/
noncomputable def pageCmp (p : List Int) : List Int := if wellF p = true then (if (compI p).length = 4096 then compI p else []) else []
theorem pageCmp_ct (p : List Int) : (pageCmp p).length ≤ 1152921504606846976 := by
  unfold pageCmp
  split
  · split
    · omega
    · simp
  · simp
theorem specPageCompact_new (w : World) (A : Option Addr) (c : Nat) (p : List Int) (F : List Nat) (h : (Rep.int .u8).sl w A c p F) (hs : p.length ≤ 1048576) :
    Calls Tryd.prog 11 #[.slice A p.length c] w (NewPost (Rep.int .u8).slice (pageCmp p) w) := by
  by_cases hw : wellF p = true
  · have hW := Wf.of h hw
    obtain ⟨g, off, rfl⟩ := sl_some h (by rw [hW.len]; omega)
    rw [pageCmp, if_pos hw, if_pos hW.compI_len, hW.len]
    refine (specCompact_good w g off c p F h hW).mono ?_
    rintro e w' ⟨B, b, c', rfl, h1, h2, h3⟩
    rw [hW.comp] at h2
    have := h2.newPost h1 h3
    rwa [hW.compI_len] at this
  · rw [pageCmp, if_neg hw]
    exact specCompact_bad w A c p F h (by simpa using hw)
theorem specPageCompact_calls (w : World) (A : Option Addr) (c : Nat) (p : List Int) (F : List Nat) (h : (Rep.int .u8).sl w A c p F) (hs : p.length ≤ 1048576) :
    Calls Tryd.prog 11 #[.slice A p.length c] w fun e w' => ∃ v F, e = .returned v ∧ (Rep.int .u8).slice.V w' v (pageCmp p) F ∧ Ext w w' :=
  (specPageCompact_new w A c p F h hs).mono fun _ _ h => NewPost.weak2 h
theorem implPageCompact_new (w : World) (A : Option Addr) (c : Nat) (p : List Int) (F : List Nat) (h : (Rep.int .u8).sl w A c p F) (hs : p.length ≤ 1048576) :
    Calls Tryd.prog 13 #[.slice A p.length c] w (NewPost (Rep.int .u8).slice (pageCmp p) w) := by
  by_cases hw : wellF p = true
  · have hW := Wf.of h hw
    obtain ⟨g, off, rfl⟩ := sl_some h (by rw [hW.len]; omega)
    have HWF := Lib.hid (by
      have h := wellFormed_calls w _ c p F h
      rw [hw] at h
      exact h)
    rw [hW.len] at HWF
    rw [pageCmp, if_pos hw, if_pos hW.compI_len, hW.len]
    have HS := Lib.hid h; have HW := Lib.hid hW
    clear h hw hs hW
    go_enter Tryd.func13, Tryd.ntmps13
    go_wp2_with (first
      | (go_at_call 55; refine HWF.out.mono ?_; rintro e w1 ⟨rfl, hE⟩; have HE1 := Lib.hid hE; clear hE)
      | (go_at_call 56; refine (compacted_calls _ g off c p F (Rep.sl_ext HS.out HE1.out) HW.out).mono ?_; rintro e w2 ⟨B, rfl, h1, h2, h3⟩))
    go_ret
    have := h2.newPost (Nat.le_trans HE1.out.size h1) (HE1.out.ext h3)
    rwa [HW.out.compI_len] at this
  · have HWF := Lib.hid (by
      have h := wellFormed_calls w _ c p F h
      rw [show wellF p = false by simpa using hw] at h
      exact h)
    rw [pageCmp, if_neg hw]
    clear h hw hs
    go_enter Tryd.func13, Tryd.ntmps13
    go_wp2_with (go_at_call 55; refine HWF.out.mono ?_; rintro e w1 ⟨rfl, hE⟩; have HE1 := Lib.hid hE; clear hE)
    go_ret
    exact NewPost.nil HE1.out
end Go.Proofs.YtghgjddiheebeaaDoor
