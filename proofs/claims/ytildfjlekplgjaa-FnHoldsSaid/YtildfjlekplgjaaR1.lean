/- The ledger: the walks of lengths, room; both packages. -/
import Derived.Test.YtildfjlekplgjaaR0
import Derived.Test.YtildfjlekplgjaaN9
namespace Go.Proofs.Ytildfjlekplgjaa
open Go.RowKit
set_option linter.unusedSimpArgs false
set_option linter.unusedVariables false
set_option maxRecDepth 100000 in
theorem lenBad_calls (x : Int) (w : World) : Calls Try.prog 77 #[.int .i64 x] w fun e w' => e = .returned (.bool (!okLen x)) ∧ Ext w w' := by
  obtain ⟨R, hR⟩ : ∃ R, R = okLen x := ⟨_, rfl⟩
  rw [← hR]
  have HR := Lib.hid hR
  clear hR
  go_enter Try.func77, Try.ntmps77
  go_wp2_with (go_at_call 43; refine (implIn_calls _ _ _ _).mono ?_; rintro e w9 ⟨rfl, rfl⟩)
  go_ret
  exact ⟨ret_bool (by rw [HR.out]; rfl), Only.refl _ _⟩
set_option maxRecDepth 100000 in
set_option maxHeartbeats 1000000 in
theorem lenIndex_calls (A : Option Addr) (c : Nat) (xs : List Int) (F : List Nat) (w : World) (h : (Rep.int .i64).sl w A c xs F) :
    Calls Try.prog 82 #[.slice A xs.length c, .func (.func 77) #[] #[]] w fun e w' => e = .returned (.int .i64 (firstD (fun x => !okLen x) xs)) ∧ Ext w w' := by
  have hm := Nat.le_trans h.1 h.2.1
  unfold maxLen at hm
  have hfi := enters_of Try.func77 (by kernel_rfl) rfl
  obtain ⟨R, hR⟩ : ∃ R : Int, R = firstD (fun x => !okLen x) xs := ⟨_, rfl⟩
  rw [← hR]
  have HR := Lib.hid hR; have H := Lib.hid h
  clear hR h
  go_enter Try.func82, Try.ntmps82
  go_wp2
  go_loopg [8] (xs.length) (fun m i wr => ∃ k : Nat, m + k = xs.length ∧ i = .int .i64 k ∧ Ext w wr ∧ ∀ j (hj : j < xs.length), j < k → okLen xs[j] = true)
  case atStart => exact ⟨0, by simp, rfl, Only.refl _ _, fun j hj h => absurd h (Nat.not_lt_zero _)⟩
  case round =>
    obtain ⟨k, hmk, rfl, hE, hup⟩ := hrel
    have HE := Lib.hid hE; have HUP := Lib.hid hup; have HMK := Lib.hid hmk
    clear hE hup hmk
    by_cases hlt : k < xs.length
    · obtain ⟨g, off, rfl, hg, _, a0, _⟩ := Rep.sl_int (Rep.sl_ext H.out HE.out) k hlt
      cases hc : okLen xs[k]
      · have HRb := Lib.hid (show R = k by
          have hf : xs.findIdx (fun x => !okLen x) = k := by
            rw [List.findIdx_eq hlt]
            exact ⟨by simp [hc], fun j hj => by simp [HUP.out j (by omega) hj]⟩
          rw [HR.out, firstD, hf, if_pos hlt])
        generalize xs[k] = x at *
        have hnc : (!okLen x) = true := by simp [hc]
        go_wp2_with fail
        refine (lenBad_calls x wr).mono ?_
        rw [hnc]
        rintro e w2 ⟨rfl, hO⟩
        have HE2 := Lib.hid (HE.out.ext hO)
        clear hO hc hnc
        go_wp2
        go_ret
        exact ⟨by rw [HRb.out]; rfl, HE2.out⟩
      · have HUP2 := Lib.hid (show ∀ j (hj : j < xs.length), j < k + 1 → okLen xs[j] = true by
          intro j hj hjk
          by_cases he : j = k
          · subst he; exact hc
          · exact HUP.out j hj (by omega))
        generalize xs[k] = x at *
        have hnc : (!okLen x) = false := by simp [hc]
        go_wp2_with fail
        refine (lenBad_calls x wr).mono ?_
        rw [hnc]
        rintro e w2 ⟨rfl, hO⟩
        have HE2 := Lib.hid (HE.out.ext hO)
        clear hO hc hnc
        go_wp2
        go_roundg (xs.length - (k + 1))
        case measure => have := HMK.out; omega
        case rel => exact ⟨k + 1, by have := HMK.out; omega, by go_num, HE2.out, HUP2.out⟩
    · have HRb := Lib.hid (show R = -1 by
        have hf : ¬ xs.findIdx (fun x => !okLen x) < xs.length := by
          intro hl
          have h1 := List.findIdx_getElem (w := hl)
          have := HUP.out _ hl (by have := HMK.out; omega)
          rw [this] at h1; cases h1
        rw [HR.out, firstD, if_neg hf])
      go_wp2
      go_ret
      exact ⟨by rw [HRb.out]; rfl, HE.out⟩
theorem first_none {α : Type} (p : α → Bool) (xs : List α) : decide (0 ≤ firstD p xs) = xs.any p := by
  unfold firstD
  by_cases h : xs.findIdx p < xs.length
  · rw [if_pos h]
    have h1 : xs.any p = true := by
      rw [List.any_eq_true]
      exact ⟨_, List.getElem_mem h, List.findIdx_getElem (w := h)⟩
    rw [h1]; simp
  · rw [if_neg h]
    have h1 : xs.any p = false := by
      rw [List.any_eq_false]
      intro x hx hp
      exact h (List.findIdx_lt_length_of_exists ⟨x, hx, hp⟩)
    rw [h1]; rfl
set_option maxRecDepth 100000 in
theorem lenContains_calls (A : Option Addr) (c : Nat) (xs : List Int) (F : List Nat) (w : World) (h : (Rep.int .i64).sl w A c xs F) :
    Calls Try.prog 76 #[.slice A xs.length c, .func (.func 77) #[] #[]] w fun e w' => e = .returned (.bool (!xs.all okLen)) ∧ Ext w w' := by
  have hq : (!xs.all okLen) = decide (0 ≤ firstD (fun x => !okLen x) xs) := by rw [first_none, List.not_all_eq_any_not]
  rw [hq]
  obtain ⟨d, hd⟩ : ∃ d, d = firstD (fun x => !okLen x) xs := ⟨_, rfl⟩
  rw [← hd]
  have HD := Lib.hid hd; have H := Lib.hid h
  clear hd h hq
  go_enter Try.func76, Try.ntmps76
  go_wp2_with fail
  refine (lenIndex_calls _ _ _ _ _ H.out).mono ?_
  rw [← HD.out]
  rintro e w1 ⟨rfl, hO⟩
  have HE := Lib.hid hO
  clear hO
  go_wp2
  go_ret
  exact ⟨ret_bool (by first | rfl | simp), HE.out⟩
set_option maxRecDepth 100000 in
theorem holdContains_calls (fi : Nat) (cap : Array Value) (p : DHold → Bool) (hfi : ∀ (args : Array Value) (W : World), (callFunc fi args).run Try.prog W = .ok (.enter fi args) W) (A : Option Addr) (c : Nat) (xs : List DHold) (F : List Nat) (w : World) (h : Rep.Hold.sl w A c xs F) (ht : TestsHold fi cap p [] w) :
    Calls Try.prog 68 #[.slice A xs.length c, .func (.func fi) #[] cap] w fun e w' => e = .returned (.bool (xs.any p)) ∧ Ext w w' := by
  rw [← first_none]
  have HC := Lib.hid (holdIndex_calls fi cap p hfi A c xs F w h ht)
  generalize firstD p xs = d at *
  go_enter Try.func68, Try.ntmps68
  go_wp2_with fail
  refine HC.out.mono ?_
  rintro e w1 ⟨rfl, hO⟩
  have HE := Lib.hid hO
  clear hO HC
  go_wp2
  go_ret
  exact ⟨ret_bool (by first | rfl | simp), HE.out⟩
theorem len_ways (xs : List Int) : ((((xs.length : Int)) % 32 == 0) = false ∧ lenOK xs = false) ∨ ((((xs.length : Int)) % 32 == 0) = true ∧ (decide ((32 : Int) ≤ xs.length) = false ∧ lenOK xs = false ∨ decide ((32 : Int) ≤ xs.length) = true ∧ (decide (((xs.length : Int)) ≤ 512) = false ∧ lenOK xs = false ∨ decide (((xs.length : Int)) ≤ 512) = true ∧ lenOK xs = xs.all okLen))) := by
  unfold lenOK
  by_cases h1 : xs.length % 32 = 0
  · by_cases h2 : 32 ≤ xs.length
    · by_cases h3 : xs.length ≤ 512
      · exact .inr ⟨by simp; omega, .inr ⟨by simp; omega, .inr ⟨by simp; omega, by simp [h1, h2, h3]⟩⟩⟩
      · exact .inr ⟨by simp; omega, .inr ⟨by simp; omega, .inl ⟨by simp; omega, by simp [h3]⟩⟩⟩
    · exact .inr ⟨by simp; omega, .inl ⟨by simp; omega, by simp [h2]⟩⟩
  · exact .inl ⟨by simp; omega, by simp [h1]⟩
set_option maxRecDepth 100000 in
set_option maxHeartbeats 1000000 in
theorem implLengths_calls (A : Option Addr) (c : Nat) (xs : List Int) (F : List Nat) (w : World) (h : (Rep.int .i64).sl w A c xs F) :
    Calls Try.prog 62 #[.slice A xs.length c] w fun e w' => e = .returned (.bool (lenOK xs)) ∧ Ext w w' := by
  have hm := Nat.le_trans h.1 h.2.1
  unfold maxLen at hm
  obtain ⟨R, hR⟩ : ∃ R, R = lenOK xs := ⟨_, rfl⟩
  have hw := len_ways xs
  rw [← hR] at hw ⊢
  have H := Lib.hid h
  clear h hR
  go_enter Try.func62, Try.ntmps62
  rcases hw with ⟨h1, hq⟩ | ⟨h1, ⟨h2, hq⟩ | ⟨h2, ⟨h3, hq⟩ | ⟨h3, hq⟩⟩⟩
  iterate 3
    · have HQ := Lib.hid hq
      clear hq
      go_wp2
      go_ret
      exact ⟨ret_bool HQ.out.symm, Only.refl _ _⟩
  have HQ := Lib.hid hq
  clear hq
  go_wp2_with fail
  refine (lenContains_calls _ _ _ _ _ H.out).mono ?_
  rw [← HQ.out]
  rintro e w1 ⟨rfl, hO⟩
  have HE := Lib.hid hO
  clear hO
  go_wp2
  go_ret
  exact ⟨ret_bool (by simp), HE.out⟩
set_option maxRecDepth 100000 in
set_option maxHeartbeats 1000000 in
theorem specLengths_calls (A : Option Addr) (c : Nat) (xs : List Int) (F : List Nat) (w : World) (h : (Rep.int .i64).sl w A c xs F) :
    Calls Try.prog 66 #[.slice A xs.length c] w fun e w' => e = .returned (.bool (lenOK xs)) ∧ Ext w w' := by
  have hm := Nat.le_trans h.1 h.2.1
  unfold maxLen at hm
  obtain ⟨R, hR⟩ : ∃ R, R = lenOK xs := ⟨_, rfl⟩
  have hw : ((((xs.length : Int)) % 32 != 0) = true ∧ R = false) ∨ ((((xs.length : Int)) % 32 != 0) = false ∧ (inR (((xs.length : Int)) / 32) 1 16 = false ∧ R = false ∨ inR (((xs.length : Int)) / 32) 1 16 = true ∧ R = xs.all okLen)) := by
    rw [hR]
    unfold lenOK
    by_cases h1 : xs.length % 32 = 0
    · by_cases h2 : 32 ≤ xs.length ∧ xs.length ≤ 512
      · exact .inr ⟨by simp; omega, .inr ⟨by simp [inR]; omega, by simp [h1, h2.1, h2.2]⟩⟩
      · exact .inr ⟨by simp; omega, .inl ⟨by simp [inR]; omega, by simp; omega⟩⟩
    · exact .inl ⟨by simp; omega, by simp [h1]⟩
  rw [← hR]
  have H := Lib.hid h
  clear h hR
  go_enter Try.func66, Try.ntmps66
  rcases hw with ⟨h1, hq⟩ | ⟨h1, ⟨h2, hq⟩ | ⟨h2, hq⟩⟩
  · have HQ := Lib.hid hq
    clear hq
    go_wp2
    go_ret
    exact ⟨ret_bool HQ.out.symm, Only.refl _ _⟩
  · have HQ := Lib.hid hq
    clear hq
    go_wp2_with (go_at_call 39; refine (specIn_calls _ _ _ _).mono ?_; rintro e w9 ⟨rfl, rfl⟩)
    go_ret
    exact ⟨ret_bool HQ.out.symm, Only.refl _ _⟩
  have HQ := Lib.hid hq
  clear hq
  go_wp2_with (go_at_call 39; refine (specIn_calls _ _ _ _).mono ?_; rintro e w9 ⟨rfl, rfl⟩)
  go_loopg [4] (xs.length) (fun m i wr => ∃ k : Nat, m + k = xs.length ∧ i = .int .i64 k ∧ Ext w wr ∧ ∀ j (hj : j < xs.length), j < k → okLen xs[j] = true)
  case atStart => exact ⟨0, by simp, rfl, Only.refl _ _, fun j hj h => absurd h (Nat.not_lt_zero _)⟩
  case round =>
    obtain ⟨k, hmk, rfl, hE, hup⟩ := hrel
    have HE := Lib.hid hE; have HUP := Lib.hid hup; have HMK := Lib.hid hmk
    clear hE hup hmk
    by_cases hlt : k < xs.length
    · obtain ⟨g, off, rfl, hg, _, a0, _⟩ := Rep.sl_int (Rep.sl_ext H.out HE.out) k hlt
      cases hc : okLen xs[k]
      · have HRb := Lib.hid (show R = false by rw [HQ.out, List.all_eq_false]; exact ⟨xs[k], by simp, by rw [hc]; simp⟩)
        have hin : inR xs[k] (-1) 1000 = false := hc
        clear hc
        generalize xs[k] = x at *
        go_wp2_with (go_at_call 39; refine (specIn_calls _ _ _ _).mono ?_; rintro e w9 ⟨rfl, rfl⟩)
        go_ret
        exact ⟨ret_bool HRb.out.symm, HE.out⟩
      · have HUP2 := Lib.hid (show ∀ j (hj : j < xs.length), j < k + 1 → okLen xs[j] = true by
          intro j hj hjk
          by_cases he : j = k
          · subst he; exact hc
          · exact HUP.out j hj (by omega))
        have hin : inR xs[k] (-1) 1000 = true := hc
        clear hc
        generalize xs[k] = x at *
        go_wp2_with (go_at_call 39; refine (specIn_calls _ _ _ _).mono ?_; rintro e w9 ⟨rfl, rfl⟩)
        go_roundg (xs.length - (k + 1))
        case measure => have := HMK.out; omega
        case rel => exact ⟨k + 1, by have := HMK.out; omega, by go_num, HE.out, HUP2.out⟩
    · have HRb := Lib.hid (show R = true by
        rw [HQ.out, List.all_eq_true]
        intro x hx
        obtain ⟨j, hj, rfl⟩ := List.getElem_of_mem hx
        exact HUP.out j hj (by have := HMK.out; omega))
      go_wp2
      go_ret
      exact ⟨ret_bool HRb.out.symm, HE.out⟩
end Go.Proofs.Ytildfjlekplgjaa
