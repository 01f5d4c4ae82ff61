/- The reference's PageFault, whole; its well-formedness; the bytes that the slots cover. -/
import Derived.Test.YtghgjddiheebeaaDoorX11
namespace Go.Proofs.YtghgjddiheebeaaDoor
open Go.RowKit
set_option linter.unusedSimpArgs false
set_option linter.unusedVariables false
open Classical in
theorem specPageFault_calls (w : World) (A : Option Addr) (c : Nat) (p : List Int) (F : List Nat) (h : (Rep.int .u8).sl w A c p F) (num : Int) :
    Calls Tryd.prog 74 #[.slice A p.length c, .int .i64 num] w fun e w' => e = .returned (.int .i64 (pageFault p num)) ∧ Ext w w' := by
  by_cases hp : p.length = 4096
  case neg =>
    rw [pageFault, if_pos hp]
    exact specFault_len w A p.length c num hp
  obtain ⟨g, off, rfl⟩ := sl_some h (by omega)
  have hf : pageFault p num = if beAt p 12 4 ≠ num then 2 else if beAt p 4 8 > 1099511627776 ∨ beAt p 18 2 ≠ 0 then 3
      else if beAt p 16 2 < 148 ∨ beAt p 16 2 > 4096 then 4 else if ∃ i, i < 32 ∧ slBad p (beAt p 16 2) i = true then 5
      else if ∃ i j k, i < 32 ∧ j < i ∧ cov p i k ∧ cov p j k then 6 else 0 := by
    rw [pageFault, if_neg (by simpa using hp)]
  rw [hp]
  by_cases hx : beAt p 12 4 ≠ num ∨ beAt p 4 8 > 1099511627776 ∨ beAt p 18 2 ≠ 0 ∨ beAt p 16 2 < 148 ∨ beAt p 16 2 > 4096
  · refine specFault_head w g off c p F h hp num _ ?_ hx
    rw [hf]
    by_cases h1 : beAt p 12 4 ≠ num
    · rw [if_pos h1, if_pos h1]
    · rw [if_neg h1, if_neg h1]
      by_cases h2 : beAt p 4 8 > 1099511627776 ∨ beAt p 18 2 ≠ 0
      · rw [if_pos h2, if_pos h2]
      · rw [if_neg h2, if_neg h2]
        refine if_pos ?_
        rcases hx with h | h | h | h | h
        · exact absurd h h1
        · exact absurd (.inl h) h2
        · exact absurd (.inr h) h2
        · exact .inl h
        · exact .inr h
  · have h1 : beAt p 12 4 = num := Classical.byContradiction fun h => hx (.inl h)
    have h2 : ¬ beAt p 4 8 > 1099511627776 := fun h => hx (.inr (.inl h))
    have h3 : beAt p 18 2 = 0 := Classical.byContradiction fun h => hx (.inr (.inr (.inl h)))
    have h4 : ¬ beAt p 16 2 < 148 := fun h => hx (.inr (.inr (.inr (.inl h))))
    have h5 : ¬ beAt p 16 2 > 4096 := fun h => hx (.inr (.inr (.inr (.inr h))))
    refine specFault_body w g off c p F h hp num _ ?_ h1 (by omega) h3 (by omega) (by omega)
    rw [hf, if_neg (by simpa using h1), if_neg (by rintro (h | h); exact h2 h; exact h h3), if_neg (by rintro (h | h); exact h4 h; exact h5 h)]
set_option maxRecDepth 100000 in
set_option maxHeartbeats 4000000 in
theorem l3Own_calls (w : World) (A : Option Addr) (c : Nat) (p : List Int) (F : List Nat) (h : (Rep.int .u8).sl w A c p F) :
    Calls Tryd.prog 50 #[.slice A p.length c] w fun e w' => e = .returned (.bool (wellF p)) ∧ Ext w w' := by
  by_cases hp : p.length = 4096
  case neg =>
    have hR : wellF p = false := by simp [wellF, hp]
    rw [hR]
    have hp' : ¬ (p.length : Int) = 4096 := by omega
    clear hp hR h
    go_enter Tryd.func50, Tryd.ntmps50
    go_wp2
    go_ret
    exact ⟨rfl, Only.refl _ _⟩
  obtain ⟨g, off, rfl⟩ := sl_some h (by omega)
  have HC12 := Lib.hid (fun W (hW : Ext w W) => by
    have h := l3Number_calls W g off c p F (Rep.sl_ext h hW) 12 4 (by decide) (by decide) (by omega) 12 4 rfl rfl (by omega)
    rw [hp, numAt_short _ 4 (by decide)] at h
    exact h)
  have HPF := Lib.hid (fun w' (hE : Ext w w') => by
    have h := specPageFault_calls w' _ c p F (Rep.sl_ext h hE) (beAt p 12 4)
    rw [hp] at h
    exact h)
  have hR : wellF p = (pageFault p (beAt p 12 4) == 0) := by
    rw [wellF, decide_eq_true hp, Bool.true_and]
    by_cases h0 : pageFault p (beAt p 12 4) = 0 <;> simp [h0]
  rw [hR, hp]
  generalize pageFault p (beAt p 12 4) = f at *
  clear h hp hR
  go_enter Tryd.func50, Tryd.ntmps50
  go_wp2_with (first
    | (go_at_call 108; refine (HC12.out _ (Only.refl [] _)).mono ?_; rintro e w1 ⟨rfl, hE⟩; have HE1 := Lib.hid hE; clear hE)
    | (go_at_call 74; refine (HPF.out _ HE1.out).mono ?_; rintro e w2 ⟨rfl, hE⟩; have HE2 := Lib.hid (HE1.out.ext hE); clear hE))
  go_ret
  exact ⟨rfl, HE2.out⟩
open Classical in
noncomputable def cnt (P : Nat → Prop) : Nat → Nat
  | 0 => 0
  | n + 1 => cnt P n + (if P n then 1 else 0)
theorem cnt_or {P Q R : Nat → Prop} (n : Nat) (hR : ∀ k, R k ↔ (P k ∨ Q k)) (hd : ∀ k, k < n → ¬ (P k ∧ Q k)) : cnt R n = cnt P n + cnt Q n := by
  induction n with
  | zero => rfl
  | succ n ih =>
    have h1 := ih (fun k hk => hd k (by omega))
    have h2 := hd n (by omega)
    have h3 := hR n
    simp only [cnt]
    by_cases hp : P n <;> by_cases hq : Q n
    · exact absurd ⟨hp, hq⟩ h2
    · rw [if_pos (h3.2 (.inl hp)), if_pos hp, if_neg hq]; omega
    · rw [if_pos (h3.2 (.inr hq)), if_neg hp, if_pos hq]; omega
    · rw [if_neg (fun h => (h3.1 h).elim hp hq), if_neg hp, if_neg hq]; omega
theorem cnt_iv {P : Nat → Prop} {a b : Nat} (hP : ∀ k, P k ↔ a ≤ k ∧ k < b) (n : Nat) : cnt P n = min b n - min a n := by
  induction n with
  | zero => simp [cnt]
  | succ n ih =>
    simp only [cnt]
    rw [ih]
    have := hP n
    by_cases h : P n
    · rw [if_pos h]; have := this.1 h; omega
    · rw [if_neg h]
      have h' : ¬ (a ≤ n ∧ n < b) := fun x => h (this.2 x)
      omega
theorem cnt_le {P : Nat → Prop} {b : Nat} (hP : ∀ k, P k → b ≤ k) (n : Nat) : cnt P n ≤ n - b := by
  induction n with
  | zero => simp [cnt]
  | succ n ih =>
    simp only [cnt]
    by_cases h : P n
    · rw [if_pos h]; have := hP n h; omega
    · rw [if_neg h]; omega
theorem fault_zero {p : List Int} {num : Int} (h : pageFault p num = 0) : p.length = 4096 ∧ beAt p 12 4 = num ∧ beAt p 4 8 ≤ 1099511627776 ∧ beAt p 18 2 = 0 ∧ 148 ≤ beAt p 16 2 ∧ beAt p 16 2 ≤ 4096 ∧
    (∀ i, i < 32 → (slO p i = 0 ∧ slN p i = 0) ∨ (slO p i ≠ 0 ∧ slN p i ≤ 1000 ∧ beAt p 16 2 ≤ slO p i ∧ slO p i + slN p i ≤ 4096)) ∧ (∀ i j k, i < 32 → j < i → ¬ (cov p i k ∧ cov p j k)) := by
  unfold pageFault at h
  split at h
  · omega
  split at h
  · omega
  split at h
  · omega
  split at h
  · omega
  split at h
  · omega
  split at h
  · omega
  rename_i h1 h2 h3 h4 h5 h6
  refine ⟨by omega, by omega, by omega, by omega, by omega, by omega, fun i hi => ?_, fun i j k hi hj hc => h6 ⟨i, j, k, hi, hj, hc⟩⟩
  have h7 : ¬ slBad p (beAt p 16 2) i = true := fun h => h5 ⟨i, hi, h⟩
  rw [slBad_true] at h7
  omega
open Classical in
theorem fault_zero_of {p : List Int} {num : Int} (h1 : p.length = 4096) (h2 : beAt p 12 4 = num) (h3 : beAt p 4 8 ≤ 1099511627776) (h4 : beAt p 18 2 = 0) (h5 : 148 ≤ beAt p 16 2) (h6 : beAt p 16 2 ≤ 4096)
    (h7 : ∀ i, i < 32 → (slO p i = 0 ∧ slN p i = 0) ∨ (slO p i ≠ 0 ∧ slN p i ≤ 1000 ∧ beAt p 16 2 ≤ slO p i ∧ slO p i + slN p i ≤ 4096)) (h8 : ∀ i j k, i < 32 → j < i → ¬ (cov p i k ∧ cov p j k)) : pageFault p num = 0 := by
  rw [pageFault, if_neg (by omega), if_neg (by omega), if_neg (by omega), if_neg (by omega), if_neg, if_neg]
  · rintro ⟨i, j, k, hi, hj, hc⟩
    exact h8 i j k hi hj hc
  · rintro ⟨i, hi, h⟩
    rw [slBad_true] at h
    have := h7 i hi
    omega
theorem wellF_iff {p : List Int} : wellF p = true ↔ pageFault p (beAt p 12 4) = 0 := by
  constructor
  · intro h
    simp only [wellF, Bool.and_eq_true, decide_eq_true_eq] at h
    exact h.2
  · intro h
    have := (fault_zero h).1
    simp [wellF, this, h]
def sumN (p : List Int) : Nat → Nat
  | 0 => 0
  | k + 1 => sumN p k + (slN p k).toNat
theorem sumN_mono (p : List Int) {i j : Nat} (h : i ≤ j) : sumN p i ≤ sumN p j := by
  induction j with
  | zero => have : i = 0 := by omega
            subst this; exact Nat.le_refl _
  | succ j ih =>
    rcases Nat.lt_or_ge i (j + 1) with h1 | h1
    · have := ih (by omega)
      simp only [sumN]; omega
    · have : i = j + 1 := by omega
      subst this; exact Nat.le_refl _
theorem cover_cnt {p : List Int} (hw : ∀ z ∈ p, 0 ≤ z ∧ z ≤ 255)
    (h7 : ∀ i, i < 32 → (slO p i = 0 ∧ slN p i = 0) ∨ (slO p i ≠ 0 ∧ slN p i ≤ 1000 ∧ beAt p 16 2 ≤ slO p i ∧ slO p i + slN p i ≤ 4096)) (h8 : ∀ i j k, i < 32 → j < i → ¬ (cov p i k ∧ cov p j k)) :
    ∀ m, m ≤ 32 → cnt (fun k => ∃ i, i < m ∧ cov p i k) 4096 = sumN p m := by
  intro m
  induction m with
  | zero =>
    intro _
    have h0 : cnt (fun k => ∃ i, i < 0 ∧ cov p i k) 4096 ≤ 4096 - 4096 := cnt_le (by rintro k ⟨i, h, _⟩; omega) 4096
    show _ = 0
    omega
  | succ m ih =>
    intro hm
    have hm' : m < 32 := by omega
    have h1 := cnt_or (P := fun k => ∃ i, i < m ∧ cov p i k) (Q := fun k => cov p m k) (R := fun k => ∃ i, i < m + 1 ∧ cov p i k) 4096 (fun k => by
      constructor
      · rintro ⟨i, hi, hc⟩
        rcases Nat.lt_or_ge i m with h | h
        · exact .inl ⟨i, h, hc⟩
        · have : i = m := by omega
          subst this; exact .inr hc
      · rintro (⟨i, hi, hc⟩ | hc)
        · exact ⟨i, by omega, hc⟩
        · exact ⟨m, by omega, hc⟩) (fun k _ ⟨⟨i, hi, hc⟩, hq⟩ => h8 m i k hm' hi ⟨hq, hc⟩)
    rw [h1, ih (by omega)]
    have h2 : 0 ≤ slO p m := (beAt_u16 hw _).1
    have h3 : 0 ≤ slN p m := (beAt_u16 hw _).1
    have h4 := cnt_iv (P := fun k => cov p m k) (a := (slO p m).toNat) (b := (slO p m).toNat + (slN p m).toNat) (fun k => by
      show (slO p m ≤ (k : Int) ∧ (k : Int) < slO p m + slN p m) ↔ _
      omega) 4096
    rw [h4]
    have h5 := h7 m hm'
    simp only [sumN]
    omega
/-- All records fit between the bottom and the end. -/
theorem sumN_room {p : List Int} {num : Int} (hw : ∀ z ∈ p, 0 ≤ z ∧ z ≤ 255) (h : pageFault p num = 0) : sumN p 32 ≤ 4096 - (beAt p 16 2).toNat := by
  obtain ⟨_, _, _, _, h5, h6, h7, h8⟩ := fault_zero h
  rw [← cover_cnt hw h7 h8 32 (Nat.le_refl _)]
  refine cnt_le ?_ 4096
  rintro k ⟨i, hi, hc⟩
  have h9 := h7 i hi
  obtain ⟨c1, c2⟩ := hc
  omega
end Go.Proofs.YtghgjddiheebeaaDoor
