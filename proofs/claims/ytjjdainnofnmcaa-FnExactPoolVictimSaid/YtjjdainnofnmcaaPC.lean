/- The clock of a pool: plain data. -/
import Derived.Test.YtjjdainnofnmcaaP7
namespace Go.Proofs.Ytjjdainnofnmcaa
open Go.RowKit
set_option linter.unusedSimpArgs false
set_option linter.unusedVariables false
/-- The hand goes round: the frames, the hand, the frame that it found. -/
def clock : Nat → List DFrame → Nat → Option (List DFrame × Nat × Nat)
  | 0, _, _ => none
  | m + 1, xs, h =>
    match xs[h]? with
    | none => none
    | some x => if x.Pins > 0 then clock m xs ((h + 1) % xs.length) else if x.Ref then clock m (xs.set h { x with Ref := false }) ((h + 1) % xs.length) else some (xs, (h + 1) % xs.length, h)
def busy (f : DFrame) : Bool := f.Pins ≤ 0 && f.Ref
theorem clock_mono : ∀ (m : Nat) (xs : List DFrame) (h : Nat) (R : List DFrame × Nat × Nat), clock m xs h = some R → ∀ k, clock (m + k) xs h = some R
  | 0, _, _, _, e, _ => by cases e
  | m + 1, xs, h, R, e, k => by
    rw [show m + 1 + k = (m + k) + 1 by omega]
    simp only [clock] at e ⊢
    split
    · rename_i hn; rw [hn] at e; cases e
    · rename_i x hx
      rw [hx] at e
      simp only at e
      split
      · rename_i hp; rw [if_pos hp] at e; exact clock_mono m _ _ _ e k
      · rename_i hp; rw [if_neg hp] at e
        split
        · rename_i hr; rw [if_pos hr] at e; exact clock_mono m _ _ _ e k
        · rename_i hr; rw [if_neg hr] at e; exact e
theorem clock_det {m k : Nat} {xs : List DFrame} {h : Nat} {R S : List DFrame × Nat × Nat} (h1 : clock m xs h = some R) (h2 : clock k xs h = some S) : R = S := by
  have a := clock_mono m xs h R h1 k
  have b := clock_mono k xs h S h2 m
  rw [Nat.add_comm k m, a] at b
  injection b
theorem count_set {xs : List DFrame} {h : Nat} {x : DFrame} (hx : xs[h]? = some x) (hb : busy x = true) : (xs.set h { x with Ref := false }).countP busy + 1 = xs.countP busy := by
  induction xs generalizing h with
  | nil => simp at hx
  | cons y ys ih =>
    cases h with
    | zero =>
      simp at hx
      subst hx
      have h2 : busy { y with Ref := false } = false := by simp [busy]
      simp [List.set_cons_zero, List.countP_cons, hb, h2]
    | succ k =>
      have := ih (h := k) (by simpa using hx)
      simp only [List.set_cons_succ, List.countP_cons]
      omega
theorem clock_total : ∀ (r : Nat) (xs : List DFrame), xs.countP busy = r → (∃ (i : Nat) (x : DFrame), xs[i]? = some x ∧ x.Pins ≤ 0) → ∀ h, h < xs.length → ∃ m R, clock m xs h = some R := by
  intro r
  induction r using Nat.strongRecOn with
  | _ r ihr =>
    intro xs hr hfree
    obtain ⟨i, y, hi, hy⟩ := hfree
    have hil : i < xs.length := (List.getElem?_eq_some_iff.1 hi).1
    -- from a hand that is d steps away
    have hgo : ∀ d h, h < xs.length → (h + d) % xs.length = i → ∃ m R, clock m xs h = some R := by
      intro d
      induction d with
      | zero =>
        intro h hh he
        rw [Nat.add_zero, Nat.mod_eq_of_lt hh] at he
        subst he
        by_cases hrf : y.Ref = true
        · have hb : busy y = true := by simp [busy, hy, hrf]
          have hc := count_set hi hb
          obtain ⟨m, R, hm⟩ := ihr ((xs.set h { y with Ref := false }).countP busy) (by omega) (xs.set h { y with Ref := false }) rfl ⟨h, { y with Ref := false }, by simp [hh], hy⟩ ((h + 1) % xs.length) (by simp; exact Nat.mod_lt _ (by omega))
          refine ⟨m + 1, R, ?_⟩
          simp only [clock, hi]
          rw [if_neg (by omega), if_pos hrf]
          exact hm
        · refine ⟨1, (xs, (h + 1) % xs.length, h), ?_⟩
          simp only [clock, hi]
          rw [if_neg (by omega), if_neg hrf]
      | succ d ih =>
        intro h hh he
        obtain ⟨x, hx⟩ : ∃ x, xs[h]? = some x := ⟨xs[h], by simp [hh]⟩
        have hn : (h + 1) % xs.length < xs.length := Nat.mod_lt _ (by omega)
        by_cases hp : x.Pins > 0
        · obtain ⟨m, R, hm⟩ := ih ((h + 1) % xs.length) hn (by rw [Nat.mod_add_mod]; rw [← he]; congr 1; omega)
          refine ⟨m + 1, R, ?_⟩
          simp only [clock, hx]
          rw [if_pos hp]
          exact hm
        · by_cases hrf : x.Ref = true
          · have hb : busy x = true := by simp [busy, hrf]; omega
            have hc := count_set hx hb
            obtain ⟨m, R, hm⟩ := ihr ((xs.set h { x with Ref := false }).countP busy) (by omega) (xs.set h { x with Ref := false }) rfl ⟨h, { x with Ref := false }, by simp [hh], by simp; omega⟩ ((h + 1) % xs.length) (by simpa using hn)
            refine ⟨m + 1, R, ?_⟩
            simp only [clock, hx]
            rw [if_neg hp, if_pos hrf]
            exact hm
          · refine ⟨1, (xs, (h + 1) % xs.length, h), ?_⟩
            simp only [clock, hx]
            rw [if_neg hp, if_neg hrf]
    intro h hh
    refine hgo (i + xs.length - h) h hh ?_
    rw [show h + (i + xs.length - h) = i + xs.length by omega, Nat.add_mod_right, Nat.mod_eq_of_lt hil]
end Go.Proofs.Ytjjdainnofnmcaa
