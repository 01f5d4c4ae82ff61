/- The program's PageFault, whole; well-formedness. -/
import Derived.Test.YtghgjddiheebeaaDoorX4
namespace Go.Proofs.YtghgjddiheebeaaDoor
open Go.RowKit
set_option linter.unusedSimpArgs false
set_option linter.unusedVariables false
open Classical in
theorem implPageFault_calls (w : World) (A : Option Addr) (c : Nat) (p : List Int) (F : List Nat) (h : (Rep.int .u8).sl w A c p F) (num : Int) :
    Calls Tryd.prog 81 #[.slice A p.length c, .int .i64 num] w fun e w' => e = .returned (.int .i64 (pageFault p num)) ∧ Ext w w' := by
  by_cases hp : p.length = 4096
  case neg =>
    rw [pageFault, if_pos hp]
    exact implFault_len w A p.length c num hp
  obtain ⟨g, off, rfl⟩ := sl_some h (by omega)
  have hf : pageFault p num = if beAt p 12 4 ≠ num then 2 else if beAt p 4 8 > 1099511627776 ∨ beAt p 18 2 ≠ 0 then 3
      else if beAt p 16 2 < 148 ∨ beAt p 16 2 > 4096 then 4 else if ∃ i, i < 32 ∧ slBad p (beAt p 16 2) i = true then 5
      else if ∃ i j k, i < 32 ∧ j < i ∧ cov p i k ∧ cov p j k then 6 else 0 := by
    rw [pageFault, if_neg (by simpa using hp)]
  rw [hp]
  by_cases hx : beAt p 12 4 ≠ num ∨ beAt p 4 8 > 1099511627776 ∨ beAt p 18 2 ≠ 0 ∨ beAt p 16 2 < 148 ∨ beAt p 16 2 > 4096
  · refine implFault_head w g off c p F h hp num _ ?_ hx
    rw [hf]
    by_cases h1 : beAt p 12 4 ≠ num
    · rw [if_pos h1, if_pos h1]
    · rw [if_neg h1, if_neg h1]
      by_cases h2 : beAt p 4 8 > 1099511627776 ∨ beAt p 18 2 ≠ 0
      · rw [if_pos h2, if_pos h2]
      · rw [if_neg h2, if_neg h2]
        refine if_pos ?_
        rcases hx with h | h | h | h | h
        · exact absurd h h1
        · exact absurd (.inl h) h2
        · exact absurd (.inr h) h2
        · exact .inl h
        · exact .inr h
  · have h1 : beAt p 12 4 = num := Classical.byContradiction fun h => hx (.inl h)
    have h2 : ¬ beAt p 4 8 > 1099511627776 := fun h => hx (.inr (.inl h))
    have h3 : beAt p 18 2 = 0 := Classical.byContradiction fun h => hx (.inr (.inr (.inl h)))
    have h4 : ¬ beAt p 16 2 < 148 := fun h => hx (.inr (.inr (.inr (.inl h))))
    have h5 : ¬ beAt p 16 2 > 4096 := fun h => hx (.inr (.inr (.inr (.inr h))))
    refine implFault_body w g off c p F h hp num _ ?_ h1 (by omega) h3 (by omega) (by omega)
    rw [hf, if_neg (by simpa using h1), if_neg (by rintro (h | h); exact h2 h; exact h h3), if_neg (by rintro (h | h); exact h4 h; exact h5 h)]
end Go.Proofs.YtghgjddiheebeaaDoor
