/- PoolPin, PoolUnpin. -/
import Derived.Test.YtjjdainnofnmcaaP6
import Derived.Deep.RegionHeld3
namespace Go.Proofs.Ytjjdainnofnmcaa
open Go.RowKit
set_option linter.unusedSimpArgs false
set_option linter.unusedVariables false
theorem findPage_page : ∀ (xs : List DFrame) (page k : Int) (i : Nat) (hi : i < xs.length), 0 ≤ k → findPage xs page k = k + i → xs[i].Page = page
  | f :: l, page, k, 0, _, hk, h => by
    simp only [findPage] at h
    split at h
    · assumption
    · rcases findPage_range l page (k + 1) with h' | h' <;> omega
  | f :: l, page, k, i + 1, hi, hk, h => by
    simp only [findPage] at h
    split at h
    · omega
    · exact findPage_page l page (k + 1) i (by simpa using hi) (by omega) (by omega)
theorem poolFault_frames {p : DPool} (h : poolFault p = 0) : p.Frames.length ≤ 16 ∧ ∀ x ∈ p.Frames, frame3 x = false ∧ frame4 x = false := by
  unfold poolFault at h
  split at h
  · cases h
  split at h
  · cases h
  split at h
  · cases h
  split at h
  · cases h
  rename_i h1 _ h3 h4
  refine ⟨by omega, fun x hx => ?_⟩
  simp only [List.any_eq_true, not_exists, not_and, Bool.not_eq_true] at h3 h4
  exact ⟨h3 x hx, h4 x hx⟩
theorem poolFind_pins {p : DPool} {page : Int} (h : poolFault p = 0) (i : Nat) (hi : i < p.Frames.length) (he : poolFind p page = i) : 0 ≤ p.Frames[i].Pins ∧ p.Frames[i].Pins ≤ 2147483647 := by
  unfold poolFind at he
  split at he
  · omega
  rename_i hn
  have hp := findPage_page p.Frames page 0 i hi (by omega) (by omega)
  have h3 := ((poolFault_frames h).2 p.Frames[i] (by simp)).1
  unfold frame3 at h3
  rw [if_neg (by rw [hp]; exact fun e => hn (.inr e))] at h3
  simp [inR] at h3
  omega
def gPin (x : DFrame) : DFrame × Int := if x.Pins = 2147483647 then (x, 3) else ({ x with Pins := x.Pins + 1, Ref := true }, 0)
def gUnpin (x : DFrame) : DFrame × Int := if x.Pins = 0 then (x, 3) else ({ x with Pins := x.Pins - 1 }, 0)
end Go.Proofs.Ytjjdainnofnmcaa
