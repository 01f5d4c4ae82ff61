/- The reference's slots: a list of its own. -/
import Derived.Test.YtghgjddiheebeaaDoorX7
namespace Go.Proofs.YtghgjddiheebeaaDoor
open Go.RowKit
set_option linter.unusedSimpArgs false
set_option linter.unusedVariables false
def wfSl (x : Int × Int) : Prop := (Lit.int .i64 x.1).wf = true ∧ (Lit.int .i64 x.2).wf = true
/-- Two numbers, flat. -/
def Rep.Sl : Rep (Int × Int) where
  sz := 2
  R := fun _ x cs F => cs = [.int .i64 x.1, .int .i64 x.2] ∧ F = [] ∧ wfSl x
  val := fun cs => .agg cs.toArray
  len := fun h => by rw [h.1]; rfl
  lt := fun h g hg => by rw [h.2.1] at hg; cases hg
  keep := fun h _ => h
theorem sl_push {n : Nat} {w : World} {v : Value} {ys : List (Int × Int)} {x : Int × Int} (h : Own Rep.Sl 73 n w v ys) (hw : wfSl x) :
    ∃ cs, (w.alloc (.cells #[.int .i64 x.1, .int .i64 x.2] 73)).ownsRow n 73 2 v ys.length cs ∧ n ≤ w.heap.size ∧ ∀ v' w3, w3.ownsRow n 73 2 v' (ys.length + 1) (cs ++ [.int .i64 x.1, .int .i64 x.2]) → (w.alloc (.cells #[.int .i64 x.1, .int .i64 x.2] 73)).grownBy w3 v.ownBlock → (v'.ownBlock = v.ownBlock ∨ v'.ownBlock = some (w.alloc (.cells #[.int .i64 x.1, .int .i64 x.2] 73)).heap.size) →
      Own Rep.Sl 73 n w3 v' (ys ++ [x]) ∧ ∀ W0, Ext W0 w → W0.heap.size ≤ n → Ext W0 w3 := by
  have hE := alloc_ext w (.cells #[.int .i64 x.1, .int .i64 x.2] 73)
  obtain ⟨cs, h1, h2, h3⟩ := Own.app (x := x) (c := [.int .i64 x.1, .int .i64 x.2]) (F := []) h hE (by simp) (NewIn.nil _ _) ⟨rfl, rfl, hw⟩
  refine ⟨cs, h1, h.le, fun v' w3 a b c => ?_⟩
  obtain ⟨k1, k2⟩ := h3 v' w3 a b c
  exact ⟨k1, fun W0 hW hn => k2 [] W0 (hW.ext hE) hn⟩
end Go.Proofs.YtghgjddiheebeaaDoor
