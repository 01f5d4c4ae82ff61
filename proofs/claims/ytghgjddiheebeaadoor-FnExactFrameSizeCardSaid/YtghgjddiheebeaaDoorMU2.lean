/- UndoOf: the contracts in the law's form. -/
import Derived.Test.YtghgjddiheebeaaDoorMU1
namespace Go.Proofs.YtghgjddiheebeaaDoor
open Go.RowKit
theorem NewPost.weak {α : Type} {r : Rep α} {x : α} {w : World} {e : Ending} {w' : World} (h : NewPost r x w e w') : ∃ v F, e = .returned v ∧ r.V w' v x F ∧ Ext w w' := by
  obtain ⟨v, F, h1, h2, h3⟩ := h
  exact ⟨v, F, h1, h2, h3.ext⟩
theorem specUndoOf_calls (w : World) (v : Value) (x : DLogRecord) (F : List Nat) (h : Rep.LogRecord.V w v x F) (hs : wtLogRecord x ≤ 1048576) :
    Calls Tryd.prog 31 #[v] w fun e w' => ∃ v F, e = .returned v ∧ Rep.LogRecord.V w' v (undoOf x) F ∧ Ext w w' :=
  (specUndoOf_new w v x F h hs).mono fun _ _ h => NewPost.weak h
theorem undoOf_ct (x : DLogRecord) (hs : wtLogRecord x ≤ 1048576) : ctTopLogRecord (undoOf x) ≤ 1152921504606846976 := by
  have h1 := ctTopLogRecord_wt (undoOf x)
  have h2 : wtLogRecord (undoOf x) ≤ 1048576 := by
    unfold undoOf
    split
    · simp [wtLogRecord, wtPageRecord, zeroRecD]
    · simp only [wtLogRecord, wtPageRecord, List.length_nil] at hs ⊢; omega
  omega
end Go.Proofs.YtghgjddiheebeaaDoor
