/- PoolLoad's contracts as the law's walk wants them. -/
import Derived.Test.YtjjdainnofnmcaaPL
namespace Go.Proofs.Ytjjdainnofnmcaa
open Go.RowKit
set_option linter.unusedVariables false
theorem NewPost.weak {α : Type} {r : Rep α} {x : α} {w : World} {e : Ending} {w' : World} (h : NewPost r x w e w') : ∃ v F, e = .returned v ∧ r.V w' v x F ∧ Ext w w' := by
  obtain ⟨v, F, h1, h2, h3⟩ := h
  exact ⟨v, F, h1, h2, h3.ext⟩
theorem wtFrameS_set : ∀ (xs : List DFrame) (i : Nat) (f : DFrame), wtFrameS (xs.set i f) ≤ wtFrameS xs + wtFrame f
  | [], _, _ => by simp
  | x :: xs, 0, f => by simp [wtFrameS]; omega
  | x :: xs, i + 1, f => by
    have := wtFrameS_set xs i f
    simp [wtFrameS] at this ⊢
    omega
theorem codeRes_ct (c : Int) : ctTopPoolResult (codeRes c) ≤ 1152921504606846976 :=
  Nat.le_trans (ctTopPoolResult_wt _) (by simp [codeRes, wtPoolResult, wtPool, wtFrameS])
theorem poolLoad_ct (p : DPool) (frame page : Int) (bs : List Int) (h : wtPool p ≤ 1048576) (hs : bs.length ≤ 1048576) : ctTopPoolResult (poolLoad p frame page bs) ≤ 1152921504606846976 := by
  unfold poolLoad
  split
  · exact codeRes_ct _
  split
  · unfold poolLoadAt
    split
    · exact codeRes_ct _
    split
    · exact codeRes_ct _
    split
    · exact codeRes_ct _
    · refine Nat.le_trans (ctTopPoolResult_wt _) ?_
      have := wtFrameS_set p.Frames frame.toNat ⟨page, bs, 0, false, 0, true⟩
      simp [wtPoolResult, wtPool, wtFrame] at this h ⊢
      omega
  · exact codeRes_ct _
theorem specPoolLoad_calls (w : World) (v : Value) (p : DPool) (F : List Nat) (h : Rep.Pool.V w v p F) (frame : Int) (ef : (Lit.int .i64 frame).wf = true) (page : Int) (ep : (Lit.int .i64 page).wf = true)
    (A : Option Addr) (c : Nat) (bs : List Int) (G : List Nat) (hB : (Rep.int .u8).sl w A c bs G) (hs2 : wtPool p ≤ 1048576) (hs : bs.length ≤ 1048576) :
    Calls Try.prog 27 #[v, .int .i64 frame, .int .i64 page, .slice A bs.length c] w fun e w' => ∃ v F, e = .returned v ∧ Rep.PoolResult.V w' v (poolLoad p frame page bs) F ∧ Ext w w' :=
  (specPoolLoad_new w v p F h frame ef page ep A c bs G hB hs hs2).mono fun _ _ h => h.weak
theorem implPoolLoad_calls (w : World) (v : Value) (p : DPool) (F : List Nat) (h : Rep.Pool.V w v p F) (frame : Int) (ef : (Lit.int .i64 frame).wf = true) (page : Int) (ep : (Lit.int .i64 page).wf = true)
    (A : Option Addr) (c : Nat) (bs : List Int) (G : List Nat) (hB : (Rep.int .u8).sl w A c bs G) (hs2 : wtPool p ≤ 1048576) (hs : bs.length ≤ 1048576) :
    Calls Try.prog 21 #[v, .int .i64 frame, .int .i64 page, .slice A bs.length c] w (NewPost Rep.PoolResult (poolLoad p frame page bs) w) :=
  implPoolLoad_new w v p F h frame ef page ep A c bs G hB hs hs2
end Go.Proofs.Ytjjdainnofnmcaa
