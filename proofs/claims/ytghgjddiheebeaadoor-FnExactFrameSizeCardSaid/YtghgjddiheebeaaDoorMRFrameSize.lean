/- The statement of FnExactFrameSize: whatever the arguments that can be read as data, the call returns true, and each argument reads as it read. Conditions: none. -/
import Derived.Test.YtghgjddiheebeaaDoorRows
import Derived.Test.YtghgjddiheebeaaDoorMOT
import Derived.Test.YtghgjddiheebeaaDoorMLFrameSize
import Derived.WalkKit
import Derived.ProofKit
import Derived.OpenShut
import Derived.OpenVars
import Derived.ChangeVars
import Derived.ShutString
import Derived.ChangeOld
import Derived.Below
import Derived.Test.YtghgjddiheebeaaDoorCards
import Derived.Test.YtghgjddiheebeaaDoorTie
import Derived.SevenTiedAt
import Derived.LaidMore
import Derived.Handed
namespace Go.Proofs.YtghgjddiheebeaaDoor
open Go.ChangeShapes Go.WideShapes Go.ChangeAt Go.RowKit
open Go.ChangeMaps (open_string shut_string)
set_option linter.unusedVariables false
set_option linter.unusedSimpArgs false

theorem own_FrameSize : ownKnob Tryd.prog.godebug = none := by kernel_rfl
theorem laidOut_FrameSize : laidOutB Tryd.prog = true := by kernel_rfl

theorem FrameSize_door (os : Os) (args : Array Value) : laidMetH Tryd.prog Rows.fnExactFrameSizeRow.laid ((World.doorLaid Tryd.prog 400 os).forCall (fun _ _ => 0) ⟨#[], args, []⟩).memory :=
  laidMetH_of_parts3 (fuel := 8) (laidMet_of_run' 8 (by kernel_rfl) (by kernel_rfl)) (by kernel_rfl) (by kernel_rfl)
set_option maxRecDepth 100000 in
set_option maxHeartbeats 4000000 in
theorem FrameSize_lifted (os : Os) (started : os.Started) (H : Type) (enc : TypeId × Value → H) :
    ReturnsInHanded {} Tryd.checked os 7 .any (fun w args => (Rows.fnExactFrameSizeSpec.pre enc Tryd.prog Tryd.f7 Rows.fnExactFrameSizeRow.domain false w args ∧ laidMetH Tryd.prog Rows.fnExactFrameSizeRow.laid w) ∧ sizedMet enc Tryd.prog Tryd.f7 (OpenSpec.ofChange Rows.fnExactFrameSizeSpec) false w args) (Rows.fnExactFrameSizeSpec.post enc Tryd.prog Tryd.f7 false true false false) := by
  refine returnsInHanded_of_change_and (C := Tryd.checked) (X := fun w _ => laidMetH Tryd.prog Rows.fnExactFrameSizeRow.laid w) (fun _ _ _ hh h => h.of_heap hh) own_FrameSize started (by kernel_rfl) Tryd.func7
    (ChangeSpec.witness_shaped (enc := enc) (C := Tryd.checked) (os := os) (X := fun w _ => laidMetH Tryd.prog Rows.fnExactFrameSizeRow.laid w) false (World.doorLaid Tryd.prog 400 os) #[.agg #[.int .i64 0, .int .i64 0, .int .i64 0, .int .i64 0, .int .i64 0, .bool false, .slice none 0 0, .bool false, .slice none 0 0, .int .i64 0, .int .i64 0, .slice none 0 0, .slice none 0 0, .slice none 0 0]] 8 rfl (World.shaped_of_RefB (by kernel_rfl) (by kernel_rfl)) (by kernel_rfl) (by kernel_rfl) (by kernel_rfl) (FrameSize_door os _)) ?_
  intro W base args ds gs before hval0 hW hcnd _ _ _
  have hval : ∀ (j : Nat) t v, Tryd.f7.params[j]? = some t → args[j]? = some v → Value.okWide Tryd.prog W .any base t v := hval0
  have hW' := hW
  obtain ⟨p, q, hA0, hV, rfl, hfz, hnd⟩ := hW
  have hA : DataW.TrodAll enc Tryd.prog W 0 (fun _ => true) true Tryd.f7.params.toList args.toList ds p := hA0
  rw [Tryd.params7] at hA hval
  obtain ⟨v0, vs0, d0, ds0, p0, q0, hargs, rfl, rfl, h0, r0⟩ := trodAll_cons hA
  obtain ⟨rfl, rfl, rfl⟩ := trodAll_nil r0
  obtain rfl : args = #[v0] := by cases args; simp_all
  obtain ⟨gv, rfl⟩ : ∃ d, gs = [d] := by
    obtain ⟨_, _, _, _, d, _, e, _⟩ := trodVars_one hV
    exact ⟨d, e⟩
  have k0 := h0
  have lt0 : ∀ x ∈ p0, x.block < W.heap.size := by obtain ⟨m, hm⟩ := k0; exact DataW.trod_lt m _ _ _ hm
  obtain ⟨x0, F0, w0⟩ : ∃ x F, Rep.LogRecord.V W v0 x F := by
    obtain ⟨cs, rfl, _⟩ := okWide_struct Tryd.underlying43 (hval 0 _ v0 rfl rfl)
    obtain ⟨fuel, hf⟩ := h0
    obtain ⟨x, F, hR⟩ := opensLogRecord hf
    refine ⟨x, F, _, hR, ?_⟩
    obtain ⟨l⟩ := cs
    have hl : l.length = 14 := Rep.LogRecord.len hR
    exact (val_LogRecord l hl).symm
  clear hA0 hval0
  refine (FrameSize_walk W v0 x0 F0 w0).mono fun e W' ⟨he, hext⟩ => ?_
  have bel := hext.below
  subst he
  exact ⟨_, rfl, _, _, _, [], _, _, hW', trodAll_mk1 (shut_bool Tryd.underlying4 _), (trodAll_cons_mk (Below.trod laidOut_FrameSize (by kernel_rfl) (of_decide_eq_true (by kernel_rfl)) k0 bel lt0) trodAll_mk0), Below.trodVars laidOut_FrameSize bel (by kernel_rfl) hV, bel.frame _, fun h => by cases h⟩

theorem FrameSize_over : Rows.fnExactFrameSizeRow.holds Tryd.pinned (OpenSpec.ofChange Rows.fnExactFrameSizeSpec) :=
  OpenClaim.holds_of_wide 7 Tryd.f7 rfl rfl rfl rfl rfl rfl rfl ⟨rfl, rfl, rfl, rfl, rfl⟩ rfl rfl rfl rfl rfl (by kernel_rfl) Tryd.func7 (by kernel_rfl)
    (of_decide_eq_true (by kernel_rfl)) (by unfold Func.isWrapper; first | (rw [if_pos (by decide +kernel)]; kernel_rfl) | (rw [if_neg (by decide +kernel)]; exact ⟨rfl, rfl⟩))
    (fun os started H enc _ => FrameSize_lifted os started H enc)

theorem FrameSize_holds : Rows.FnExactFrameSizeCardSaid :=
  Claim7.holds_tied_plain_at .later [] [.sentinel] true (true, "1f0d8a5609eceda9f3756f3cf3a5460acabcc1a077d9b6eac06996624cc56248") false
    FrameSize_over (fun _ h => by cases h) (by kernel_rfl) (fun _ h => by cases h) fnExactFrameSize_row_tie rfl ⟨rfl, rfl⟩ (by kernel_rfl) rfl
    (fun f fn hf hfn => by
      obtain rfl : f = 7 := Option.some.inj ((show Tryd.prog.funcNamed "loop.example/s02544/laws.FnExactFrameSize" = some 7 by kernel_rfl).symm.trans hf) |>.symm
      obtain rfl : fn = Tryd.f7 := (Option.some.inj (Tryd.func7.symm.trans hfn)).symm
      exact ⟨by kernel_rfl, fun j t ht => by
        rw [Tryd.params7] at ht
        have hm : t ∈ [43] := by simpa using Array.mem_of_getElem? ht
        have hall : ([43].all fun u => !Tryd.prog.wantsStandIn u) = true := by kernel_rfl
        exact (show Tryd.prog.wantsStandIn t = false by simpa using List.all_eq_true.1 hall t hm)⟩)
    (by kernel_rfl)
#print axioms FrameSize_holds
end Go.Proofs.YtghgjddiheebeaaDoor
