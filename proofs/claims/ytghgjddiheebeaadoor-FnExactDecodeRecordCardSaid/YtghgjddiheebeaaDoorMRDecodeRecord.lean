/- The statement of FnExactDecodeRecord: whatever the arguments that can be read as data, the call returns true, and each argument reads as it read. Conditions: none. -/
import Derived.Test.YtghgjddiheebeaaDoorRows
import Derived.Test.YtghgjddiheebeaaDoorMOT
import Derived.Test.YtghgjddiheebeaaDoorMLDecodeRecord
import Derived.WalkKit
import Derived.ProofKit
import Derived.OpenShut
import Derived.OpenVars
import Derived.ChangeVars
import Derived.ShutString
import Derived.ChangeOld
import Derived.Below
import Derived.Test.YtghgjddiheebeaaDoorCards
import Derived.Test.YtghgjddiheebeaaDoorTie
import Derived.SevenTiedAt
import Derived.LaidMore
import Derived.Handed
namespace Go.Proofs.YtghgjddiheebeaaDoor
open Go.ChangeShapes Go.WideShapes Go.ChangeAt Go.RowKit
open Go.ChangeMaps (open_string shut_string)
set_option linter.unusedVariables false
set_option linter.unusedSimpArgs false

theorem own_DecodeRecord : ownKnob Tryd.prog.godebug = none := by kernel_rfl
theorem laidOut_DecodeRecord : laidOutB Tryd.prog = true := by kernel_rfl

theorem DecodeRecord_door (os : Os) (args : Array Value) : laidMetH Tryd.prog Rows.fnExactDecodeRecordRow.laid ((World.doorLaid Tryd.prog 400 os).forCall (fun _ _ => 0) ⟨#[], args, []⟩).memory :=
  laidMetH_of_parts3 (fuel := 8) (laidMet_of_run' 8 (by kernel_rfl) (by kernel_rfl)) (by kernel_rfl) (by kernel_rfl)
set_option maxRecDepth 100000 in
set_option maxHeartbeats 4000000 in
theorem DecodeRecord_lifted (os : Os) (started : os.Started) (H : Type) (enc : TypeId × Value → H) :
    ReturnsInHanded {} Tryd.checked os 10 .any (fun w args => (Rows.fnExactDecodeRecordSpec.pre enc Tryd.prog Tryd.f10 Rows.fnExactDecodeRecordRow.domain false w args ∧ laidMetH Tryd.prog Rows.fnExactDecodeRecordRow.laid w) ∧ sizedMet enc Tryd.prog Tryd.f10 (OpenSpec.ofChange Rows.fnExactDecodeRecordSpec) false w args) (Rows.fnExactDecodeRecordSpec.post enc Tryd.prog Tryd.f10 false true false false) := by
  refine returnsInHanded_of_change_and (C := Tryd.checked) (X := fun w _ => laidMetH Tryd.prog Rows.fnExactDecodeRecordRow.laid w) (fun _ _ _ hh h => h.of_heap hh) own_DecodeRecord started (by kernel_rfl) Tryd.func10
    (ChangeSpec.witness_shaped (enc := enc) (C := Tryd.checked) (os := os) (X := fun w _ => laidMetH Tryd.prog Rows.fnExactDecodeRecordRow.laid w) false (World.doorLaid Tryd.prog 400 os) #[.slice none 0 0] 8 rfl (World.shaped_of_RefB (by kernel_rfl) (by kernel_rfl)) (by kernel_rfl) (by kernel_rfl) (by kernel_rfl) (DecodeRecord_door os _)) ?_
  intro W base args ds gs before hval0 hW hcnd _ _ _
  have hval : ∀ (j : Nat) t v, Tryd.f10.params[j]? = some t → args[j]? = some v → Value.okWide Tryd.prog W .any base t v := hval0
  have hW' := hW
  obtain ⟨p, q, hA0, hV, rfl, hfz, hnd⟩ := hW
  have hA : DataW.TrodAll enc Tryd.prog W 0 (fun _ => true) true Tryd.f10.params.toList args.toList ds p := hA0
  rw [Tryd.params10] at hA hval
  obtain ⟨v0, vs0, d0, ds0, p0, q0, hargs, rfl, rfl, h0, r0⟩ := trodAll_cons hA
  obtain ⟨rfl, rfl, rfl⟩ := trodAll_nil r0
  obtain rfl : args = #[v0] := by cases args; simp_all
  obtain ⟨gv, rfl⟩ : ∃ d, gs = [d] := by
    obtain ⟨_, _, _, _, d, _, e, _⟩ := trodVars_one hV
    exact ⟨d, e⟩
  have k0 := h0
  have lt0 : ∀ x ∈ p0, x.block < W.heap.size := by obtain ⟨m, hm⟩ := k0; exact DataW.trod_lt m _ _ _ hm
  obtain ⟨a0, len0, cap0, rfl⟩ := okWide_slice Tryd.underlying22 (hval 0 _ v0 rfl rfl)
  obtain ⟨x0, F0, rfl, w0⟩ : ∃ x F, len0 = x.length ∧ (Rep.int .u8).sl W a0 cap0 x F := by
    obtain ⟨fuel, hf⟩ := h0
    obtain ⟨x, F, A, c, hcs, hs⟩ := opensByteS hf
    simp [Value.cells] at hcs
    obtain ⟨rfl, rfl, rfl⟩ := hcs
    exact ⟨x, F, rfl, hs⟩
  clear hA0 hval0
  refine (DecodeRecord_walk W a0 cap0 x0 F0 w0).mono fun e W' ⟨he, hext⟩ => ?_
  have bel := hext.below
  subst he
  exact ⟨_, rfl, _, _, _, [], _, _, hW', trodAll_mk1 (shut_bool Tryd.underlying4 _), (trodAll_cons_mk (Below.trod laidOut_DecodeRecord (by kernel_rfl) (of_decide_eq_true (by kernel_rfl)) k0 bel lt0) trodAll_mk0), Below.trodVars laidOut_DecodeRecord bel (by kernel_rfl) hV, bel.frame _, fun h => by cases h⟩

theorem DecodeRecord_over : Rows.fnExactDecodeRecordRow.holds Tryd.pinned (OpenSpec.ofChange Rows.fnExactDecodeRecordSpec) :=
  OpenClaim.holds_of_wide 10 Tryd.f10 rfl rfl rfl rfl rfl rfl rfl ⟨rfl, rfl, rfl, rfl, rfl⟩ rfl rfl rfl rfl rfl (by kernel_rfl) Tryd.func10 (by kernel_rfl)
    (of_decide_eq_true (by kernel_rfl)) (by unfold Func.isWrapper; first | (rw [if_pos (by decide +kernel)]; kernel_rfl) | (rw [if_neg (by decide +kernel)]; exact ⟨rfl, rfl⟩))
    (fun os started H enc _ => DecodeRecord_lifted os started H enc)

theorem DecodeRecord_holds : Rows.FnExactDecodeRecordCardSaid :=
  Claim7.holds_tied_plain_at .later [] [.sentinel] true (true, "1f0d8a5609eceda9f3756f3cf3a5460acabcc1a077d9b6eac06996624cc56248") false
    DecodeRecord_over (fun _ h => by cases h) (by kernel_rfl) (fun _ h => by cases h) fnExactDecodeRecord_row_tie rfl ⟨rfl, rfl⟩ (by kernel_rfl) rfl
    (fun f fn hf hfn => by
      obtain rfl : f = 10 := Option.some.inj ((show Tryd.prog.funcNamed "loop.example/s02544/laws.FnExactDecodeRecord" = some 10 by kernel_rfl).symm.trans hf) |>.symm
      obtain rfl : fn = Tryd.f10 := (Option.some.inj (Tryd.func10.symm.trans hfn)).symm
      exact ⟨by kernel_rfl, fun j t ht => by
        rw [Tryd.params10] at ht
        have hm : t ∈ [22] := by simpa using Array.mem_of_getElem? ht
        have hall : ([22].all fun u => !Tryd.prog.wantsStandIn u) = true := by kernel_rfl
        exact (show Tryd.prog.wantsStandIn t = false by simpa using List.all_eq_true.1 hall t hm)⟩)
    (by kernel_rfl)
#print axioms DecodeRecord_holds
end Go.Proofs.YtghgjddiheebeaaDoor
