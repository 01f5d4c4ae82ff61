/- The statement of FnExactRedoPage: whatever the arguments that can be read as data, the call returns true, and each argument reads as it read. Conditions: none. -/
import Derived.Test.YtghgjddiheebeaaDoorRows
import Derived.Test.YtghgjddiheebeaaDoorOT
import Derived.Test.YtghgjddiheebeaaDoorLRedoPage
import Derived.WalkKit
import Derived.ProofKit
import Derived.OpenShut
import Derived.OpenVars
import Derived.ChangeVars
import Derived.ShutString
import Derived.ChangeOld
import Derived.Below
namespace Go.Proofs.YtghgjddiheebeaaDoor
open Go.ChangeShapes Go.WideShapes Go.ChangeAt Go.RowKit
open Go.ChangeMaps (open_string shut_string)
set_option linter.unusedVariables false
set_option linter.unusedSimpArgs false

theorem own_RedoPage : ownKnob Tryd.prog.godebug = none := by kernel_rfl
theorem laidOut_RedoPage : laidOutB Tryd.prog = true := by kernel_rfl

set_option maxRecDepth 100000 in
set_option maxHeartbeats 4000000 in
theorem RedoPage_lifted (os : Os) (started : os.Started) (H : Type) (enc : TypeId × Value → H) :
    ReturnsInHanded {} Tryd.checked os 9 .any (Rows.fnExactRedoPageSpec.pre6 enc Tryd.prog Tryd.f9 Rows.fnExactRedoPageRow.domain false) (Rows.fnExactRedoPageSpec.post enc Tryd.prog Tryd.f9 false true false false) := by
  refine returnsInHanded_of_change (C := Tryd.checked) own_RedoPage started (by kernel_rfl) Tryd.func9
    (ChangeSpec.witness6 (enc := enc) (C := Tryd.checked) false ⟨#[], #[.slice none 0 0, .int .i64 0, .slice none 0 0, .int .i64 0], []⟩ 8 (by kernel_rfl) (by kernel_rfl) (by kernel_rfl) (by kernel_rfl)) ?_
  intro W base args ds gs before hval0 hW hcnd _
  have hval : ∀ (j : Nat) t v, Tryd.f9.params[j]? = some t → args[j]? = some v → Value.okWide Tryd.prog W .any base t v := hval0
  have hW' := hW
  obtain ⟨p, q, hA0, hV, rfl, hfz, hnd⟩ := hW
  have hA : DataW.TrodAll enc Tryd.prog W 0 (fun _ => true) true Tryd.f9.params.toList args.toList ds p := hA0
  rw [Tryd.params9] at hA hval
  obtain ⟨v0, vs0, d0, ds0, p0, q0, hargs, rfl, rfl, h0, r0⟩ := trodAll_cons hA
  obtain ⟨v1, vs1, d1, ds1, p1, q1, rfl, rfl, rfl, h1, r1⟩ := trodAll_cons r0
  obtain ⟨v2, vs2, d2, ds2, p2, q2, rfl, rfl, rfl, h2, r2⟩ := trodAll_cons r1
  obtain ⟨v3, vs3, d3, ds3, p3, q3, rfl, rfl, rfl, h3, r3⟩ := trodAll_cons r2
  obtain ⟨rfl, rfl, rfl⟩ := trodAll_nil r3
  obtain rfl : args = #[v0, v1, v2, v3] := by cases args; simp_all
  obtain ⟨gv, rfl⟩ : ∃ d, gs = [d] := by
    obtain ⟨_, _, _, _, d, _, e, _⟩ := trodVars_one hV
    exact ⟨d, e⟩
  have k0 := h0
  have lt0 : ∀ x ∈ p0, x.block < W.heap.size := by obtain ⟨m, hm⟩ := k0; exact DataW.trod_lt m _ _ _ hm
  obtain ⟨a0, len0, cap0, rfl⟩ := okWide_slice Tryd.underlying22 (hval 0 _ v0 rfl rfl)
  obtain ⟨x0, F0, rfl, w0⟩ : ∃ x F, len0 = x.length ∧ (Rep.int .u8).sl W a0 cap0 x F := by
    obtain ⟨fuel, hf⟩ := h0
    obtain ⟨x, F, A, c, hcs, hs⟩ := opensByteS hf
    simp [Value.cells] at hcs
    obtain ⟨rfl, rfl, rfl⟩ := hcs
    exact ⟨x, F, rfl, hs⟩
  have k1 := h1
  have lt1 : ∀ x ∈ p1, x.block < W.heap.size := by obtain ⟨m, hm⟩ := k1; exact DataW.trod_lt m _ _ _ hm
  obtain ⟨x1, rfl, e1⟩ : ∃ x : Int, v1 = .int .i64 x ∧ (Lit.int .i64 x).wf = true := by
    obtain ⟨x, h, _, _, hw⟩ := open_int Tryd.underlying2 (hval 1 _ v1 rfl rfl) h1
    exact ⟨x, h, hw⟩
  have k2 := h2
  have lt2 : ∀ x ∈ p2, x.block < W.heap.size := by obtain ⟨m, hm⟩ := k2; exact DataW.trod_lt m _ _ _ hm
  obtain ⟨a2, len2, cap2, rfl⟩ := okWide_slice Tryd.underlying56 (hval 2 _ v2 rfl rfl)
  obtain ⟨x2, F2, rfl, w2⟩ : ∃ x F, len2 = x.length ∧ Rep.LogFrame.sl W a2 cap2 x F := by
    obtain ⟨fuel, hf⟩ := h2
    obtain ⟨x, F, A, c, hcs, hs⟩ := opensLogFrameS hf
    simp [Value.cells] at hcs
    obtain ⟨rfl, rfl, rfl⟩ := hcs
    exact ⟨x, F, rfl, hs⟩
  have k3 := h3
  have lt3 : ∀ x ∈ p3, x.block < W.heap.size := by obtain ⟨m, hm⟩ := k3; exact DataW.trod_lt m _ _ _ hm
  obtain ⟨x3, rfl, e3⟩ : ∃ x : Int, v3 = .int .i64 x ∧ (Lit.int .i64 x).wf = true := by
    obtain ⟨x, h, _, _, hw⟩ := open_int Tryd.underlying2 (hval 3 _ v3 rfl rfl) h3
    exact ⟨x, h, hw⟩
  clear hA0 hval0
  refine (RedoPage_walk W a0 cap0 x0 F0 w0 x1 e1 a2 cap2 x2 F2 w2 x3 e3).mono fun e W' ⟨he, hext⟩ => ?_
  have bel := hext.below
  subst he
  exact ⟨_, rfl, _, _, _, [], _, _, hW', trodAll_mk1 (shut_bool Tryd.underlying4 _), (trodAll_cons_mk (Below.trod laidOut_RedoPage (by kernel_rfl) (of_decide_eq_true (by kernel_rfl)) k0 bel lt0) (trodAll_cons_mk (Below.trod laidOut_RedoPage (by kernel_rfl) (of_decide_eq_true (by kernel_rfl)) k1 bel lt1) (trodAll_cons_mk (Below.trod laidOut_RedoPage (by kernel_rfl) (of_decide_eq_true (by kernel_rfl)) k2 bel lt2) (trodAll_cons_mk (Below.trod laidOut_RedoPage (by kernel_rfl) (of_decide_eq_true (by kernel_rfl)) k3 bel lt3) trodAll_mk0)))), Below.trodVars laidOut_RedoPage bel (by kernel_rfl) hV, bel.frame _, fun h => by cases h⟩

theorem RedoPage_over : Rows.fnExactRedoPageRow.holds Tryd.pinned (OpenSpec.ofChange Rows.fnExactRedoPageSpec) :=
  OpenClaim.holds_of_wide 9 Tryd.f9 rfl rfl rfl rfl rfl rfl rfl ⟨rfl, rfl, rfl, rfl, rfl⟩ rfl rfl rfl rfl rfl (by kernel_rfl) Tryd.func9 (by kernel_rfl)
    (of_decide_eq_true (by kernel_rfl)) (by unfold Func.isWrapper; first | (rw [if_pos (by decide +kernel)]; kernel_rfl) | (rw [if_neg (by decide +kernel)]; exact ⟨rfl, rfl⟩))
    (fun os started H enc _ => RedoPage_lifted os started H enc)

theorem RedoPage_holds : Rows.FnExactRedoPageSaid := RedoPage_over
#print axioms RedoPage_holds
end Go.Proofs.YtghgjddiheebeaaDoor
