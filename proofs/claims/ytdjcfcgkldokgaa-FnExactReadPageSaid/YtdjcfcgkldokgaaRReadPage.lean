/- The statement of FnExactReadPage: whatever the arguments that can be read as data, the call returns true, and each argument reads as it read. Conditions: none. -/
import Derived.Test.YtdjcfcgkldokgaaRows
import Derived.Test.YtdjcfcgkldokgaaOT
import Derived.Test.YtdjcfcgkldokgaaLReadPage
import Derived.WalkKit
import Derived.ProofKit
import Derived.OpenShut
import Derived.ShutString
import Derived.ChangeOld
import Derived.Below
namespace Go.Proofs.Ytdjcfcgkldokgaa
open Go.ChangeShapes Go.WideShapes Go.ChangeAt Go.RowKit
open Go.ChangeMaps (open_string shut_string)
set_option linter.unusedVariables false
set_option linter.unusedSimpArgs false

theorem own_ReadPage : ownKnob Try.prog.godebug = none := by kernel_rfl
theorem laidOut_ReadPage : laidOutB Try.prog = true := by kernel_rfl

set_option maxRecDepth 100000 in
set_option maxHeartbeats 4000000 in
theorem ReadPage_lifted (os : Os) (started : os.Started) (H : Type) (enc : TypeId × Value → H) :
    ReturnsInHanded {} Try.checked os 9 .any (Rows.fnExactReadPageSpec.pre6 enc Try.prog Try.f9 Rows.fnExactReadPageRow.domain false) (Rows.fnExactReadPageSpec.post enc Try.prog Try.f9 false true false false) := by
  refine returnsInHanded_of_change (C := Try.checked) own_ReadPage started (by kernel_rfl) Try.func9
    (ChangeSpec.witness6 (enc := enc) (C := Try.checked) false ⟨#[], #[.agg #[.slice none 0 0, .slice none 0 0], .agg #[.int .i64 0, .int .i64 0, .int .i64 0], .int .i64 0], []⟩ 8 (by kernel_rfl) (by kernel_rfl) (by kernel_rfl) (by kernel_rfl)) ?_
  intro W base args ds gs before hval0 hW hcnd _
  have hval : ∀ (j : Nat) t v, Try.f9.params[j]? = some t → args[j]? = some v → Value.okWide Try.prog W .any base t v := hval0
  have hW' := hW
  obtain ⟨p, q, hA0, hV, rfl, hfz, hnd⟩ := hW
  have hA : DataW.TrodAll enc Try.prog W 0 (fun _ => true) true Try.f9.params.toList args.toList ds p := hA0
  rw [Try.params9] at hA hval
  obtain ⟨v0, vs0, d0, ds0, p0, q0, hargs, rfl, rfl, h0, r0⟩ := trodAll_cons hA
  obtain ⟨v1, vs1, d1, ds1, p1, q1, rfl, rfl, rfl, h1, r1⟩ := trodAll_cons r0
  obtain ⟨v2, vs2, d2, ds2, p2, q2, rfl, rfl, rfl, h2, r2⟩ := trodAll_cons r1
  obtain ⟨rfl, rfl, rfl⟩ := trodAll_nil r2
  obtain rfl : args = #[v0, v1, v2] := by cases args; simp_all
  obtain ⟨rfl, rfl⟩ := trodVars_none hV
  have k0 := h0
  have lt0 : ∀ x ∈ p0, x.block < W.heap.size := by obtain ⟨m, hm⟩ := k0; exact DataW.trod_lt m _ _ _ hm
  obtain ⟨x0, F0, w0⟩ : ∃ x F, Rep.Disk.V W v0 x F := by
    obtain ⟨cs, rfl, _⟩ := okWide_struct Try.underlying25 (hval 0 _ v0 rfl rfl)
    obtain ⟨fuel, hf⟩ := h0
    obtain ⟨x, F, hR⟩ := opensDisk hf
    refine ⟨x, F, _, hR, ?_⟩
    obtain ⟨l⟩ := cs
    have hl : l.length = 2 := Rep.Disk.len hR
    exact (val_Disk l hl).symm
  have k1 := h1
  have lt1 : ∀ x ∈ p1, x.block < W.heap.size := by obtain ⟨m, hm⟩ := k1; exact DataW.trod_lt m _ _ _ hm
  obtain ⟨x1, F1, w1⟩ : ∃ x F, Rep.Geometry.V W v1 x F := by
    obtain ⟨cs, rfl, _⟩ := okWide_struct Try.underlying73 (hval 1 _ v1 rfl rfl)
    obtain ⟨fuel, hf⟩ := h1
    obtain ⟨x, F, hR⟩ := opensGeometry hf
    refine ⟨x, F, _, hR, ?_⟩
    obtain ⟨l⟩ := cs
    have hl : l.length = 3 := Rep.Geometry.len hR
    exact (val_Geometry l hl).symm
  have k2 := h2
  have lt2 : ∀ x ∈ p2, x.block < W.heap.size := by obtain ⟨m, hm⟩ := k2; exact DataW.trod_lt m _ _ _ hm
  obtain ⟨x2, rfl, e2⟩ : ∃ x : Int, v2 = .int .i64 x ∧ (Lit.int .i64 x).wf = true := by
    obtain ⟨x, h, _, _, hw⟩ := open_int Try.underlying2 (hval 2 _ v2 rfl rfl) h2
    exact ⟨x, h, hw⟩
  clear hA0 hval0
  refine (ReadPage_walk W v0 x0 F0 w0 v1 x1 F1 w1 x2 e2).mono fun e W' ⟨he, hext⟩ => ?_
  have bel := hext.below
  subst he
  exact ⟨_, rfl, _, _, _, [], _, [], hW', trodAll_mk1 (shut_bool Try.underlying4 _), (trodAll_cons_mk (Below.trod laidOut_ReadPage (by kernel_rfl) (of_decide_eq_true (by kernel_rfl)) k0 bel lt0) (trodAll_cons_mk (Below.trod laidOut_ReadPage (by kernel_rfl) (of_decide_eq_true (by kernel_rfl)) k1 bel lt1) (trodAll_cons_mk (Below.trod laidOut_ReadPage (by kernel_rfl) (of_decide_eq_true (by kernel_rfl)) k2 bel lt2) trodAll_mk0))), rfl, bel.frame _, fun h => by cases h⟩

theorem ReadPage_over : Rows.fnExactReadPageRow.holds Try.pinned (OpenSpec.ofChange Rows.fnExactReadPageSpec) :=
  OpenClaim.holds_of_wide 9 Try.f9 rfl rfl rfl rfl rfl rfl rfl ⟨rfl, rfl, rfl, rfl, rfl⟩ rfl rfl rfl rfl rfl (by kernel_rfl) Try.func9 (by kernel_rfl)
    (of_decide_eq_true (by kernel_rfl)) (by unfold Func.isWrapper; first | (rw [if_pos (by decide +kernel)]; kernel_rfl) | (rw [if_neg (by decide +kernel)]; exact ⟨rfl, rfl⟩))
    (fun os started H enc _ => ReadPage_lifted os started H enc)

theorem ReadPage_holds : Rows.FnExactReadPageSaid := ReadPage_over
#print axioms ReadPage_holds
end Go.Proofs.Ytdjcfcgkldokgaa
