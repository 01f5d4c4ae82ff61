/- The statement of FnExactDiskCrash: whatever the arguments that can be read as data, the call returns true, and each argument reads as it read. Conditions: none. -/
import Derived.Test.YtdjcfcgkldokgaaRows
import Derived.Test.YtdjcfcgkldokgaaOT
import Derived.Test.YtdjcfcgkldokgaaLDiskCrash
import Derived.WalkKit
import Derived.ProofKit
import Derived.OpenShut
import Derived.ShutString
import Derived.ChangeOld
import Derived.Below
namespace Go.Proofs.Ytdjcfcgkldokgaa
open Go.ChangeShapes Go.WideShapes Go.ChangeAt Go.RowKit
open Go.ChangeMaps (open_string shut_string)
set_option linter.unusedVariables false
set_option linter.unusedSimpArgs false

theorem own_DiskCrash : ownKnob Try.prog.godebug = none := by kernel_rfl
theorem laidOut_DiskCrash : laidOutB Try.prog = true := by kernel_rfl

set_option maxRecDepth 100000 in
set_option maxHeartbeats 4000000 in
theorem DiskCrash_lifted (os : Os) (started : os.Started) (H : Type) (enc : TypeId × Value → H) :
    ReturnsInHanded {} Try.checked os 5 .any (Rows.fnExactDiskCrashSpec.pre6 enc Try.prog Try.f5 Rows.fnExactDiskCrashRow.domain false) (Rows.fnExactDiskCrashSpec.post enc Try.prog Try.f5 false true false false) := by
  refine returnsInHanded_of_change (C := Try.checked) own_DiskCrash started (by kernel_rfl) Try.func5
    (ChangeSpec.witness6 (enc := enc) (C := Try.checked) false ⟨#[], #[.agg #[.slice none 0 0, .slice none 0 0], .slice none 0 0], []⟩ 8 (by kernel_rfl) (by kernel_rfl) (by kernel_rfl) (by kernel_rfl)) ?_
  intro W base args ds gs before hval0 hW hcnd _
  have hval : ∀ (j : Nat) t v, Try.f5.params[j]? = some t → args[j]? = some v → Value.okWide Try.prog W .any base t v := hval0
  have hW' := hW
  obtain ⟨p, q, hA0, hV, rfl, hfz, hnd⟩ := hW
  have hA : DataW.TrodAll enc Try.prog W 0 (fun _ => true) true Try.f5.params.toList args.toList ds p := hA0
  rw [Try.params5] at hA hval
  obtain ⟨v0, vs0, d0, ds0, p0, q0, hargs, rfl, rfl, h0, r0⟩ := trodAll_cons hA
  obtain ⟨v1, vs1, d1, ds1, p1, q1, rfl, rfl, rfl, h1, r1⟩ := trodAll_cons r0
  obtain ⟨rfl, rfl, rfl⟩ := trodAll_nil r1
  obtain rfl : args = #[v0, v1] := by cases args; simp_all
  obtain ⟨rfl, rfl⟩ := trodVars_none hV
  have k0 := h0
  have lt0 : ∀ x ∈ p0, x.block < W.heap.size := by obtain ⟨m, hm⟩ := k0; exact DataW.trod_lt m _ _ _ hm
  obtain ⟨x0, F0, w0⟩ : ∃ x F, Rep.Disk.V W v0 x F := by
    obtain ⟨cs, rfl, _⟩ := okWide_struct Try.underlying25 (hval 0 _ v0 rfl rfl)
    obtain ⟨fuel, hf⟩ := h0
    obtain ⟨x, F, hR⟩ := opensDisk hf
    refine ⟨x, F, _, hR, ?_⟩
    obtain ⟨l⟩ := cs
    have hl : l.length = 2 := Rep.Disk.len hR
    exact (val_Disk l hl).symm
  have k1 := h1
  have lt1 : ∀ x ∈ p1, x.block < W.heap.size := by obtain ⟨m, hm⟩ := k1; exact DataW.trod_lt m _ _ _ hm
  obtain ⟨a1, len1, cap1, rfl⟩ := okWide_slice Try.underlying40 (hval 1 _ v1 rfl rfl)
  obtain ⟨x1, F1, rfl, w1⟩ : ∃ x F, len1 = x.length ∧ (Rep.int .i64).sl W a1 cap1 x F := by
    obtain ⟨fuel, hf⟩ := h1
    obtain ⟨x, F, A, c, hcs, hs⟩ := opensInt64S hf
    simp [Value.cells] at hcs
    obtain ⟨rfl, rfl, rfl⟩ := hcs
    exact ⟨x, F, rfl, hs⟩
  clear hA0 hval0
  refine (DiskCrash_walk W v0 x0 F0 w0 a1 cap1 x1 F1 w1).mono fun e W' ⟨he, hext⟩ => ?_
  have bel := hext.below
  subst he
  exact ⟨_, rfl, _, _, _, [], _, [], hW', trodAll_mk1 (shut_bool Try.underlying4 _), (trodAll_cons_mk (Below.trod laidOut_DiskCrash (by kernel_rfl) (of_decide_eq_true (by kernel_rfl)) k0 bel lt0) (trodAll_cons_mk (Below.trod laidOut_DiskCrash (by kernel_rfl) (of_decide_eq_true (by kernel_rfl)) k1 bel lt1) trodAll_mk0)), rfl, bel.frame _, fun h => by cases h⟩

theorem DiskCrash_over : Rows.fnExactDiskCrashRow.holds Try.pinned (OpenSpec.ofChange Rows.fnExactDiskCrashSpec) :=
  OpenClaim.holds_of_wide 5 Try.f5 rfl rfl rfl rfl rfl rfl rfl ⟨rfl, rfl, rfl, rfl, rfl⟩ rfl rfl rfl rfl rfl (by kernel_rfl) Try.func5 (by kernel_rfl)
    (of_decide_eq_true (by kernel_rfl)) (by unfold Func.isWrapper; first | (rw [if_pos (by decide +kernel)]; kernel_rfl) | (rw [if_neg (by decide +kernel)]; exact ⟨rfl, rfl⟩))
    (fun os started H enc _ => DiskCrash_lifted os started H enc)

theorem DiskCrash_holds : Rows.FnExactDiskCrashSaid := DiskCrash_over
#print axioms DiskCrash_holds
end Go.Proofs.Ytdjcfcgkldokgaa
