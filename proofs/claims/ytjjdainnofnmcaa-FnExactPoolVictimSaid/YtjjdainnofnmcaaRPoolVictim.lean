/- The statement of FnExactPoolVictim: whatever the arguments that can be read as data, the call returns true, and each argument reads as it read. Conditions: none. -/
import Derived.Test.YtjjdainnofnmcaaRows
import Derived.Test.YtjjdainnofnmcaaOT
import Derived.Test.YtjjdainnofnmcaaLPoolVictim
import Derived.WalkKit
import Derived.ProofKit
import Derived.OpenShut
import Derived.ShutString
import Derived.ChangeOld
import Derived.Below
namespace Go.Proofs.Ytjjdainnofnmcaa
open Go.ChangeShapes Go.WideShapes Go.ChangeAt Go.RowKit
open Go.ChangeMaps (open_string shut_string)
set_option linter.unusedVariables false
set_option linter.unusedSimpArgs false

theorem own_PoolVictim : ownKnob Try.prog.godebug = none := by kernel_rfl
theorem laidOut_PoolVictim : laidOutB Try.prog = true := by kernel_rfl

set_option maxRecDepth 100000 in
set_option maxHeartbeats 4000000 in
theorem PoolVictim_lifted (os : Os) (started : os.Started) (H : Type) (enc : TypeId × Value → H) :
    ReturnsInHanded {} Try.checked os 6 .any (Rows.fnExactPoolVictimSpec.pre6 enc Try.prog Try.f6 Rows.fnExactPoolVictimRow.domain false) (Rows.fnExactPoolVictimSpec.post enc Try.prog Try.f6 false true false false) := by
  refine returnsInHanded_of_change (C := Try.checked) own_PoolVictim started (by kernel_rfl) Try.func6
    (ChangeSpec.witness6 (enc := enc) (C := Try.checked) false ⟨#[], #[.agg #[.slice none 0 0, .int .i64 0]], []⟩ 8 (by kernel_rfl) (by kernel_rfl) (by kernel_rfl) (by kernel_rfl)) ?_
  intro W base args ds gs before hval0 hW hcnd _
  have hval : ∀ (j : Nat) t v, Try.f6.params[j]? = some t → args[j]? = some v → Value.okWide Try.prog W .any base t v := hval0
  have hW' := hW
  obtain ⟨p, q, hA0, hV, rfl, hfz, hnd⟩ := hW
  have hA : DataW.TrodAll enc Try.prog W 0 (fun _ => true) true Try.f6.params.toList args.toList ds p := hA0
  rw [Try.params6] at hA hval
  obtain ⟨v0, vs0, d0, ds0, p0, q0, hargs, rfl, rfl, h0, r0⟩ := trodAll_cons hA
  obtain ⟨rfl, rfl, rfl⟩ := trodAll_nil r0
  obtain rfl : args = #[v0] := by cases args; simp_all
  obtain ⟨rfl, rfl⟩ := trodVars_none hV
  have k0 := h0
  have lt0 : ∀ x ∈ p0, x.block < W.heap.size := by obtain ⟨m, hm⟩ := k0; exact DataW.trod_lt m _ _ _ hm
  obtain ⟨x0, F0, w0⟩ : ∃ x F, Rep.Pool.V W v0 x F := by
    obtain ⟨cs, rfl, _⟩ := okWide_struct Try.underlying24 (hval 0 _ v0 rfl rfl)
    obtain ⟨fuel, hf⟩ := h0
    obtain ⟨x, F, hR⟩ := opensPool hf
    refine ⟨x, F, _, hR, ?_⟩
    obtain ⟨l⟩ := cs
    have hl : l.length = 2 := Rep.Pool.len hR
    exact (val_Pool l hl).symm
  clear hA0 hval0
  refine (PoolVictim_walk W v0 x0 F0 w0).mono fun e W' ⟨he, hext⟩ => ?_
  have bel := hext.below
  subst he
  exact ⟨_, rfl, _, _, _, [], _, [], hW', trodAll_mk1 (shut_bool Try.underlying4 _), (trodAll_cons_mk (Below.trod laidOut_PoolVictim (by kernel_rfl) (of_decide_eq_true (by kernel_rfl)) k0 bel lt0) trodAll_mk0), rfl, bel.frame _, fun h => by cases h⟩

theorem PoolVictim_over : Rows.fnExactPoolVictimRow.holds Try.pinned (OpenSpec.ofChange Rows.fnExactPoolVictimSpec) :=
  OpenClaim.holds_of_wide 6 Try.f6 rfl rfl rfl rfl rfl rfl rfl ⟨rfl, rfl, rfl, rfl, rfl⟩ rfl rfl rfl rfl rfl (by kernel_rfl) Try.func6 (by kernel_rfl)
    (of_decide_eq_true (by kernel_rfl)) (by unfold Func.isWrapper; first | (rw [if_pos (by decide +kernel)]; kernel_rfl) | (rw [if_neg (by decide +kernel)]; exact ⟨rfl, rfl⟩))
    (fun os started H enc _ => PoolVictim_lifted os started H enc)

theorem PoolVictim_holds : Rows.FnExactPoolVictimSaid := PoolVictim_over
#print axioms PoolVictim_holds
end Go.Proofs.Ytjjdainnofnmcaa
