/- PoolPin, PoolUnpin: the reference's. -/
import Derived.Test.YtjjdainnofnmcaaPB
import Derived.Test.YtjjdainnofnmcaaPF
namespace Go.Proofs.Ytjjdainnofnmcaa
open Go.RowKit
set_option linter.unusedSimpArgs false
set_option linter.unusedVariables false
theorem specPoolPin_calls (w : World) (v : Value) (p : DPool) (F : List Nat) (h : Rep.Pool.V w v p F) (page : Int) (ep : (Lit.int .i64 page).wf = true) (hs2 : wtPool p ≤ 1048576) :
    Calls Try.prog 37 #[v, .int .i64 page] w fun e w' => ∃ v F, e = .returned v ∧ Rep.PoolResult.V w' v (poolMod p page gPin) F ∧ Ext w w' := by
  refine Calls.mono (R := NewPost Rep.PoolResult (poolMod p page gPin) w) ?_ (fun _ _ h => h.weak)
  obtain ⟨_, ⟨A1, c1, F1, rfl, rfl, hw, s1⟩, rfl⟩ := id h
  have hu := Try.underlying29
  have hu3 := Try.underlying40
  generalize hR : poolMod p page gPin = R
  have HR := Lib.hid hR
  clear hR
  show Calls _ _ #[.agg #[_, _], _] _ _
  go_enter Try.func37, Try.ntmps37
  go_wp2_with fail
  refine (l7Pins_pin _ _ p _ ⟨_, ⟨A1, c1, _, rfl, rfl, hw, Rep.sl_ext s1 ((alloc_ext _ _).alloc _)⟩, rfl⟩ page ep hs2).mono ?_
  rintro e w1 ⟨v1, F', rfl, hV, hN⟩
  rw [HR.out] at hV
  obtain ⟨_, ⟨B, d, _, rfl, rfl, hw1, q⟩, hv⟩ := hV
  replace hv : v1 = .agg #[_, _, _, _] := hv
  subst hv
  have HE1 := Lib.hid (Only.ext ((alloc_ext w _).alloc _) hN.ext)
  have hb2 := Only.heap hN.ext (heap_alloc2_new w _ _) (by simp)
  have m2 := fun o => cell_of_row _ _ o _ _ _ hb2
  have f2 := fun o => frozen_of_row _ _ o _ _ hb2
  have HN := Lib.hid hN
  clear hb2 hN
  go_wp2
  refine bodyPost_ret (v := .agg #[.int .i64 R.Code, .int .i64 R.Frame, .slice B R.Pool.Frames.length d, .int .i64 R.Pool.Hand]) (by simp [results, Try.results37, go_sem, m2]) rfl ?_
  exact passOn (n := w.heap.size + 1) HN.out q hw1 (by repeat (first | with_reducible exact Only.refl _ _ | ((with_reducible apply Only.set); · simp))) (by repeat (first | with_reducible exact HE1.out | ((with_reducible apply Only.set); · (simp; try omega)))) (by simp) (by simp; omega) (by omega)
theorem poolPin_ct (p : DPool) (page : Int) (h : wtPool p ≤ 1048576) : ctTopPoolResult (poolMod p page gPin) ≤ 1152921504606846976 := poolMod_ct p page _ (fun x => by unfold gPin; split <;> simp [wtFrame]) h
theorem specPoolUnpin_calls (w : World) (v : Value) (p : DPool) (F : List Nat) (h : Rep.Pool.V w v p F) (page : Int) (ep : (Lit.int .i64 page).wf = true) (hs2 : wtPool p ≤ 1048576) :
    Calls Try.prog 38 #[v, .int .i64 page] w fun e w' => ∃ v F, e = .returned v ∧ Rep.PoolResult.V w' v (poolMod p page gUnpin) F ∧ Ext w w' := by
  refine Calls.mono (R := NewPost Rep.PoolResult (poolMod p page gUnpin) w) ?_ (fun _ _ h => h.weak)
  obtain ⟨_, ⟨A1, c1, F1, rfl, rfl, hw, s1⟩, rfl⟩ := id h
  have hu := Try.underlying29
  have hu3 := Try.underlying40
  generalize hR : poolMod p page gUnpin = R
  have HR := Lib.hid hR
  clear hR
  show Calls _ _ #[.agg #[_, _], _] _ _
  go_enter Try.func38, Try.ntmps38
  go_wp2_with fail
  refine (l7Pins_unpin _ _ p _ ⟨_, ⟨A1, c1, _, rfl, rfl, hw, Rep.sl_ext s1 ((alloc_ext _ _).alloc _)⟩, rfl⟩ page ep hs2).mono ?_
  rintro e w1 ⟨v1, F', rfl, hV, hN⟩
  rw [HR.out] at hV
  obtain ⟨_, ⟨B, d, _, rfl, rfl, hw1, q⟩, hv⟩ := hV
  replace hv : v1 = .agg #[_, _, _, _] := hv
  subst hv
  have HE1 := Lib.hid (Only.ext ((alloc_ext w _).alloc _) hN.ext)
  have hb2 := Only.heap hN.ext (heap_alloc2_new w _ _) (by simp)
  have m2 := fun o => cell_of_row _ _ o _ _ _ hb2
  have f2 := fun o => frozen_of_row _ _ o _ _ hb2
  have HN := Lib.hid hN
  clear hb2 hN
  go_wp2
  refine bodyPost_ret (v := .agg #[.int .i64 R.Code, .int .i64 R.Frame, .slice B R.Pool.Frames.length d, .int .i64 R.Pool.Hand]) (by simp [results, Try.results38, go_sem, m2]) rfl ?_
  exact passOn (n := w.heap.size + 1) HN.out q hw1 (by repeat (first | with_reducible exact Only.refl _ _ | ((with_reducible apply Only.set); · simp))) (by repeat (first | with_reducible exact HE1.out | ((with_reducible apply Only.set); · (simp; try omega)))) (by simp) (by simp; omega) (by omega)
theorem poolUnpin_ct (p : DPool) (page : Int) (h : wtPool p ≤ 1048576) : ctTopPoolResult (poolMod p page gUnpin) ≤ 1152921504606846976 := poolMod_ct p page _ (fun x => by unfold gUnpin; split <;> simp [wtFrame]) h
end Go.Proofs.Ytjjdainnofnmcaa
