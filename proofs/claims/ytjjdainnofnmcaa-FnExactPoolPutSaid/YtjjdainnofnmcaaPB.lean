/- PoolPin, PoolUnpin: the program's. -/
import Derived.Test.YtjjdainnofnmcaaPA
import Derived.Test.YtjjdainnofnmcaaP6
namespace Go.Proofs.Ytjjdainnofnmcaa
open Go.RowKit
set_option linter.unusedSimpArgs false
set_option linter.unusedVariables false
theorem implPoolPin_new (w : World) (v : Value) (p : DPool) (F : List Nat) (h : Rep.Pool.V w v p F) (page : Int) (ep : (Lit.int .i64 page).wf = true) (hs2 : wtPool p ≤ 1048576) :
    Calls Try.prog 22 #[v, .int .i64 page] w (NewPost Rep.PoolResult (poolMod p page gPin) w) := by
  obtain ⟨_, ⟨A1, c1, F1, rfl, rfl, hw, s1⟩, rfl⟩ := id h
  have hu := Try.underlying29
  have hu3 := Try.underlying40
  generalize hR : poolMod p page gPin = R
  have HR := Lib.hid hR
  clear hR
  show Calls _ _ #[.agg #[_, _], _] _ _
  go_enter Try.func22, Try.ntmps22
  go_wp2_with fail
  refine (poolDo_calls 55 #[] gPin _ _ (enters_of Try.func55 (by kernel_rfl) rfl) (fPin_fn _) (Only.refl _ _) (fun x => by unfold gPin; split <;> rfl) _ p _ ⟨_, ⟨A1, c1, _, rfl, rfl, hw, Rep.sl_ext s1 ((alloc_ext _ _).alloc _)⟩, rfl⟩ page ep hs2).mono ?_
  rintro e w1 ⟨v1, F', rfl, hV, hN⟩
  rw [HR.out] at hV
  obtain ⟨_, ⟨B, d, _, rfl, rfl, hw1, q⟩, hv⟩ := hV
  replace hv : v1 = .agg #[_, _, _, _] := hv
  subst hv
  have HE1 := Lib.hid (Only.ext ((alloc_ext w _).alloc _) hN.ext)
  have hb2 := Only.heap hN.ext (heap_alloc2_new w _ _) (by simp)
  have m2 := fun o => cell_of_row _ _ o _ _ _ hb2
  have f2 := fun o => frozen_of_row _ _ o _ _ hb2
  have HN := Lib.hid hN
  clear hb2 hN
  go_wp2
  refine bodyPost_ret (v := .agg #[.int .i64 R.Code, .int .i64 R.Frame, .slice B R.Pool.Frames.length d, .int .i64 R.Pool.Hand]) (by simp [results, Try.results22, go_sem, m2]) rfl ?_
  exact passOn (n := w.heap.size + 1) HN.out q hw1 (by repeat (first | with_reducible exact Only.refl _ _ | ((with_reducible apply Only.set); · simp))) (by repeat (first | with_reducible exact HE1.out | ((with_reducible apply Only.set); · (simp; try omega)))) (by simp) (by simp; omega) (by omega)
theorem implPoolUnpin_new (w : World) (v : Value) (p : DPool) (F : List Nat) (h : Rep.Pool.V w v p F) (page : Int) (ep : (Lit.int .i64 page).wf = true) (hs2 : wtPool p ≤ 1048576) :
    Calls Try.prog 23 #[v, .int .i64 page] w (NewPost Rep.PoolResult (poolMod p page gUnpin) w) := by
  obtain ⟨_, ⟨A1, c1, F1, rfl, rfl, hw, s1⟩, rfl⟩ := id h
  have hu := Try.underlying29
  have hu3 := Try.underlying40
  generalize hR : poolMod p page gUnpin = R
  have HR := Lib.hid hR
  clear hR
  show Calls _ _ #[.agg #[_, _], _] _ _
  go_enter Try.func23, Try.ntmps23
  go_wp2_with fail
  refine (poolDo_calls 56 #[] gUnpin _ _ (enters_of Try.func56 (by kernel_rfl) rfl) (fUnpin_fn _) (Only.refl _ _) (fun x => by unfold gUnpin; split <;> rfl) _ p _ ⟨_, ⟨A1, c1, _, rfl, rfl, hw, Rep.sl_ext s1 ((alloc_ext _ _).alloc _)⟩, rfl⟩ page ep hs2).mono ?_
  rintro e w1 ⟨v1, F', rfl, hV, hN⟩
  rw [HR.out] at hV
  obtain ⟨_, ⟨B, d, _, rfl, rfl, hw1, q⟩, hv⟩ := hV
  replace hv : v1 = .agg #[_, _, _, _] := hv
  subst hv
  have HE1 := Lib.hid (Only.ext ((alloc_ext w _).alloc _) hN.ext)
  have hb2 := Only.heap hN.ext (heap_alloc2_new w _ _) (by simp)
  have m2 := fun o => cell_of_row _ _ o _ _ _ hb2
  have f2 := fun o => frozen_of_row _ _ o _ _ hb2
  have HN := Lib.hid hN
  clear hb2 hN
  go_wp2
  refine bodyPost_ret (v := .agg #[.int .i64 R.Code, .int .i64 R.Frame, .slice B R.Pool.Frames.length d, .int .i64 R.Pool.Hand]) (by simp [results, Try.results23, go_sem, m2]) rfl ?_
  exact passOn (n := w.heap.size + 1) HN.out q hw1 (by repeat (first | with_reducible exact Only.refl _ _ | ((with_reducible apply Only.set); · simp))) (by repeat (first | with_reducible exact HE1.out | ((with_reducible apply Only.set); · (simp; try omega)))) (by simp) (by simp; omega) (by omega)
end Go.Proofs.Ytjjdainnofnmcaa
