/- The frame of a page, and what is done to it. -/
import Derived.Test.YtjjdainnofnmcaaPLc
namespace Go.Proofs.Ytjjdainnofnmcaa
open Go.RowKit
set_option linter.unusedSimpArgs false
set_option linter.unusedVariables false
theorem findPage_range : ∀ (xs : List DFrame) (page i : Int), findPage xs page i = -1 ∨ i ≤ findPage xs page i ∧ findPage xs page i < i + xs.length
  | [], _, _ => .inl rfl
  | f :: l, page, i => by
    simp only [findPage]
    split
    · exact .inr ⟨by omega, by simp; omega⟩
    · rcases findPage_range l page (i + 1) with h | ⟨h1, h2⟩
      · exact .inl h
      · exact .inr ⟨by omega, by simp; omega⟩
theorem poolFind_range (p : DPool) (page : Int) : poolFind p page = -1 ∨ 0 ≤ poolFind p page ∧ poolFind p page < p.Frames.length := by
  unfold poolFind
  split
  · exact .inl rfl
  · have := findPage_range p.Frames page 0
    omega
def poolMod (p : DPool) (page : Int) (g : DFrame → DFrame × Int) : DPoolResult :=
  if poolFault p ≠ 0 then codeRes 1
  else if h : 0 ≤ poolFind p page ∧ poolFind p page < p.Frames.length then
    (if (g p.Frames[(poolFind p page).toNat]).2 ≠ 0 then codeRes (g p.Frames[(poolFind p page).toNat]).2
     else ⟨0, poolFind p page, ⟨p.Frames.set (poolFind p page).toNat (g p.Frames[(poolFind p page).toNat]).1, p.Hand⟩⟩)
  else codeRes 2
def l7At (p : DPool) (page : Int) : Int × Int :=
  if poolFault p ≠ 0 then (0, 1) else if poolFind p page < 0 then (0, 2) else (poolFind p page, 0)
theorem l7At_calls (v : Value) (p : DPool) (F : List Nat) (page : Int) (w : World) (h : Rep.Pool.V w v p F) :
    Calls Try.prog 64 #[v, .int .i64 page] w fun e w' => e = .returned (.tuple #[.int .i64 (l7At p page).1, .int .i64 (l7At p page).2]) ∧ Ext w w' := by
  obtain ⟨_, ⟨A1, c1, F1, rfl, rfl, hw, s1⟩, rfl⟩ := id h
  have hu := Try.underlying29
  generalize hR : l7At p page = R
  have HR := Lib.hid hR
  clear hR
  show Calls _ _ #[.agg #[_, _], _] _ _
  go_enter Try.func64, Try.ntmps64
  go_wp2_with fail
  refine (specPoolFault_calls _ p _ _ ⟨_, ⟨A1, c1, _, rfl, rfl, hw, Rep.sl_ext s1 (alloc_ext _ _)⟩, rfl⟩).mono ?_
  rintro e w1 ⟨rfl, hO1⟩
  have HE1 := Lib.hid ((alloc_ext w _).ext hO1)
  have m1 := fun o => cell_of_row _ _ o _ _ _ (Only.heap hO1 (heap_alloc_new w _) (by simp))
  clear hO1
  by_cases h1 : poolFault p = 0
  rotate_left
  · have hb : (poolFault p != 0) = true := by simp [h1]
    obtain rfl : (0, 1) = R := by rw [← HR.out, l7At, if_pos h1]
    clear h1
    go_wp2
    refine bodyPost_ret (v := .tuple #[.int .i64 0, .int .i64 1]) (by simp [results, Try.results64, go_sem]) rfl ?_
    exact ⟨rfl, HE1.out⟩
  have hb : (poolFault p != 0) = false := by simp [h1]
  have HR2 := HR.out
  rw [l7At, if_neg (by simp [h1])] at HR2
  clear h1
  go_wp2_with fail
  refine (specPoolFind_calls _ p _ _ _ ⟨_, ⟨_, c1, _, rfl, rfl, hw, Rep.sl_ext s1 HE1.out⟩, rfl⟩).mono ?_
  rintro e w2 ⟨rfl, hO⟩
  by_cases h2 : poolFind p page < 0
  · rw [if_pos h2] at HR2
    subst HR2
    go_wp2
    refine bodyPost_ret (v := .tuple #[.int .i64 0, .int .i64 2]) (by simp [results, Try.results64, go_sem]) rfl ?_
    exact ⟨rfl, HE1.out.ext hO⟩
  · rw [if_neg h2] at HR2
    subst HR2
    go_wp2
    refine bodyPost_ret (v := .tuple #[.int .i64 (poolFind p page), .int .i64 0]) (by simp [results, Try.results64, go_sem]) rfl ?_
    exact ⟨rfl, HE1.out.ext hO⟩
end Go.Proofs.Ytjjdainnofnmcaa
