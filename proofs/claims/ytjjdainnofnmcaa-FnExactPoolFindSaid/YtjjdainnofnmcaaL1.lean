/- FnExactPoolFind's walk. -/
import Derived.Test.YtjjdainnofnmcaaP2
import Derived.Deep.RegionHeld3
namespace Go.Proofs.Ytjjdainnofnmcaa
open Go.RowKit
set_option linter.unusedSimpArgs false
set_option linter.unusedVariables false

set_option maxRecDepth 100000 in
theorem PoolFind_walk (w : World) (v0 : Value) (p : DPool) (F0 : List Nat) (h0 : Rep.Pool.V w v0 p F0) (page : Int) (_ : (Lit.int .i64 page).wf = true) :
    Calls Try.prog 3 #[v0, .int .i64 page] w fun e w' => e = .returned (.bool true) ∧ Ext w w' := by
  obtain ⟨_, ⟨A1, c1, _, rfl, rfl, hw, s1⟩, rfl⟩ := id h0
  have hu := Try.underlying29
  have hu2 := Try.underlying24
  show Calls _ _ #[.agg #[_, _], _] _ _
  go_enter Try.func3, Try.ntmps3
  go_wp2_with fail
  refine (szPool_calls _ p _ _ _ ⟨_, ⟨A1, c1, _, rfl, rfl, hw, Rep.sl_ext s1 (alloc_ext _ _)⟩, rfl⟩ (by omega) (by omega)).mono ?_
  rintro e w1 ⟨⟨r, rfl, hr⟩, hO⟩
  have HB1 := Lib.hid hO
  have HE1 := Lib.hid ((alloc_ext w _).ext hO)
  obtain ⟨hc1, hf1⟩ := bcell hO
  have hz1 : w.heap.size < w1.heap.size := by have := hO.size; simp at this; omega
  clear hO
  rcases hr with rfl | ⟨hr0, hr1⟩
  · go_wp2
    go_ret
    exact ⟨rfl, HE1.out⟩
  have hwt : wtPool p ≤ 1048576 := by omega
  clear hr1
  go_wp2_with fail
  refine (toPool_calls _ p _ _ ⟨_, ⟨A1, c1, _, rfl, rfl, hw, Rep.sl_ext s1 HE1.out⟩, rfl⟩ hwt).mono ?_
  rintro e w2 ⟨v2, G2, rfl, hV2, hN2⟩
  have HE2 := Lib.hid (HE1.out.ext hN2.ext)
  have HB2 := Lib.hid (HB1.out.ext hN2.ext)
  obtain ⟨hc2, hf2⟩ := bcell hN2.ext
  have hz2 : w.heap.size < w2.heap.size := Nat.lt_of_lt_of_le hz1 hN2.ext.size
  clear hN2
  go_wp2_with fail
  refine (specPoolFind_calls _ p _ _ _ hV2).mono ?_
  rintro e w3 ⟨rfl, hO⟩
  have HE3 := Lib.hid (HE2.out.ext hO)
  have HB3 := Lib.hid (HB2.out.ext hO)
  obtain ⟨hc3, hf3⟩ := bcell hO
  have hz3 : w.heap.size < w3.heap.size := Nat.lt_of_lt_of_le hz2 hO.size
  clear hO hV2
  go_wp2_with fail
  refine (toPool_calls _ p _ _ ⟨_, ⟨A1, c1, _, rfl, rfl, hw, Rep.sl_ext s1 HE3.out⟩, rfl⟩ hwt).mono ?_
  rintro e w4 ⟨v4, G4, rfl, hV4, hN4⟩
  obtain ⟨_, ⟨B1, d1, _, rfl, rfl, hw4, t1⟩, hv4⟩ := hV4
  replace hv4 : v4 = .agg #[_, _] := hv4
  subst hv4
  have HE4 := Lib.hid (HE3.out.ext hN4.ext)
  have HB4 := Lib.hid (HB3.out.ext hN4.ext)
  obtain ⟨hc4, hf4⟩ := bcell hN4.ext
  have hz4 : w.heap.size < w4.heap.size := Nat.lt_of_lt_of_le hz3 hN4.ext.size
  have hL : ∀ o, (w4.alloc (.cells #[Value.slice B1 p.Frames.length d1, Value.int .i64 p.Hand] 29)).cell? ⟨w4.heap.size, o, none⟩ = #[Value.slice B1 p.Frames.length d1, Value.int .i64 p.Hand][o]? := fun o => cell_of_row _ _ _ _ _ _ (heap_alloc_new _ _)
  go_wp2_with fail
  refine (implPoolFind_calls _ p _ _ _ ⟨_, ⟨B1, d1, _, rfl, rfl, hw4, Rep.sl_ext t1 (alloc_ext _ _)⟩, rfl⟩).mono ?_
  rintro e w5 ⟨rfl, hO⟩
  have HE5 := Lib.hid (HE4.out.ext ((alloc_ext _ _).ext hO))
  have HB5 := Lib.hid (HB4.out.ext ((alloc_ext _ _).ext hO))
  obtain ⟨hc5, hf5⟩ := bcell hO
  have T5 := Lib.hid (Rep.sl_ext t1 ((alloc_ext _ _).ext hO))
  have hz5 : w4.heap.size < w5.heap.size := by have := hO.size; simp at this; omega
  clear hO t1 
  go_wp2_with fail
  have hB5 := HB5.out
  have k0 : w5.cell? ⟨w.heap.size, 0, none⟩ = some (.slice A1 p.Frames.length c1) := alloc_cell hB5 0
  have k1 : w5.cell? ⟨w.heap.size, 1, none⟩ = some (.int .i64 p.Hand) := alloc_cell hB5 1
  clear hB5
  have m0 : w5.cell? ⟨w4.heap.size, 0, none⟩ = some (.slice B1 p.Frames.length d1) := by simp [hc5]
  have m1 : w5.cell? ⟨w4.heap.size, 1, none⟩ = some (.int .i64 p.Hand) := by simp [hc5]
  have T1 := Rep.sl_ext T5.out (Only.refl [] _).drew
  have S1 := Rep.sl_ext s1 (HE5.out.drew)
  clear hc1 hc2 hc3 hc4 hc5 hf1 hf2 hf3 hf4 hf5 hL
  go_region_held3 (fun w' => w'.cell? ⟨w.heap.size, 0, none⟩ = some (.slice A1 p.Frames.length c1) ∧ w'.cell? ⟨w.heap.size, 1, none⟩ = some (.int .i64 p.Hand) ∧ w'.cell? ⟨w4.heap.size, 0, none⟩ = some (.slice B1 p.Frames.length d1) ∧ w'.cell? ⟨w4.heap.size, 1, none⟩ = some (.int .i64 p.Hand))
    (first | go_keep | exact ⟨hN6.ext.ecell k0, hN6.ext.ecell k1, hN6.ext.ecell m0, hN6.ext.ecell m1⟩ | (go_split_ands; exact ⟨hO7.ecell (by assumption), hO7.ecell (by assumption), hO7.ecell (by assumption), hO7.ecell (by assumption)⟩))
    (first
      | (go_at_call 13; refine (toPool_calls _ p _ _ ⟨_, ⟨A1, c1, _, rfl, rfl, hw, S1⟩, rfl⟩ hwt).mono ?_; rintro e w6 ⟨v6, G6, rfl, hV6, hN6⟩)
      | (go_at_call 15; refine (eqPool_calls _ p _ _ p _ _ ⟨_, ⟨B1, d1, _, rfl, rfl, hw4, Rep.sl_ext T1 hN6.ext⟩, rfl⟩ hV6).mono ?_; rintro e w7 ⟨rfl, hO7⟩))
  go_wp2
  go_ret
  exact ⟨rfl, HE5.out.drew.ext (hN6.ext.ext hO7)⟩
end Go.Proofs.Ytjjdainnofnmcaa
