/- Which frame holds a page. -/
import Derived.Test.YtjjdainnofnmcaaP1
namespace Go.Proofs.Ytjjdainnofnmcaa
open Go.RowKit
set_option linter.unusedSimpArgs false
set_option linter.unusedVariables false

def findPage : List DFrame → Int → Int → Int
  | [], _, _ => -1
  | f :: l, page, i => if f.Page = page then i else findPage l page (i + 1)
theorem findPage_at : ∀ (xs : List DFrame) (page i : Int) (j : Nat) (hj : j < xs.length), (∀ k (hk : k < xs.length), k < j → ¬ xs[k].Page = page) → xs[j].Page = page → findPage xs page i = i + j
  | f :: l, page, i, 0, _, _, h => by simp [findPage]; intro h'; exact absurd h h'
  | f :: l, page, i, j + 1, hj, hn, h => by
    simp only [findPage]
    have h0 : ¬ f.Page = page := hn 0 (by simp) (by omega)
    rw [if_neg h0, findPage_at l page (i + 1) j (by simpa using hj) (fun k hk hkj => hn (k + 1) (by simpa using hk) (by omega)) h]
    omega
theorem findPage_none : ∀ (xs : List DFrame) (page i : Int), (∀ k (hk : k < xs.length), ¬ xs[k].Page = page) → findPage xs page i = -1
  | [], _, _, _ => rfl
  | f :: l, page, i, hn => by
    simp only [findPage]
    have h0 : ¬ f.Page = page := hn 0 (by simp)
    rw [if_neg h0, findPage_none l page (i + 1) (fun k hk => hn (k + 1) (by simpa using hk))]
def poolFind (p : DPool) (page : Int) : Int := if poolFault p ≠ 0 ∨ page = -1 then -1 else findPage p.Frames page 0
def findIf (l : List DFrame) (page : Int) : Int := if 0 ≤ page then findPage l page 0 else -1

theorem find_calls (n : Nat) (A : Option Addr) (c : Nat) (xs : List DFrame) (F : List Nat) (page : Int) (w : World) (hc : w.cell? ⟨n, 0, none⟩ = some (.slice A xs.length c)) (h : Rep.Frame.sl w A c xs F) :
    Calls Try.prog 43 #[.pointer (some ⟨n, 0, none⟩), .int .i64 page] w fun e w' => e = .returned (.int .i64 (findIf xs page)) ∧ Ext w w' := by
  have hu := Try.underlying29
  have hu2 := Try.underlying43
  have hm := Nat.le_trans h.1 h.2.1
  unfold maxLen at hm
  generalize hR : findIf xs page = R
  have HR := Lib.hid hR
  clear hR
  go_enter Try.func43, Try.ntmps43
  go_wp2
  go_loopg [12] (xs.length) (fun m i wr => ∃ j : Nat, m + j = xs.length ∧ i = .int .i64 j ∧ Ext w wr ∧ Hid (0 ≤ page → ∀ k (hk : k < xs.length), k < j → ¬ xs[k].Page = page))
  case atStart => exact ⟨0, by simp, rfl, Only.refl _ _, fun _ k _ h => by omega⟩
  case round =>
    obtain ⟨j, hj, rfl, hO, HT⟩ := hrel
    have HO := Lib.hid hO; have HJ := Lib.hid hj
    clear hO hj
    by_cases hlt : j < xs.length
    · obtain ⟨g, off, B1, d1, G1, rfl, hg, -, -, k0, k1, k2, k3, k4, k5⟩ := sl_Frame (Rep.sl_ext h HO.out) j hlt
      clear h
      generalize hx : xs[j] = x at *
      have HX := Lib.hid hx
      clear hx
      have hcases : ((x.Page == page) = true ∧ Hid (x.Page = page)) ∨ ((x.Page == page) = false ∧ Hid (¬ x.Page = page)) := by
        by_cases h : x.Page = page
        · exact .inl ⟨by simp [h], h⟩
        · exact .inr ⟨by simp [h], h⟩
      by_cases hp : 0 ≤ page
      · rcases hcases with ⟨hb, HB⟩ | ⟨hb, HB⟩
        · go_wp2
          go_ret
          refine ⟨ret_int ?_, HO.out.alloc _⟩
          rw [← HR.out, findIf, if_pos hp, findPage_at xs page 0 j hlt (fun k hk hkj => HT.out hp k hk hkj) (by rw [HX.out]; exact HB.out)]
          omega
        · go_wp2
          go_roundg (xs.length - (j + 1))
          case measure => have := HJ.out; omega
          case rel =>
            refine ⟨j + 1, by omega, by go_num, HO.out.alloc _, fun _ k hk hkj => ?_⟩
            by_cases e : k = j
            · subst e; rw [HX.out]; exact HB.out
            · exact HT.out hp k hk (by omega)
      · have hp2 : decide (0 ≤ page) = false := by simpa using hp
        rcases hcases with ⟨hb, HB⟩ | ⟨hb, HB⟩
        all_goals
          go_wp2
          go_roundg (xs.length - (j + 1))
          case measure => have := HJ.out; omega
          case rel => exact ⟨j + 1, by omega, by go_num, HO.out.alloc _, fun h => by omega⟩
    · go_wp2
      go_ret
      refine ⟨ret_int ?_, HO.out⟩
      rw [← HR.out, findIf]
      split
      · rename_i hp
        rw [findPage_none xs page 0 fun k hk => HT.out hp k hk (by have := HJ.out; omega)]
      · rfl

theorem findIf_pages {xs : List DFrame} {page : Int} (h : xs.any frame3 = false) (hp : ¬ page = -1) : findIf xs page = findPage xs page 0 := by
  unfold findIf
  split
  · rfl
  · rename_i h0
    rw [findPage_none]
    intro k hk e
    have := frame3_page (f := xs[k]) (by have := List.any_eq_false.1 h xs[k] (List.getElem_mem hk); simpa using this)
    omega
theorem poolFault_zero {p : DPool} (h : poolFault p = 0) : 1 ≤ p.Frames.length ∧ p.Frames.length ≤ 16 ∧ 0 ≤ p.Hand ∧ p.Hand < p.Frames.length ∧ p.Frames.any frame3 = false ∧ p.Frames.any frame4 = false ∧ frames5 p.Frames = false := by
  unfold poolFault at h
  by_cases h1 : p.Frames.length < 1 ∨ 16 < p.Frames.length
  · rw [if_pos h1] at h; omega
  rw [if_neg h1] at h
  by_cases h2 : p.Hand < 0 ∨ (p.Frames.length : Int) ≤ p.Hand
  · rw [if_pos h2] at h; omega
  rw [if_neg h2] at h
  cases h3 : p.Frames.any frame3
  · cases h4 : p.Frames.any frame4
    · cases h5 : frames5 p.Frames
      · exact ⟨by omega, by omega, by omega, by omega, rfl, rfl, rfl⟩
      · simp [h3, h4, h5] at h
    · simp [h3, h4] at h
  · simp [h3] at h
theorem findIf_find (p : DPool) (page : Int) (h : poolFault p = 0) : findIf p.Frames page = poolFind p page := by
  unfold poolFind
  obtain ⟨-, -, -, -, h3, -⟩ := poolFault_zero h
  by_cases hp : page = -1
  · rw [if_pos (.inr hp), findIf, if_neg (by omega)]
  · rw [if_neg (by simp [h, hp]), findIf_pages h3 hp]

theorem implPoolFind_calls (v : Value) (p : DPool) (F : List Nat) (page : Int) (w : World) (h : Rep.Pool.V w v p F) :
    Calls Try.prog 14 #[v, .int .i64 page] w fun e w' => e = .returned (.int .i64 (poolFind p page)) ∧ Ext w w' := by
  obtain ⟨_, ⟨A1, c1, F1, rfl, rfl, hw, s1⟩, rfl⟩ := id h
  have hu := Try.underlying29
  show Calls _ _ #[.agg #[_, _], _] _ _
  go_enter Try.func14, Try.ntmps14
  go_wp2_with fail
  refine (implPoolFault_calls _ p _ _ ⟨_, ⟨A1, c1, _, rfl, rfl, hw, Rep.sl_ext s1 (alloc_ext _ _)⟩, rfl⟩).mono ?_
  rintro e w1 ⟨rfl, hO1⟩
  have HE1 := Lib.hid ((alloc_ext w _).ext hO1)
  obtain ⟨hc1, hf1⟩ := bcell hO1
  clear hO1
  by_cases hp : poolFault p = 0
  · have hb : (poolFault p != 0) = false := by simp [hp]
    have HP := Lib.hid hp
    clear hp
    go_wp2_with fail
    refine (find_calls _ A1 c1 p.Frames _ page _ (by rw [hc1 _ _ (by simp)]; exact cell_of_row _ _ _ _ _ _ (heap_alloc_new _ _)) (Rep.sl_ext s1 HE1.out)).mono ?_
    rintro e w2 ⟨rfl, hO2⟩
    go_wp2
    go_ret
    exact ⟨ret_int (findIf_find p page HP.out), HE1.out.ext hO2⟩
  · have hb : (poolFault p != 0) = true := by simp [hp]
    have HP := Lib.hid hp
    clear hp
    go_wp2_with fail
    go_ret
    exact ⟨ret_int (by rw [poolFind, if_pos (.inl HP.out)]), HE1.out⟩

theorem specPoolFind_calls (v : Value) (p : DPool) (F : List Nat) (page : Int) (w : World) (h : Rep.Pool.V w v p F) :
    Calls Try.prog 12 #[v, .int .i64 page] w fun e w' => e = .returned (.int .i64 (poolFind p page)) ∧ Ext w w' := by
  obtain ⟨_, ⟨A1, c1, F1, rfl, rfl, hw, s1⟩, rfl⟩ := id h
  have hu := Try.underlying29
  have hu2 := Try.underlying43
  have hm := Nat.le_trans s1.1 s1.2.1
  unfold maxLen at hm
  show Calls _ _ #[.agg #[_, _], _] _ _
  generalize hR : poolFind p page = R
  have HR := Lib.hid hR
  clear hR
  go_enter Try.func12, Try.ntmps12
  go_wp2_with fail
  refine (specPoolFault_calls _ p _ _ ⟨_, ⟨A1, c1, _, rfl, rfl, hw, Rep.sl_ext s1 (alloc_ext _ _)⟩, rfl⟩).mono ?_
  rintro e w1 ⟨rfl, hO1⟩
  have HE1 := Lib.hid ((alloc_ext w _).ext hO1)
  obtain ⟨hc1, hf1⟩ := bcell hO1
  have hz : w.heap.size < w1.heap.size := by have := hO1.size; simp at this; omega
  clear hO1
  by_cases hp : poolFault p = 0 ∧ ¬ page = -1
  · have hb : (poolFault p != 0) = false := by simp [hp.1]
    have hb2 : (page == -1) = false := by simp [hp.2]
    have HP := Lib.hid hp
    clear hp
    go_wp2
    go_loopg [5] (p.Frames.length) (fun m i wr => ∃ j : Nat, m + j = p.Frames.length ∧ i = .int .i64 j ∧ Ext w1 wr ∧ Hid (∀ k (hk : k < p.Frames.length), k < j → ¬ p.Frames[k].Page = page))
    case atStart => exact ⟨0, by simp, rfl, Only.refl _ _, fun k _ h => by omega⟩
    case round =>
      obtain ⟨j, hj, rfl, hO, HT⟩ := hrel
      have HO := Lib.hid hO; have HJ := Lib.hid hj
      obtain ⟨hc2, hf2⟩ := bcell hO
      clear hO hj
      by_cases hlt : j < p.Frames.length
      · obtain ⟨g, off, B1, d1, G1, rfl, hg, -, -, k0, k1, k2, k3, k4, k5⟩ := sl_Frame (Rep.sl_ext s1 (HE1.out.ext HO.out)) j hlt
        clear s1
        generalize hx : p.Frames[j] = x at *
        have HX := Lib.hid hx
        clear hx
        have hcases : ((x.Page == page) = true ∧ Hid (x.Page = page)) ∨ ((x.Page == page) = false ∧ Hid (¬ x.Page = page)) := by
          by_cases h : x.Page = page
          · exact .inl ⟨by simp [h], h⟩
          · exact .inr ⟨by simp [h], h⟩
        rcases hcases with ⟨hb, HB⟩ | ⟨hb, HB⟩
        · go_wp2
          try (go_quiet (fail); go_wp2)
          go_ret
          refine ⟨ret_int ?_, by first | exact HE1.out.ext HO.out | exact HE1.out.ext (HO.out.drewN _)⟩
          rw [← HR.out, poolFind, if_neg (by simp [HP.out]), findPage_at p.Frames page 0 j hlt (fun k hk hkj => HT.out k hk hkj) (by rw [HX.out]; exact HB.out)]
          omega
        · go_wp2
          try (go_quiet (fail); go_wp2)
          go_roundg (p.Frames.length - (j + 1))
          case measure => have := HJ.out; omega
          case rel =>
            refine ⟨j + 1, by omega, by go_num, by first | exact HO.out | exact HO.out.drewN _, fun k hk hkj => ?_⟩
            by_cases e : k = j
            · subst e; rw [HX.out]; exact HB.out
            · exact HT.out k hk (by omega)
      · go_wp2
        go_ret
        refine ⟨ret_int ?_, HE1.out.ext HO.out⟩
        rw [← HR.out, poolFind, if_neg (by simp [HP.out])]
        exact (findPage_none _ _ _ fun k hk => HT.out k hk (by have := HJ.out; omega)).symm
  · have HP := Lib.hid hp
    have hcases : (poolFault p != 0) = true ∨ ((poolFault p != 0) = false ∧ (page == -1) = true) := by
      by_cases h : poolFault p = 0
      · exact .inr ⟨by simp [h], by simp at hp; simp [hp h]⟩
      · exact .inl (by simp [h])
    clear hp
    rcases hcases with hb | ⟨hb, hb2⟩
    all_goals
      go_wp2
      go_ret
      refine ⟨ret_int ?_, HE1.out⟩
      rw [← HR.out, poolFind, if_pos (by have := HP.out; simp at this ⊢; by_cases h : poolFault p = 0; exact .inr (this h); exact .inl h)]
end Go.Proofs.Ytjjdainnofnmcaa
