/- PageSet: the contracts. -/
import Derived.Test.YtghgjddiheebeaaDoorZ3
import Derived.Test.YtghgjddiheebeaaDoorZ4
namespace Go.Proofs.YtghgjddiheebeaaDoor
open Go.RowKit
set_option linter.unusedSimpArgs false
set_option linter.unusedVariables false
theorem setPut_len {X : List Int} (hX : X.length = 4096) (s : Nat) (hs : s < 32) (d : List Int) (hb : setBot X d.length + d.length ≤ 4096) : (setPut X s d).length = 4096 := by
  have hl : ∀ (Y : List Int) a u, a + u.length ≤ 4096 → Y.length = 4096 → (splice Y a u).length = 4096 := fun Y a u h1 h2 => by rw [splice_len _ _ _ (by omega), h2]
  rw [setPut]
  exact hl _ _ _ (by rw [beL_length]; omega) (hl _ _ _ (by rw [beL_length]; omega) (hl _ _ _ (by rw [beL_length]; omega) (hl _ _ _ hb hX)))
theorem setPage_len {p : List Int} (h : Wf p) (s : Nat) (hs : s < 32) (u : Bool) (d : List Int) (l : Nat) (hsum : (sumN p 32 : Int) - slN p s + d.length ≤ 3948) : (setPage p s u d l).length = 4096 := by
  rw [setPage]
  refine lsn_len ?_ l
  cases u
  · rw [if_neg (by simp)]
    exact h.base_len s hs
  · rw [if_pos rfl]
    have hb := h.base_sum s hs 32 (Nat.le_refl _)
    rw [if_pos hs] at hb
    have hn := (h.slot s hs).2.1
    obtain ⟨r1, r2, r3, r4⟩ := (h.base s hs).room d.length (by omega)
    exact setPut_len r1 s hs d r3
theorem implPageSet_new (w : World) (A : Option Addr) (c : Nat) (p : List Int) (F : List Nat) (h : (Rep.int .u8).sl w A c p F) (sl : Int) (e1 : (Lit.int .i64 sl).wf = true) (v : Value) (r : DPageRecord) (Fr : List Nat) (hr : Rep.PageRecord.V w v r Fr) (lsn : Int) (e3 : (Lit.int .i64 lsn).wf = true)
    (hs : p.length ≤ 1048576) (hs2 : wtPageRecord r ≤ 1048576) :
    Calls Tryd.prog 20 #[.slice A p.length c, .int .i64 sl, v, .int .i64 lsn] w (NewPost Rep.PageResult (pageSet p sl r lsn) w) := by
  obtain ⟨_, ⟨A1, c1, F1, rfl, rfl, -, s1⟩, rfl⟩ := hr
  show Calls _ _ #[_, _, .agg #[_, _], _] _ _
  obtain ⟨u, d⟩ := r
  by_cases hb : setBad p sl ⟨u, d⟩ lsn
  · rw [pageSet, if_pos hb]
    exact implSet_bad w A c p F h sl lsn u A1 c1 d hb
  · rw [pageSet, if_neg hb]
    have hb' := hb
    unfold setBad at hb'
    simp only [not_or, Bool.not_eq_false] at hb'
    obtain ⟨b1, b2, b3, b4, b5, b6, b7⟩ := hb'
    have hW := Wf.of h b1
    obtain ⟨g, off, rfl⟩ := sl_some h (by rw [hW.len]; omega)
    obtain ⟨s, rfl⟩ := Int.eq_ofNat_of_zero_le (show 0 ≤ sl by omega)
    obtain ⟨l, rfl⟩ := Int.eq_ofNat_of_zero_le (show 0 ≤ lsn by omega)
    have hu : u = true ∨ d.length = 0 := by
      cases u
      · right
        have h7 : ¬ 0 < d.length := fun h0 => b7 ⟨rfl, h0⟩
        omega
      · exact .inl rfl
    have := implSet_good w g off c p F h hW s l u A1 c1 d _ s1 (by omega) (by omega) (by (try dsimp only at b6); omega) hu
    rw [hW.len]
    simp only [Int.toNat_natCast]
    by_cases hbig : (3948 : Int) < (sumN p 32 : Int) - slN p s + d.length
    · rw [if_pos hbig] at this ⊢
      exact this
    · rw [if_neg hbig] at this ⊢
      rw [if_pos (setPage_len hW s (by omega) u d l (by omega))]
      exact this
theorem specPageSet_new (w : World) (A : Option Addr) (c : Nat) (p : List Int) (F : List Nat) (h : (Rep.int .u8).sl w A c p F) (sl : Int) (e1 : (Lit.int .i64 sl).wf = true) (v : Value) (r : DPageRecord) (Fr : List Nat) (hr : Rep.PageRecord.V w v r Fr) (lsn : Int) (e3 : (Lit.int .i64 lsn).wf = true)
    (hs : p.length ≤ 1048576) (hs2 : wtPageRecord r ≤ 1048576) :
    Calls Tryd.prog 18 #[.slice A p.length c, .int .i64 sl, v, .int .i64 lsn] w (NewPost Rep.PageResult (pageSet p sl r lsn) w) := by
  obtain ⟨_, ⟨A1, c1, F1, rfl, rfl, -, s1⟩, rfl⟩ := hr
  show Calls _ _ #[_, _, .agg #[_, _], _] _ _
  obtain ⟨u, d⟩ := r
  by_cases hb : setBad p sl ⟨u, d⟩ lsn
  · rw [pageSet, if_pos hb]
    exact specSet_bad w A c p F h sl lsn u A1 c1 d hb
  · rw [pageSet, if_neg hb]
    have hb' := hb
    unfold setBad at hb'
    simp only [not_or, Bool.not_eq_false] at hb'
    obtain ⟨b1, b2, b3, b4, b5, b6, b7⟩ := hb'
    have hW := Wf.of h b1
    obtain ⟨g, off, rfl⟩ := sl_some h (by rw [hW.len]; omega)
    obtain ⟨s, rfl⟩ := Int.eq_ofNat_of_zero_le (show 0 ≤ sl by omega)
    obtain ⟨l, rfl⟩ := Int.eq_ofNat_of_zero_le (show 0 ≤ lsn by omega)
    have hu : u = true ∨ d.length = 0 := by
      cases u
      · right
        have h7 : ¬ 0 < d.length := fun h0 => b7 ⟨rfl, h0⟩
        omega
      · exact .inl rfl
    have := specSet_good w g off c p F h hW s l u A1 c1 d _ s1 (by omega) (by omega) (by (try dsimp only at b6); omega) hu
    rw [hW.len]
    simp only [Int.toNat_natCast]
    by_cases hbig : (3948 : Int) < (sumN p 32 : Int) - slN p s + d.length
    · rw [if_pos hbig] at this ⊢
      exact this
    · rw [if_neg hbig] at this ⊢
      rw [if_pos (setPage_len hW s (by omega) u d l (by omega))]
      exact this
theorem specPageSet_calls (w : World) (A : Option Addr) (c : Nat) (p : List Int) (F : List Nat) (h : (Rep.int .u8).sl w A c p F) (sl : Int) (e1 : (Lit.int .i64 sl).wf = true) (v : Value) (r : DPageRecord) (Fr : List Nat) (hr : Rep.PageRecord.V w v r Fr) (lsn : Int) (e3 : (Lit.int .i64 lsn).wf = true)
    (hs : p.length ≤ 1048576) (hs2 : wtPageRecord r ≤ 1048576) :
    Calls Tryd.prog 18 #[.slice A p.length c, .int .i64 sl, v, .int .i64 lsn] w fun e w' => ∃ v F, e = .returned v ∧ Rep.PageResult.V w' v (pageSet p sl r lsn) F ∧ Ext w w' :=
  (specPageSet_new w A c p F h sl e1 v r Fr hr lsn e3 hs hs2).mono fun _ _ h => NewPost.weak2 h
end Go.Proofs.YtghgjddiheebeaaDoor
