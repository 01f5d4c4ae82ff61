/- Lists of bytes copied. -/
import Derived.Test.YtdjcfcgkldokgaaF0
import Derived.Test.YtdjcfcgkldokgaaB
namespace Go.Proofs.Ytdjcfcgkldokgaa
open Go.RowKit
set_option linter.unusedSimpArgs false
set_option linter.unusedVariables false
theorem ints_cells1 {k : IntKind} : ∀ (xs : List Int), ∀ u ∈ xs.map (Value.int k), u.oneCell' = true := by
  intro xs u hu
  obtain ⟨x, _, rfl⟩ := List.mem_map.1 hu
  rfl
/-- What append(nothing, b..) leaves: b's bytes anew. -/
theorem clone_done {k : IntKind} {e : TypeId} {n : Nat} {w : World} {v : Value} {xs : List Int} (hw : ∀ x ∈ xs, (Lit.int k x).wf = true) (h : w.ownsRow n e 1 v xs.length (xs.map (.int k))) (hn : n ≤ w.heap.size) : Own (Rep.int k) e n w v xs :=
  ⟨_, [], h, cells_ints xs hw, by simp, NewIn.nil _ _, hn⟩
theorem NewPost.ofOwn {α : Type} {r : Rep α} {e : TypeId} {w w' : World} {v : Value} {xs : List α} {n : Nat} (h : Own r e n w' v xs) (hn : w.heap.size ≤ n) (hO : Ext w w') : NewPost r.slice xs w (.returned v) w' := by
  obtain ⟨F, hV, hF⟩ := h.done
  exact ⟨v, F, rfl, hV, hO, fun g hg => Nat.le_trans hn (hF.ge g hg), hF.nodup, hF.unfr⟩
theorem NewPost.nil {α : Type} {r : Rep α} {w w' : World} (hO : Ext w w') : NewPost r.slice [] w (.returned (.slice none 0 0)) w' :=
  ⟨_, [], rfl, Rep.slice_mk (xs := []) (Rep.sl_nil (by simp)), hO, by simp, by simp, by simp [Unfr]⟩

theorem l1Copy_calls (A : Option Addr) (c : Nat) (xs : List Int) (F : List Nat) (w : World) (h : (Rep.int .u8).sl w A c xs F) (hn : xs.length ≤ 70368744177664) :
    Calls Try.prog 83 #[.slice A xs.length c] w (NewPost (Rep.int .u8).slice xs w) := by
  obtain ⟨i0, hi, hz0, hz1, hz2⟩ := info_parts info5
  have Hwf := Lib.hid (sl_wf h)
  rcases A with _ | ad
  · obtain rfl : xs = [] := by
      rcases h.2.2 with ⟨e, _⟩ | ⟨_, _, _, _, e, _⟩
      · exact e
      · cases e
    go_enter Try.func83, Try.ntmps83
    go_wp2
    go_ret
    refine NewPost.ofOwn (e := 5) (n := w.heap.size) (Own.made (Nat.le_refl _) #[] 0 (by simp) (by simp)) (Nat.le_refl _) ?_
    exact alloc_ext _ _
  have HC : Hid (∀ j u, (xs.map (Value.int .u8))[j]? = some u → w.cell? (ad.add j) = some u) := by
    by_cases hx : xs = []
    · subst hx; exact fun j u hu => by simp at hu
    · obtain ⟨g, off, e, hg, hc⟩ := sl_ints h hx
      injection e with e
      subst e
      exact hc
  clear h
  go_enter Try.func83, Try.ntmps83
  go_wp2_with (at_builtin; refine wpList_append_own_at _ rfl _ _ 22 rfl w.heap.size 5 i0 (.int .u8 0) 1 1 Try.underlying22 hi hz0 hz1 hz2 rfl (by decide) (.slice (some ⟨w.heap.size, 0, none⟩) 0 0) 0 [] rfl (World.ownsRow_made w #[] 0 (Nat.le_refl _) (by simp) (by simp)) ad xs.length c (xs.map (.int .u8)) rfl (by simp) (fun j u hu => (alloc_ext _ _).ecell (HC.out j u hu)) (ints_cells1 xs) (by unfold maxLen; omega) (by omega) (by simp) ?_; intro v' w' hown hgrow hnil hat)
  go_ret
  refine NewPost.ofOwn (clone_done Hwf.out (by simpa using hown) ?_) (Nat.le_refl _) ?_
  · have := hgrow.size; simp at this; omega
  · exact (alloc_ext _ _).grown hgrow (fun g he hlt => by simp [Value.ownBlock] at he; omega)

theorem Clone_calls (A : Option Addr) (c : Nat) (xs : List Int) (F : List Nat) (w : World) (h : (Rep.int .u8).sl w A c xs F) (hn : xs.length ≤ 70368744177664) :
    Calls Try.prog 77 #[.slice A xs.length c] w (NewPost (Rep.int .u8).slice xs w) := by
  obtain ⟨i0, hi, hz0, hz1, hz2⟩ := info_parts info5
  have Hwf := Lib.hid (sl_wf h)
  have hnil := fun (W : World) (a : Option Addr) (n c : Nat) => Lib.run_eql_slice_nil (P := Try.prog) W 22 5 a n c 0 0 Try.underlying22
  rcases A with _ | ad
  · obtain rfl : xs = [] := by
      rcases h.2.2 with ⟨e, _⟩ | ⟨_, _, _, _, e, _⟩
      · exact e
      · cases e
    go_enter Try.func77, Try.ntmps77
    go_wp2
    go_ret
    exact NewPost.nil (Only.refl _ _)
  have HC : Hid (∀ j u, (xs.map (Value.int .u8))[j]? = some u → w.cell? (ad.add j) = some u) := by
    by_cases hx : xs = []
    · subst hx; exact fun j u hu => by simp at hu
    · obtain ⟨g, off, e, hg, hc⟩ := sl_ints h hx
      injection e with e
      subst e
      exact hc
  clear h
  go_enter Try.func77, Try.ntmps77
  go_wp2_with (at_builtin; refine wpList_append_own_at _ rfl _ _ 22 rfl w.heap.size 5 i0 (.int .u8 0) 1 1 Try.underlying22 hi hz0 hz1 hz2 rfl (by decide) (.slice (some ⟨w.heap.size, 0, none⟩) 0 0) 0 [] rfl (World.ownsRow_made w #[] 0 (Nat.le_refl _) (by simp) (by simp)) ad xs.length c (xs.map (.int .u8)) rfl (by simp) (fun j u hu => (alloc_ext _ _).ecell (HC.out j u hu)) (ints_cells1 xs) (by unfold maxLen; omega) (by omega) (by simp) ?_; intro v' w' hown hgrow hnil2 hat)
  go_ret
  refine NewPost.ofOwn (clone_done Hwf.out (by simpa using hown) ?_) (Nat.le_refl _) ?_
  · have := hgrow.size; simp at this; omega
  · exact (alloc_ext _ _).grown hgrow (fun g he hlt => by simp [Value.ownBlock] at he; omega)
end Go.Proofs.Ytdjcfcgkldokgaa
