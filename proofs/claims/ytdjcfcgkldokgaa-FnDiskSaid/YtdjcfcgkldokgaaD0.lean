/- Bytes copied onto bytes of the call's own. -/
import Derived.Test.YtdjcfcgkldokgaaC0
import Derived.Laws.CopyOwn
namespace Go.Proofs.Ytdjcfcgkldokgaa
open Go.RowKit
set_option linter.unusedSimpArgs false
set_option linter.unusedVariables false
theorem wrap_small (x : Int) (h0 : -4611686018427387904 ≤ x) (h1 : x ≤ 4611686018427387904) : IntKind.i64.wrap x = x := by
  simp [IntKind.wrap, IntKind.min, IntKind.max, IntKind.signed, IntKind.bits]
  omega
/-- copy(dst, src), dst at a place whose cells are there and may be written. -/
theorem wpList_copy_to {P : Program} {w : World} {ops : Array Oper} {rest : List Oper} {o : Oper} {a : Act} {Q : Exit → Act → World → Prop} (hgd : o.guard = none) (d s : Operand) (dT sT : TypeId)
    (ho : o.op = .call { callee := .builtin .copy, args := #[d, s], argTypes := #[dT, sT] }) (elem : TypeId) (hu : P.underlying dT = some (.slice elem)) (hsz : (P.info? elem).map (·.size) = some 1)
    (g off dLen dCap : Nat) (ad : Addr) (sLen sCap : Nat) (hd : a.eval d = .slice (some ⟨g, off, none⟩) dLen dCap) (hs : a.eval s = .slice (some ad) sLen sCap)
    (cs : List Value) (hn : cs.length = Nat.min sLen dLen) (hsrc : ∀ j v, cs[j]? = some v → w.cell? (ad.add j) = some v)
    (hc : ∀ j, j < cs.length → (w.cell? ⟨g, off + j, none⟩).isSome = true) (hf : ∀ j, j < cs.length → w.frozen? ⟨g, off + j, none⟩ = false) (h1 : ∀ v ∈ cs, v.oneCell' = true)
    (h : wpList P ops Q rest (a.put o.dst (goInt cs.length)) (w.setCells g off cs)) : wpList P ops Q (o :: rest) a w := by
  refine wpList_plain hgd fun K hK => ?_
  have hrun := run_copy_cells (P := P) w dT sT o.type elem g off dLen dCap ad sLen sCap cs hu hsz hn hsrc hc hf h1
  unfold Oper.wp
  simp [execOp, ho, resolve, invoke, builtin, hd, hs, hrun, Result.andThen]
  exact hK _ _ h
theorem step_copy_to {P : Program} {ops : Array Oper} {o : Oper} {a : Act} {w : World} {K : Act → World → Prop} {Q : Exit → Act → World → Prop} {E : Prop} (hgd : o.guard = none) (d s : Operand) (dT sT : TypeId)
    (ho : o.op = .call { callee := .builtin .copy, args := #[d, s], argTypes := #[dT, sT] }) (elem : TypeId) (hu : P.underlying dT = some (.slice elem)) (hsz : (P.info? elem).map (·.size) = some 1)
    (g off dLen dCap : Nat) (ad : Addr) (sLen sCap : Nat) (hd : a.eval d = .slice (some ⟨g, off, none⟩) dLen dCap) (hs : a.eval s = .slice (some ad) sLen sCap)
    (cs : List Value) (hn : cs.length = Nat.min sLen dLen) (hsrc : ∀ j v, cs[j]? = some v → w.cell? (ad.add j) = some v)
    (hc : ∀ j, j < cs.length → (w.cell? ⟨g, off + j, none⟩).isSome = true) (hf : ∀ j, j < cs.length → w.frozen? ⟨g, off + j, none⟩ = false) (h1 : ∀ v ∈ cs, v.oneCell' = true)
    (h : K (a.put o.dst (goInt cs.length)) (w.setCells g off cs)) :
    if Region.wanted o (yielded ops a.tmps) = true then Oper.wp P o a w K Q else E := by
  have hw : Region.wanted o (yielded ops a.tmps) = true := by simp [Region.wanted, hgd]
  rw [if_pos hw]
  have hrun := run_copy_cells (P := P) w dT sT o.type elem g off dLen dCap ad sLen sCap cs hu hsz hn hsrc hc hf h1
  unfold Oper.wp
  simp [execOp, ho, resolve, invoke, builtin, hd, hs, hrun, Result.andThen]
  exact h
theorem setCells_cell {w : World} {g o : Nat} {vs : List Value} {p : Addr} {u : Value} (h : w.cell? p = some u) (hne : p.block ≠ g) : (w.setCells g o vs).cell? p = some u := by
  rw [World.cell?_setCells_out g vs o w p (fun e _ => absurd e hne)]; exact h
theorem splice_at {α : Type} (L : List α) (off : Nat) (cs : List α) (h : off + cs.length ≤ L.length) (j : Nat) : (splice L off cs)[j]? = if off ≤ j ∧ j < off + cs.length then cs[j - off]? else L[j]? := by
  unfold splice
  split
  · rename_i hj
    rw [List.getElem?_append_right (by simp; omega), List.getElem?_append_left (by simp; omega)]
    simp [Nat.min_eq_left (show off ≤ L.length by omega)]
  · rename_i hj
    by_cases h1 : j < off
    · rw [List.getElem?_append_left (by simp; omega)]
      simp [h1]
    · rw [List.getElem?_append_right (by simp; omega), List.getElem?_append_right (by simp; omega)]
      simp only [List.length_take, List.getElem?_drop, Nat.min_eq_left (show off ≤ L.length by omega)]
      congr 1
      omega
/-- Numbers laid over a part of a list. -/
theorem sl_splice {k : IntKind} {w : World} {A : Option Addr} {c : Nat} {xs ys : List Int} {F : List Nat} (h : (Rep.int k).sl w A c xs F) (hu : Unfr w F) (o : Nat) (hy : o + ys.length ≤ xs.length) (h0 : 0 < xs.length) (hw : ∀ y ∈ ys, (Lit.int k y).wf = true) :
    ∃ g off, A = some ⟨g, off, none⟩ ∧ F = [g] ∧ g < w.heap.size ∧ (∀ j, j < ys.length → (w.cell? ⟨g, off + o + j, none⟩).isSome = true) ∧ (∀ j, w.frozen? ⟨g, j, none⟩ = false) ∧
      (Rep.int k).sl (w.setCells g (off + o) (ys.map (.int k))) A c (splice xs o ys) F ∧ Unfr (w.setCells g (off + o) (ys.map (.int k))) F := by
  obtain ⟨hl, hm, ⟨rfl, _⟩ | ⟨g, off, G, cs, rfl, rfl, hg, hr, hc⟩⟩ := id h
  · simp at h0
  obtain ⟨rfl, rfl, hwf⟩ := cells_ints_inv hr
  have hcell : ∀ j, j < xs.length → w.cell? ⟨g, off + j, none⟩ = some (.int k (xs[j]?.getD 0)) := fun j hj => hc j _ (by simp [hj])
  have hin : ∀ j, j < ys.length → (w.cell? ⟨g, off + o + j, none⟩).isSome = true := fun j hj => by
    rw [Nat.add_assoc, hcell (o + j) (by omega)]; rfl
  refine ⟨g, off, rfl, rfl, hg, hin, fun j => hu g (by simp) j, ⟨by rw [length_splice _ _ _ hy]; exact hl, hm, .inr ⟨g, off, [], _, rfl, rfl, by rw [size_setCells]; exact hg, cells_ints _ ?_, fun j u hu' => ?_⟩⟩, Unfr.cells hu _ _ _⟩
  · intro x hx
    simp only [splice, List.mem_append] at hx
    rcases hx with hx | hx | hx
    · exact hwf x (List.mem_of_mem_take hx)
    · exact hw x hx
    · exact hwf x (List.mem_of_mem_drop hx)
  · rw [List.getElem?_map, splice_at _ _ _ hy] at hu'
    by_cases hj : o ≤ j ∧ j < o + ys.length
    · rw [if_pos hj] at hu'
      have := World.cell?_setCells_in g (ys.map (.int k)) (off + o) w (fun i hi => hin i (by simpa using hi)) (j - o) (by simp; omega)
      rw [show off + o + (j - o) = off + j by omega] at this
      rw [this]
      rw [List.getElem?_eq_getElem (by omega)] at hu'
      simpa using hu'
    · rw [if_neg hj] at hu'
      rw [World.cell?_setCells_out g (ys.map (.int k)) (off + o) w ⟨g, off + j, none⟩ (fun _ _ => by simp; omega)]
      exact hc j u (by rw [List.getElem?_map]; exact hu')
end Go.Proofs.Ytdjcfcgkldokgaa
