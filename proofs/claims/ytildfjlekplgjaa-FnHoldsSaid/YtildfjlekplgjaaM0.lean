/- Rows of elements of several cells: what slices.DeleteFunc leaves, place by place; the flat cells of a list. Plain. -/
import Derived.Test.YtildfjlekplgjaaK3
namespace Go.Proofs.Ytildfjlekplgjaa
open Go.RowKit
set_option linter.unusedSimpArgs false
set_option linter.unusedVariables false
section
variable {α : Type}
def keptD (p : α → Bool) (xs : List α) (j : Nat) : List α := (xs.take j).filter (fun x => !p x)
/-- The row behind j elements. -/
def rowD (p : α → Bool) (xs : List α) (j : Nat) : List α := keptD p xs j ++ xs.drop (keptD p xs j).length
variable (p : α → Bool) (xs : List α)
theorem keptD_le (j : Nat) : (keptD p xs j).length ≤ j := by
  unfold keptD
  have h1 := List.length_filter_le (fun x => !p x) (xs.take j)
  have h2 : (xs.take j).length ≤ j := by simp; omega
  omega
theorem keptD_next (j : Nat) (hj : j < xs.length) : keptD p xs (j + 1) = keptD p xs j ++ (if p xs[j] = true then [] else [xs[j]]) := by
  unfold keptD
  rw [List.take_succ_eq_append_getElem hj, List.filter_append]
  by_cases h : p xs[j] = true <;> simp [h]
theorem rowD_len (j : Nat) (hj : j ≤ xs.length) : (rowD p xs j).length = xs.length := by
  have := keptD_le p xs j
  simp [rowD]; omega
theorem rowD_at (j : Nat) (hj : j < xs.length) (hj' : j < (rowD p xs j).length) : (rowD p xs j)[j] = xs[j] := by
  have := keptD_le p xs j
  simp only [rowD]
  rw [List.getElem_append_right (by omega)]
  simp only [List.getElem_drop]
  congr 1
  omega
theorem rowD_skip (j : Nat) (hj : j < xs.length) (h : p xs[j] = true) : rowD p xs (j + 1) = rowD p xs j ∧ (keptD p xs (j + 1)).length = (keptD p xs j).length := by
  have e : keptD p xs (j + 1) = keptD p xs j := by rw [keptD_next p xs j hj, if_pos h, List.append_nil]
  unfold rowD
  rw [e]
  exact ⟨rfl, rfl⟩
theorem rowD_put (j : Nat) (hj : j < xs.length) (h : p xs[j] = false) : rowD p xs (j + 1) = (rowD p xs j).set (keptD p xs j).length xs[j] ∧ (keptD p xs (j + 1)).length = (keptD p xs j).length + 1 := by
  have hk := keptD_le p xs j
  have e : keptD p xs (j + 1) = keptD p xs j ++ [xs[j]] := by rw [keptD_next p xs j hj, if_neg (by simp [h])]
  refine ⟨?_, by rw [e]; simp⟩
  unfold rowD
  rw [e, List.set_append_right _ _ (Nat.le_refl _), Nat.sub_self, List.drop_eq_getElem_cons (by omega : (keptD p xs j).length < xs.length), List.set_cons_zero, List.append_assoc, List.length_append, List.length_singleton]
  rfl
theorem rowD_end : (rowD p xs xs.length).take (keptD p xs xs.length).length = xs.filter (fun x => !p x) := by
  unfold rowD
  rw [List.take_left']
  · simp [keptD]
  · rfl
theorem keptD_start (k : Nat) (hk : k ≤ xs.length) (hup : ∀ j (hj : j < xs.length), j < k → p xs[j] = false) : keptD p xs k = xs.take k := by
  unfold keptD
  rw [List.filter_eq_self]
  intro x hx
  obtain ⟨j, hj, rfl⟩ := List.getElem_of_mem hx
  simp at hj
  simp [hup j (by omega) (by omega)]
theorem rowD_start (k : Nat) (hk : k ≤ xs.length) (hup : ∀ j (hj : j < xs.length), j < k → p xs[j] = false) : rowD p xs k = xs := by
  unfold rowD
  rw [keptD_start p xs k hk hup]
  simp [List.length_take, Nat.min_eq_left hk]
theorem filter_none (hup : ∀ j (hj : j < xs.length), p xs[j] = false) : xs.filter (fun x => !p x) = xs := by
  rw [List.filter_eq_self]
  intro x hx
  obtain ⟨j, hj, rfl⟩ := List.getElem_of_mem hx
  simp [hup j hj]
end
/-- The cells of a list, one element behind the other. -/
def flat {α : Type} (enc : α → List Value) (xs : List α) : List Value := (xs.map enc).flatten
section
variable {α : Type} {enc : α → List Value} {k : Nat} (hk : ∀ x, (enc x).length = k)
theorem flat_append (xs ys : List α) : flat enc (xs ++ ys) = flat enc xs ++ flat enc ys := by simp [flat]
theorem flat_cons (x : α) (ys : List α) : flat enc (x :: ys) = enc x ++ flat enc ys := by simp [flat]
theorem flat_nil : flat enc ([] : List α) = [] := rfl
include hk
theorem flat_len (xs : List α) : (flat enc xs).length = xs.length * k := by
  induction xs with
  | nil => simp [flat]
  | cons x l ih => rw [flat_cons, List.length_append, hk, ih, List.length_cons, Nat.succ_mul]; omega
theorem flat_take (xs : List α) (i : Nat) (hi : i ≤ xs.length) : (flat enc xs).take (i * k) = flat enc (xs.take i) := by
  conv => lhs; rw [← List.take_append_drop i xs, flat_append]
  have := flat_len hk (xs.take i)
  rw [List.length_take, Nat.min_eq_left hi] at this
  rw [← this, List.take_left]
theorem flat_drop (xs : List α) (i : Nat) (hi : i ≤ xs.length) : (flat enc xs).drop (i * k) = flat enc (xs.drop i) := by
  conv => lhs; rw [← List.take_append_drop i xs, flat_append]
  have := flat_len hk (xs.take i)
  rw [List.length_take, Nat.min_eq_left hi] at this
  rw [← this, List.drop_left]
theorem flat_at (xs : List α) (i : Nat) (hi : i < xs.length) (j : Nat) (hj : j < k) : (flat enc xs)[i * k + j]? = (enc xs[i])[j]? := by
  have e : xs = xs.take i ++ xs[i] :: xs.drop (i + 1) := by simp
  conv => lhs; rw [e, flat_append, flat_cons]
  have := flat_len hk (xs.take i)
  rw [List.length_take, Nat.min_eq_left (by omega)] at this
  rw [List.getElem?_append_right (by omega), this, Nat.add_sub_cancel_left, List.getElem?_append_left (by rw [hk]; exact hj)]
end
theorem flat_set3 {α : Type} {enc : α → List Value} (hk : ∀ x, (enc x).length = 3) (xs : List α) (i : Nat) (hi : i < xs.length) (y : α) (a b c : Value) (hy : enc y = [a, b, c]) :
    (((flat enc xs).set (i * 3) a).set (i * 3 + 1) b).set (i * 3 + 2) c = flat enc (xs.set i y) := by
  have e : xs.set i y = xs.take i ++ y :: xs.drop (i + 1) := by rw [List.set_eq_take_append_cons_drop, if_pos hi]
  have e0 : xs = xs.take i ++ xs[i] :: xs.drop (i + 1) := by simp
  have hl := flat_len hk (xs.take i)
  rw [List.length_take, Nat.min_eq_left (by omega)] at hl
  rw [e, flat_append, flat_cons, hy]
  conv => lhs; rw [e0, flat_append, flat_cons]
  have hx := hk xs[i]
  generalize enc xs[i] = l at *
  obtain ⟨u0, u1, u2, rfl⟩ : ∃ u0 u1 u2, l = [u0, u1, u2] := by
    match l, hx with
    | [u0, u1, u2], _ => exact ⟨u0, u1, u2, rfl⟩
  generalize flat enc (xs.take i) = L at *
  generalize flat enc (xs.drop (i + 1)) = M at *
  rw [← hl]
  simp
/-- A row of elements: block g holds cap places of them; the first are xs. -/
def RowIs {α : Type} (enc : α → List Value) (k : Nat) (t : TypeId) (w : World) (g cap : Nat) (xs : List α) : Prop :=
  ∃ cur, w.heap[g]? = some (.cells cur t (0, 0)) ∧ cur.size = cap * k ∧ xs.length ≤ cap ∧ cur.toList.take (xs.length * k) = flat enc xs
section
variable {α : Type} {enc : α → List Value} {k : Nat} {t : TypeId} {w w' : World} {g cap : Nat} {xs : List α}
theorem RowIs.of (hk : ∀ x, (enc x).length = k) {n : Nat} (h : w.ownsRow n t k (.slice (some ⟨g, 0, none⟩) xs.length cap) xs.length (flat enc xs)) : RowIs enc k t w g cap xs ∧ n ≤ g ∧ cap ≤ maxLen := by
  rcases h.2 with ⟨e, _⟩ | ⟨g', cap', cur, e, hb, hh, hn, hm, hsz, ht⟩
  · cases e
  · injection e with e1 e2 e3
    injection e1 with e1
    injection e1 with e1
    subst e1; subst e3
    exact ⟨⟨cur, hh, hsz, hn, ht⟩, hb, hm⟩
theorem RowIs.own (hk : ∀ x, (enc x).length = k) (h : RowIs enc k t w g cap xs) {n : Nat} (hn : n ≤ g) (hm : cap ≤ maxLen) : w.ownsRow n t k (.slice (some ⟨g, 0, none⟩) xs.length cap) xs.length (flat enc xs) := by
  obtain ⟨cur, h1, h2, h3, h4⟩ := h
  exact ⟨flat_len hk xs, .inr ⟨g, cap, cur, rfl, hn, h1, h3, hm, h2, h4⟩⟩
theorem RowIs.lt (h : RowIs enc k t w g cap xs) : g < w.heap.size := by
  obtain ⟨cur, h1, -⟩ := h
  exact (Array.getElem?_eq_some_iff.1 h1).1
theorem RowIs.only {F : List Nat} (h : RowIs enc k t w g cap xs) (hk : Only F w w') (hg : g ∉ F) : RowIs enc k t w' g cap xs := by
  obtain ⟨cur, h1, h2⟩ := h
  exact ⟨cur, hk.heap h1 hg, h2⟩
theorem RowIs.cell (hk : ∀ x, (enc x).length = k) (h : RowIs enc k t w g cap xs) (i : Nat) (hi : i < xs.length) (j : Nat) (u : Value) (hu : (enc xs[i])[j]? = some u) : w.cell? ⟨g, i * k + j, none⟩ = some u := by
  obtain ⟨cur, h1, h2, h3, h4⟩ := h
  have hj : j < k := by rw [← hk xs[i]]; exact (List.getElem?_eq_some_iff.1 hu).1
  rw [cell_of_row _ _ _ _ _ _ h1, ← hu, ← flat_at hk xs i hi j hj, ← h4, List.getElem?_take, if_pos]
  · simp
  · have : (i + 1) * k ≤ xs.length * k := Nat.mul_le_mul_right _ hi
    rw [Nat.succ_mul] at this; omega
theorem RowIs.some (h : RowIs enc k t w g cap xs) (j : Nat) (hj : j < cap * k) : ∃ u, w.cell? ⟨g, j, none⟩ = some u := by
  obtain ⟨cur, h1, h2, h3, h4⟩ := h
  exact ⟨cur[j]'(by omega), by rw [cell_of_row _ _ _ _ _ _ h1]; simp⟩
theorem RowIs.frozen (h : RowIs enc k t w g cap xs) (j : Nat) : w.frozen? ⟨g, j, none⟩ = false := by
  obtain ⟨cur, h1, -⟩ := h
  exact frozen_of_row _ _ _ _ _ h1
theorem RowIs.take (hk : ∀ x, (enc x).length = k) (h : RowIs enc k t w g cap xs) (i : Nat) (hi : i ≤ xs.length) : RowIs enc k t w g cap (xs.take i) := by
  obtain ⟨cur, h1, h2, h3, h4⟩ := h
  refine ⟨cur, h1, h2, by simp; omega, ?_⟩
  rw [List.length_take, Nat.min_eq_left hi, ← flat_take hk xs i hi, ← h4, List.take_take, Nat.min_eq_left (Nat.mul_le_mul_right _ hi)]
theorem take_setIf (arr : Array Value) (i n : Nat) (u : Value) : (arr.setIfInBounds i u).toList.take n = (arr.toList.take n).set i u := by
  rw [Array.toList_setIfInBounds, List.take_set]
end
theorem RowIs.set3 {α : Type} {enc : α → List Value} {t : TypeId} {w : World} {g cap : Nat} {xs : List α} (hk : ∀ x, (enc x).length = 3) (h : RowIs enc 3 t w g cap xs) (i : Nat) (hi : i < xs.length) (y : α) (a b c : Value) (hy : enc y = [a, b, c]) :
    RowIs enc 3 t (((w.setCell ⟨g, i * 3, none⟩ a).setCell ⟨g, i * 3 + 1, none⟩ b).setCell ⟨g, i * 3 + 2, none⟩ c) g cap (xs.set i y) := by
  obtain ⟨cur, h1, h2, h3, h4⟩ := h
  have k1 := heap_setCell_same w g (i * 3) cur t a h1
  have k2 := heap_setCell_same _ g (i * 3 + 1) _ t b k1
  have k3 := heap_setCell_same _ g (i * 3 + 2) _ t c k2
  refine ⟨_, k3, by simp [h2], by simpa using h3, ?_⟩
  rw [take_setIf, take_setIf, take_setIf, List.length_set, h4, flat_set3 hk xs i hi y a b c hy]
end Go.Proofs.Ytildfjlekplgjaa
