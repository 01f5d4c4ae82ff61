/- Rows: two stretches laid in one behind the other; copy at elements of several cells. Plain, and one law of the op copy. -/
import Derived.Test.YtildfjlekplgjaaM1
import Derived.Test.YtildfjlekplgjaaK7
import Derived.Shelf.Spec.SlicesInsertGrow
import Derived.Lib.SliceRun
namespace Go.Proofs.Ytildfjlekplgjaa
open Go.RowKit
set_option linter.unusedSimpArgs false
set_option linter.unusedVariables false
theorem arrSet_splice : ∀ (vs : List Value) (o : Nat) (arr : Array Value), o + vs.length ≤ arr.size → (arrSet arr o vs).toList = arr.toList.take o ++ vs ++ arr.toList.drop (o + vs.length) := by
  intro vs o arr h
  apply List.ext_getElem?
  intro j
  have hs := size_arrSet vs o arr
  by_cases h1 : j < o
  · have := arrSet_out vs o arr j (.inl h1)
    rw [Array.getElem?_toList, this, List.append_assoc, List.getElem?_append_left (by simp; omega), List.getElem?_take, if_pos h1, Array.getElem?_toList]
  · by_cases h2 : j < o + vs.length
    · have hj : j - o < vs.length := by omega
      have := arrSet_in vs o arr h (j - o) vs[j - o] (List.getElem?_eq_getElem hj)
      rw [Nat.add_sub_cancel' (by omega)] at this
      rw [Array.getElem?_toList, this, List.append_assoc, List.getElem?_append_right (by simp; omega)]
      simp only [List.length_take, Array.length_toList, Nat.min_eq_left (show o ≤ arr.size by omega)]
      rw [List.getElem?_append_left hj, List.getElem?_eq_getElem hj]
    · have := arrSet_out vs o arr j (.inr (by omega))
      rw [Array.getElem?_toList, this, List.getElem?_append_right (by simp; omega), List.getElem?_drop, Array.getElem?_toList]
      congr 1
      simp [Nat.min_eq_left (show o ≤ arr.size by omega)]
      omega
section
variable (cs vs : List Value) (p : Nat) (arr : Array Value) (hp : p ≤ cs.length) (hsz : cs.length + vs.length ≤ arr.size) (hpre : arr.toList.take p = cs.take p)
include hp hsz hpre
theorem insert_up : (arrSet (arrSet arr p vs) (p + vs.length) (cs.drop p)).toList.take (cs.length + vs.length) = cs.take p ++ vs ++ cs.drop p := by
  have hdl : (cs.drop p).length = cs.length - p := List.length_drop
  rw [arrSet_splice _ _ _ (by rw [size_arrSet]; omega), arrSet_splice _ _ _ (by omega), hpre]
  have e : ((cs.take p ++ vs) ++ arr.toList.drop (p + vs.length)).take (p + vs.length) = cs.take p ++ vs := by
    rw [List.take_left']
    simp [Nat.min_eq_left hp]
  rw [e, List.take_left']
  simp [Nat.min_eq_left hp]; omega
theorem insert_down : (arrSet (arrSet arr (p + vs.length) (cs.drop p)) p vs).toList.take (cs.length + vs.length) = cs.take p ++ vs ++ cs.drop p := by
  have hdl : (cs.drop p).length = cs.length - p := List.length_drop
  rw [arrSet_splice _ _ _ (by rw [size_arrSet]; omega), arrSet_splice _ _ _ (by omega)]
  have hl : (arr.toList.take (p + vs.length)).length = p + vs.length := by simp; omega
  have e1 : (arr.toList.take (p + vs.length) ++ cs.drop p ++ arr.toList.drop (p + vs.length + (cs.drop p).length)).take p = cs.take p := by
    rw [List.append_assoc, List.take_append_of_le_length (by omega), List.take_take, Nat.min_eq_left (by omega), hpre]
  have e2 : (arr.toList.take (p + vs.length) ++ cs.drop p ++ arr.toList.drop (p + vs.length + (cs.drop p).length)).drop (p + vs.length) = cs.drop p ++ arr.toList.drop (p + vs.length + (cs.drop p).length) := by
    rw [List.append_assoc, List.drop_left' hl]
  rw [e1, e2, ← List.append_assoc, List.take_left']
  simp [Nat.min_eq_left hp]; omega
end
theorem run_copy_rows {P : Program} (w : World) (dT sT ty elem : TypeId) (k b o dLen dCap : Nat) (a : Addr) (sLen sCap : Nat) (cs : List Value)
    (hu : P.underlying dT = some (.slice elem)) (hs : (P.info? elem).map (·.size) = some k) (m : Nat) (hm : m = Nat.min sLen dLen) (hn : cs.length = m * k)
    (hsrc : ∀ j v, cs[j]? = some v → w.cell? (a.add j) = some v) (hc : ∀ j, j < cs.length → (w.cell? ⟨b, o + j, none⟩).isSome = true) (hf : ∀ j, j < cs.length → w.frozen? ⟨b, o + j, none⟩ = false) (h1 : ∀ v ∈ cs, v.oneCell' = true) :
    (Builtin.copy_ #[dT, sT] ty #[.slice (some ⟨b, o, none⟩) dLen dCap, .slice (some a) sLen sCap]).run P w = .ok (goInt m) (w.setCells b o cs) := by
  have hl := run_loadCells_list (P := P) w a cs hsrc
  have hst := run_storeCells_cells (P := P) b o cs 0 w (by simpa using hc) (by simpa using hf) h1
  subst hm
  cases hq : P.info? elem with
  | none => simp [hq] at hs
  | some i =>
    have hi : i.size = k := by simpa [hq] using hs
    simp [Builtin.copy_, run_underlying hu, Builtin.lenOf, Builtin.firstCells, sizeOf, typeInfo, hq, hi, ← hn, hl, hst]
end Go.Proofs.Ytildfjlekplgjaa
