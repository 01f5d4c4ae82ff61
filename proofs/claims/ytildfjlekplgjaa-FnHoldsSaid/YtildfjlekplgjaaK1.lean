/- Holds: the most of an id; the larger number. -/
import Derived.Test.YtildfjlekplgjaaK0
namespace Go.Proofs.Ytildfjlekplgjaa
open Go.RowKit
set_option linter.unusedSimpArgs false
set_option linter.unusedVariables false
def mostL (xs : List DHold) (id dflt : Int) : Int := ((xs.find? (fun h => decide (h.Id = id))).map (·.Most)).getD dflt
theorem mostL_hit {xs : List DHold} {id dflt : Int} (k : Nat) (hk : k < xs.length) (h : xs[k].Id = id) (hup : ∀ j (hj : j < xs.length), j < k → xs[j].Id ≠ id) : mostL xs id dflt = xs[k].Most := by
  unfold mostL
  have : xs.find? (fun h => decide (h.Id = id)) = some xs[k] := by
    rw [List.find?_eq_some_iff_getElem]
    refine ⟨by simp [h], k, hk, rfl, fun j hj => ?_⟩
    simpa using hup j (by omega) hj
  rw [this]; rfl
theorem mostL_none {xs : List DHold} {id dflt : Int} (hup : ∀ j (hj : j < xs.length), xs[j].Id ≠ id) : mostL xs id dflt = dflt := by
  unfold mostL
  have : xs.find? (fun h => decide (h.Id = id)) = none := by
    rw [List.find?_eq_none]
    intro x hx
    obtain ⟨j, hj, rfl⟩ := List.getElem_of_mem hx
    simpa using hup j hj
  rw [this]; rfl
theorem max_calls (a b : Int) (w : World) : Calls Try.prog 52 #[.int .i64 a, .int .i64 b] w fun e w' => e = .returned (.int .i64 (max a b)) ∧ w = w' := by
  by_cases h : b < a
  · have hb : decide (b < a) = true := by simp [h]
    have hm : max a b = a := by omega
    go_enter Try.func52, Try.ntmps52
    go_wp2
    go_ret
    exact ⟨by first | (rw [hm]; rfl) | rfl, rfl⟩
  · have hb : decide (b < a) = false := by simp; omega
    have hm : max a b = b := by omega
    go_enter Try.func52, Try.ntmps52
    go_wp2
    go_ret
    exact ⟨by first | (rw [hm]; rfl) | rfl, rfl⟩
set_option maxRecDepth 100000 in
set_option maxHeartbeats 1000000 in
theorem specMost_calls (A : Option Addr) (c : Nat) (xs : List DHold) (F : List Nat) (w : World) (h : Rep.Hold.sl w A c xs F) (id : Int) :
    Calls Try.prog 53 #[.slice A xs.length c, .int .i64 id] w fun e w' => e = .returned (.int .i64 (mostL xs id (-1))) ∧ Ext w w' := by
  have hu := Try.underlying75
  have hm := Nat.le_trans h.1 h.2.1
  unfold maxLen at hm
  obtain ⟨R, hR⟩ : ∃ R, R = mostL xs id (-1) := ⟨_, rfl⟩
  rw [← hR]
  have HR := Lib.hid hR; have H := Lib.hid h
  clear hR h
  go_enter Try.func53, Try.ntmps53
  go_wp2
  go_loopg [5] (xs.length) (fun m i wr => ∃ k : Nat, m + k = xs.length ∧ i = .int .i64 k ∧ Ext w wr ∧ ∀ j (hj : j < xs.length), j < k → xs[j].Id ≠ id)
  case atStart => exact ⟨0, by simp, rfl, Only.refl _ _, fun j hj h => absurd h (Nat.not_lt_zero _)⟩
  case round =>
    obtain ⟨k, hmk, rfl, hE, hup⟩ := hrel
    have HE := Lib.hid hE; have HUP := Lib.hid hup; have HMK := Lib.hid hmk
    clear hE hup hmk
    by_cases hlt : k < xs.length
    · obtain ⟨g, off, rfl, hg, -, a0, -, a2⟩ := sl_Hold (Rep.sl_ext H.out HE.out) k hlt
      by_cases hc : xs[k].Id = id
      · have HRb := Lib.hid (show R = xs[k].Most by rw [HR.out]; exact mostL_hit k hlt hc HUP.out)
        have hcb : (xs[k].Id == id) = true := by simp [hc]
        clear hc
        generalize xs[k] = x at *
        go_wp2
        go_ret
        exact ⟨by rw [HRb.out]; rfl, HE.out⟩
      · have hcb : (xs[k].Id == id) = false := by simp [hc]
        have HUP2 := Lib.hid (show ∀ j (hj : j < xs.length), j < k + 1 → xs[j].Id ≠ id by
          intro j hj hjk
          by_cases he : j = k
          · subst he; exact hc
          · exact HUP.out j hj (by omega))
        clear hc
        generalize xs[k] = x at *
        go_wp2
        go_roundg (xs.length - (k + 1))
        case measure => have := HMK.out; omega
        case rel => exact ⟨k + 1, by have := HMK.out; omega, by go_num, HE.out, HUP2.out⟩
    · have HRb := Lib.hid (show R = -1 by rw [HR.out]; exact mostL_none fun j hj => HUP.out j hj (by omega))
      go_wp2
      go_ret
      exact ⟨by rw [HRb.out]; rfl, HE.out⟩
set_option maxRecDepth 100000 in
set_option maxHeartbeats 1000000 in
theorem implMost_calls (A : Option Addr) (c : Nat) (xs : List DHold) (F : List Nat) (w : World) (h : Rep.Hold.sl w A c xs F) (id : Int) :
    Calls Try.prog 55 #[.slice A xs.length c, .int .i64 id] w fun e w' => e = .returned (.int .i64 (mostL xs id 0)) ∧ Ext w w' := by
  have hu := Try.underlying75
  have hm := Nat.le_trans h.1 h.2.1
  unfold maxLen at hm
  obtain ⟨R, hR⟩ : ∃ R, R = mostL xs id 0 := ⟨_, rfl⟩
  rw [← hR]
  have HR := Lib.hid hR; have H := Lib.hid h
  clear hR h
  go_enter Try.func55, Try.ntmps55
  go_wp2
  go_loopg [9] (xs.length) (fun m i wr => ∃ k : Nat, m + k = xs.length ∧ i = .int .i64 k ∧ Ext w wr ∧ ∀ j (hj : j < xs.length), j < k → xs[j].Id ≠ id)
  case atStart => exact ⟨0, by simp, rfl, Only.refl _ _, fun j hj h => absurd h (Nat.not_lt_zero _)⟩
  case round =>
    obtain ⟨k, hmk, rfl, hE, hup⟩ := hrel
    have HE := Lib.hid hE; have HUP := Lib.hid hup; have HMK := Lib.hid hmk
    clear hE hup hmk
    by_cases hlt : k < xs.length
    · obtain ⟨g, off, rfl, hg, -, a0, a1, a2⟩ := sl_Hold (Rep.sl_ext H.out HE.out) k hlt
      by_cases hc : xs[k].Id = id
      · have HRb := Lib.hid (show R = xs[k].Most by rw [HR.out]; exact mostL_hit k hlt hc HUP.out)
        have hcb : (xs[k].Id == id) = true := by simp [hc]
        clear hc
        generalize xs[k] = x at *
        have mo := fun o => cell_of_row _ _ o _ _ _ (heap_alloc_new wr (.cells #[.int .i64 x.Id, .int .i64 x.Txn, .int .i64 x.Most] 75))
        go_wp2
        go_ret
        exact ⟨by rw [HRb.out]; rfl, HE.out.alloc _⟩
      · have hcb : (xs[k].Id == id) = false := by simp [hc]
        have HUP2 := Lib.hid (show ∀ j (hj : j < xs.length), j < k + 1 → xs[j].Id ≠ id by
          intro j hj hjk
          by_cases he : j = k
          · subst he; exact hc
          · exact HUP.out j hj (by omega))
        clear hc
        generalize xs[k] = x at *
        have mo := fun o => cell_of_row _ _ o _ _ _ (heap_alloc_new wr (.cells #[.int .i64 x.Id, .int .i64 x.Txn, .int .i64 x.Most] 75))
        go_wp2
        go_roundg (xs.length - (k + 1))
        case measure => have := HMK.out; omega
        case rel => exact ⟨k + 1, by have := HMK.out; omega, by go_num, HE.out.alloc _, HUP2.out⟩
    · have HRb := Lib.hid (show R = 0 by rw [HR.out]; exact mostL_none fun j hj => HUP.out j hj (by omega))
      go_wp2
      go_ret
      exact ⟨by rw [HRb.out]; rfl, HE.out⟩
end Go.Proofs.Ytildfjlekplgjaa
