/- Records: the small tests of both packages. -/
import Derived.Test.YtghgjddiheebeaaDoorMG1
namespace Go.Proofs.YtghgjddiheebeaaDoor
open Go.RowKit
set_option linter.unusedSimpArgs false
set_option linter.unusedVariables false
def inR (x lo hi : Int) : Bool := decide (lo ≤ x) && decide (x ≤ hi)
def zR (u : Bool) (n : Nat) : Bool := !u && decide (n = 0)
def bR (u : Bool) (n : Nat) : Bool := decide (1000 < n) || (!u && decide (0 < n))
theorem inR_true {x lo hi : Int} : inR x lo hi = true ↔ lo ≤ x ∧ x ≤ hi := by simp [inR]
theorem inR_false {x lo hi : Int} : inR x lo hi = false ↔ ¬ (lo ≤ x ∧ x ≤ hi) := by
  rw [← inR_true]; simp
theorem zR_true {u : Bool} {n : Nat} : zR u n = true ↔ u = false ∧ n = 0 := by cases u <;> simp [zR]
theorem bR_false {u : Bool} {n : Nat} : bR u n = false ↔ n ≤ 1000 ∧ (u = true ∨ n = 0) := by cases u <;> simp [bR] <;> omega

theorem in_calls (w : World) (x lo hi : Int) : Calls Tryd.prog 77 #[.int .i64 x, .int .i64 lo, .int .i64 hi] w fun e w' => e = .returned (.bool (inR x lo hi)) ∧ w = w' := by
  by_cases h1 : lo ≤ x
  · by_cases h2 : x ≤ hi
    · rw [inR_true.2 ⟨h1, h2⟩]
      go_enter Tryd.func77, Tryd.ntmps77
      go_wp2
      go_ret
      exact ⟨rfl, rfl⟩
    · rw [inR_false.2 (fun h => h2 h.2)]
      go_enter Tryd.func77, Tryd.ntmps77
      go_wp2
      go_ret
      exact ⟨rfl, rfl⟩
  · rw [inR_false.2 (fun h => h1 h.1)]
    have h1' : x < lo := by omega
    go_enter Tryd.func77, Tryd.ntmps77
    go_wp2
    go_ret
    exact ⟨rfl, rfl⟩

theorem l4In_calls (w : World) (x lo hi : Int) : Calls Tryd.prog 70 #[.int .i64 x, .int .i64 lo, .int .i64 hi] w fun e w' => e = .returned (.bool (inR x lo hi)) ∧ w = w' := by
  by_cases h1 : lo ≤ x
  · by_cases h2 : x ≤ hi
    · rw [inR_true.2 ⟨h1, h2⟩]
      go_enter Tryd.func70, Tryd.ntmps70
      go_wp2
      go_ret
      exact ⟨rfl, rfl⟩
    · rw [inR_false.2 (fun h => h2 h.2)]
      go_enter Tryd.func70, Tryd.ntmps70
      go_wp2
      go_ret
      exact ⟨rfl, rfl⟩
  · rw [inR_false.2 (fun h => h1 h.1)]
    have h1' : x < lo := by omega
    go_enter Tryd.func70, Tryd.ntmps70
    go_wp2
    go_ret
    exact ⟨rfl, rfl⟩

theorem zeroRec_calls (w : World) (u : Bool) (A : Option Addr) (n c : Nat) : Calls Tryd.prog 78 #[.agg #[.bool u, .slice A n c]] w fun e w' => e = .returned (.bool (zR u n)) ∧ Ext w w' := by
  have hu := Tryd.underlying33
  rcases (show (u = true ∧ True) ∨ (u = false ∧ n = 0) ∨ (u = false ∧ ¬ n = 0) from by
    cases u <;> simp <;> omega) with ⟨h0, h1⟩ | ⟨h0, h1⟩ | ⟨h0, h1⟩
  · rw [show (zR u n) = false from by (try rw [h0]); simp [zR, bR]; try omega]
    subst h0
    skip
    go_enter Tryd.func78, Tryd.ntmps78
    go_wp2
    go_ret
    exact ⟨rfl, (Only.refl _ _).alloc _⟩
  · rw [show (zR u n) = true from by (try rw [h0]); simp [zR, bR]; try omega]
    subst h0
    subst h1
    go_enter Tryd.func78, Tryd.ntmps78
    go_wp2
    go_ret
    exact ⟨rfl, (Only.refl _ _).alloc _⟩
  · rw [show (zR u n) = false from by (try rw [h0]); simp [zR, bR]; try omega]
    subst h0
    have h1' : ((n : Int) == 0) = false := by simp; omega
    go_enter Tryd.func78, Tryd.ntmps78
    go_wp2
    go_ret
    exact ⟨rfl, (Only.refl _ _).alloc _⟩

theorem l4Empty_calls (w : World) (u : Bool) (A : Option Addr) (n c : Nat) : Calls Tryd.prog 110 #[.agg #[.bool u, .slice A n c]] w fun e w' => e = .returned (.bool (zR u n)) ∧ Ext w w' := by
  have hu := Tryd.underlying33
  rcases (show (u = true ∧ True) ∨ (u = false ∧ n = 0) ∨ (u = false ∧ ¬ n = 0) from by
    cases u <;> simp <;> omega) with ⟨h0, h1⟩ | ⟨h0, h1⟩ | ⟨h0, h1⟩
  · rw [show (zR u n) = false from by (try rw [h0]); simp [zR, bR]; try omega]
    subst h0
    skip
    go_enter Tryd.func110, Tryd.ntmps110
    go_wp2
    go_ret
    exact ⟨rfl, (Only.refl _ _).alloc _⟩
  · rw [show (zR u n) = true from by (try rw [h0]); simp [zR, bR]; try omega]
    subst h0
    subst h1
    go_enter Tryd.func110, Tryd.ntmps110
    go_wp2
    go_ret
    exact ⟨rfl, (Only.refl _ _).alloc _⟩
  · rw [show (zR u n) = false from by (try rw [h0]); simp [zR, bR]; try omega]
    subst h0
    have h1' : ((n : Int) == 0) = false := by simp; omega
    go_enter Tryd.func110, Tryd.ntmps110
    go_wp2
    go_ret
    exact ⟨rfl, (Only.refl _ _).alloc _⟩

theorem badRec_calls (w : World) (u : Bool) (A : Option Addr) (n c : Nat) : Calls Tryd.prog 79 #[.agg #[.bool u, .slice A n c]] w fun e w' => e = .returned (.bool (bR u n)) ∧ Ext w w' := by
  have hu := Tryd.underlying33
  rcases (show (1000 < n) ∨ (u = true ∧ ¬ 1000 < n) ∨ (u = false ∧ ¬ 1000 < n ∧ 0 < n) ∨ (u = false ∧ ¬ 1000 < n ∧ n = 0) from by
    cases u <;> simp <;> omega) with h1 | ⟨h0, h1⟩ | ⟨h0, h1, h2⟩ | ⟨h0, h1, h2⟩
  · rw [show (bR u n) = true from by (try rw [h0]); simp [zR, bR]; try omega]
    have h1' : (1000 : Int) < n := by omega
    go_enter Tryd.func79, Tryd.ntmps79
    go_wp2
    go_ret
    exact ⟨rfl, (Only.refl _ _).alloc _⟩
  · rw [show (bR u n) = false from by (try rw [h0]); simp [zR, bR]; try omega]
    subst h0
    have h1' : ¬ (1000 : Int) < n := by omega
    go_enter Tryd.func79, Tryd.ntmps79
    go_wp2
    go_ret
    exact ⟨rfl, (Only.refl _ _).alloc _⟩
  · rw [show (bR u n) = true from by (try rw [h0]); simp [zR, bR]; try omega]
    subst h0
    have h1' : ¬ (1000 : Int) < n := by omega
    have h2' : (0 : Int) < n := by omega
    go_enter Tryd.func79, Tryd.ntmps79
    go_wp2
    go_ret
    exact ⟨rfl, (Only.refl _ _).alloc _⟩
  · rw [show (bR u n) = false from by (try rw [h0]); simp [zR, bR]; try omega]
    subst h0
    have h1' : ¬ (1000 : Int) < n := by omega
    subst h2
    go_enter Tryd.func79, Tryd.ntmps79
    go_wp2
    go_ret
    exact ⟨rfl, (Only.refl _ _).alloc _⟩

theorem l4Slot_calls (w : World) (u : Bool) (A : Option Addr) (n c : Nat) : Calls Tryd.prog 72 #[.agg #[.bool u, .slice A n c]] w fun e w' => e = .returned (.bool (!bR u n)) ∧ Ext w w' := by
  have hu := Tryd.underlying33
  rcases (show (1000 < n) ∨ (u = true ∧ ¬ 1000 < n) ∨ (u = false ∧ ¬ 1000 < n ∧ 0 < n) ∨ (u = false ∧ ¬ 1000 < n ∧ n = 0) from by
    cases u <;> simp <;> omega) with h1 | ⟨h0, h1⟩ | ⟨h0, h1, h2⟩ | ⟨h0, h1, h2⟩
  · rw [show (!bR u n) = false from by (try rw [h0]); simp [zR, bR]; try omega]
    have h1' : ¬ (n : Int) ≤ 1000 := by omega
    go_enter Tryd.func72, Tryd.ntmps72
    go_wp2
    go_ret
    exact ⟨rfl, (Only.refl _ _).alloc _⟩
  · rw [show (!bR u n) = true from by (try rw [h0]); simp [zR, bR]; try omega]
    subst h0
    have h1' : (n : Int) ≤ 1000 := by omega
    go_enter Tryd.func72, Tryd.ntmps72
    go_wp2
    go_ret
    exact ⟨rfl, (Only.refl _ _).alloc _⟩
  · rw [show (!bR u n) = false from by (try rw [h0]); simp [zR, bR]; try omega]
    subst h0
    have h1' : (n : Int) ≤ 1000 := by omega
    have h2' : ((n : Int) == 0) = false := by simp; omega
    go_enter Tryd.func72, Tryd.ntmps72
    go_wp2
    go_ret
    exact ⟨rfl, (Only.refl _ _).alloc _⟩
  · rw [show (!bR u n) = true from by (try rw [h0]); simp [zR, bR]; try omega]
    subst h0
    have h1' : (n : Int) ≤ 1000 := by omega
    subst h2
    go_enter Tryd.func72, Tryd.ntmps72
    go_wp2
    go_ret
    exact ⟨rfl, (Only.refl _ _).alloc _⟩
end Go.Proofs.YtghgjddiheebeaaDoor
