/- RecordFault: the model; the program's, a kind at a time. -/
import Derived.Test.YtghgjddiheebeaaDoorMX15
import Derived.Deep.DeepCutAuto
import Derived.Deep.CutBlock
namespace Go.Proofs.YtghgjddiheebeaaDoor
open Go.RowKit
set_option linter.unusedSimpArgs false
set_option linter.unusedVariables false
/-- Has the record a field that its kind has not? -/
def extraF (k t pv pg sl : Int) (u1 : Bool) (n1 : Nat) (u2 : Bool) (n2 : Nat) (un nt : Int) (n3 n4 n5 : Nat) : Bool :=
  (decide (5 < k) && (decide (t ≠ 0) || decide (pv ≠ 0))) || (decide (2 < k) && (decide (sl ≠ 0) || !zR u2 n2)) || (decide (2 < k) && decide (k ≠ 8) && decide (pg ≠ 0)) || (decide (k ≠ 1) && !zR u1 n1)
    || (decide (k ≠ 2) && decide (un ≠ 0)) || (decide (k ≠ 7) && (decide (nt ≠ 0) || decide (0 < n3) || decide (0 < n4))) || (decide (k ≠ 8) && decide (0 < n5))
def recF (k t pv pg sl : Int) (u1 : Bool) (n1 : Nat) (u2 : Bool) (n2 : Nat) (un nt : Int) (n3 n4 n5 : Nat) (tb : Bool) (pf : Int) : Int :=
  if inR k 1 8 = false then 1
  else if extraF k t pv pg sl u1 n1 u2 n2 un nt n3 n4 n5 = true then 2
  else if k ≤ 5 ∧ inR t 1 2147483647 = false then 3
  else if inR pv 0 1099511627776 = false then 4
  else if inR pg 0 15 = false ∨ inR sl 0 31 = false then 5
  else if k ≤ 2 ∧ (bR u1 n1 = true ∨ bR u2 n2 = true ∨ (k = 1 ∧ u1 = false ∧ u2 = false)) then 6
  else if k = 2 ∧ inR un 0 1099511627776 = false then 7
  else if k = 7 ∧ tb = true then 8
  else if k = 8 ∧ pf ≠ 0 then 9 else 0
set_option maxRecDepth 100000 in
set_option maxHeartbeats 8000000 in
theorem implRF_3 (w : World) (t pv pg sl : Int) (u1 : Bool) (A1 : Option Addr) (n1 c1 : Nat) (u2 : Bool) (A2 : Option Addr) (n2 c2 : Nat) (un nt : Int) (A3 : Option Addr) (n3 c3 : Nat) (A4 : Option Addr) (n4 c4 : Nat) (A5 : Option Addr) (n5 c5 : Nat) (tb : Bool) (pf : Int) :
    Calls Tryd.prog 29 #[.agg #[.int .i64 3, .int .i64 t, .int .i64 pv, .int .i64 pg, .int .i64 sl, .bool u1, .slice A1 n1 c1, .bool u2, .slice A2 n2 c2, .int .i64 un, .int .i64 nt, .slice A3 n3 c3, .slice A4 n4 c4, .slice A5 n5 c5]] w fun e w' => e = .returned (.int .i64 (recF 3 t pv pg sl u1 n1 u2 n2 un nt n3 n4 n5 tb pf)) ∧ Ext w w' := by
  have hu := Tryd.underlying49
  have hu2 := Tryd.underlying33
  have hk : inR 3 1 8 = true := rfl
  have z1 : inR 0 0 1099511627776 = true := rfl
  have z2 : inR 0 0 15 = true := rfl
  have z3 : inR 0 0 31 = true := rfl
  by_cases a0 : sl = 0
  case neg =>
    have a0b : (sl != 0) = true := bne_iff_ne.2 a0
    rw [show recF 3 _ _ _ _ _ _ _ _ _ _ _ _ _ _ _ = 2 from by simp [recF, extraF, z1, z2, z3, hk, a0]]
    have HE0 := Lib.hid (Only.refl [] (w.alloc (.cells #[.int .i64 3, .int .i64 t, .int .i64 pv, .int .i64 pg, .int .i64 sl, .bool u1, .slice A1 n1 c1, .bool u2, .slice A2 n2 c2, .int .i64 un, .int .i64 nt, .slice A3 n3 c3, .slice A4 n4 c4, .slice A5 n5 c5] 49)))
    go_enter Tryd.func29, Tryd.ntmps29
    go_upto_region 6 with (go_at_call 77; refine (in_calls _ _ _ _).mono ?_; rintro e w1 ⟨rfl, rfl⟩)
    dsimp only [List.append]
    go_wp2_with (first
      | (go_at_call 77; refine (in_calls _ _ _ _).mono ?_; rintro e w1 ⟨rfl, rfl⟩)
      | (go_at_call 78; refine (zeroRec_calls _ _ _ _ _).mono ?_; rintro e w1 ⟨rfl, hE⟩; replace HE0 := Lib.hid (HE0.out.ext hE); have m := fun o => alloc_cell HE0.out o; clear hE)
      | (go_at_call 79; refine (badRec_calls _ _ _ _ _).mono ?_; rintro e w1 ⟨rfl, hE⟩; replace HE0 := Lib.hid (HE0.out.ext hE); have m := fun o => alloc_cell HE0.out o; clear hE)
      | fail)
    go_ret
    exact ⟨rfl, (alloc_ext _ _).ext HE0.out⟩
  subst a0
  by_cases a1 : zR u2 n2 = true
  case neg =>
    replace a1 : zR u2 n2 = false := by simpa using a1
    rw [show recF 3 _ _ _ _ _ _ _ _ _ _ _ _ _ _ _ = 2 from by simp [recF, extraF, z1, z2, z3, hk, a1]]
    have HE0 := Lib.hid (Only.refl [] (w.alloc (.cells #[.int .i64 3, .int .i64 t, .int .i64 pv, .int .i64 pg, .int .i64 0, .bool u1, .slice A1 n1 c1, .bool u2, .slice A2 n2 c2, .int .i64 un, .int .i64 nt, .slice A3 n3 c3, .slice A4 n4 c4, .slice A5 n5 c5] 49)))
    go_enter Tryd.func29, Tryd.ntmps29
    go_upto_region 6 with (go_at_call 77; refine (in_calls _ _ _ _).mono ?_; rintro e w1 ⟨rfl, rfl⟩)
    dsimp only [List.append]
    go_wp2_with (first
      | (go_at_call 77; refine (in_calls _ _ _ _).mono ?_; rintro e w1 ⟨rfl, rfl⟩)
      | (go_at_call 78; refine (zeroRec_calls _ _ _ _ _).mono ?_; rintro e w1 ⟨rfl, hE⟩; replace HE0 := Lib.hid (HE0.out.ext hE); have m := fun o => alloc_cell HE0.out o; clear hE)
      | (go_at_call 79; refine (badRec_calls _ _ _ _ _).mono ?_; rintro e w1 ⟨rfl, hE⟩; replace HE0 := Lib.hid (HE0.out.ext hE); have m := fun o => alloc_cell HE0.out o; clear hE)
      | fail)
    go_ret
    exact ⟨rfl, (alloc_ext _ _).ext HE0.out⟩
  have a1c : bR u2 n2 = false := bR_false.2 (by have h := zR_true.1 a1; exact ⟨by omega, .inr h.2⟩)
  by_cases a2 : pg = 0
  case neg =>
    have a2b : (pg != 0) = true := bne_iff_ne.2 a2
    rw [show recF 3 _ _ _ _ _ _ _ _ _ _ _ _ _ _ _ = 2 from by simp [recF, extraF, z1, z2, z3, hk, a1, a1c, a2]]
    have HE0 := Lib.hid (Only.refl [] (w.alloc (.cells #[.int .i64 3, .int .i64 t, .int .i64 pv, .int .i64 pg, .int .i64 0, .bool u1, .slice A1 n1 c1, .bool u2, .slice A2 n2 c2, .int .i64 un, .int .i64 nt, .slice A3 n3 c3, .slice A4 n4 c4, .slice A5 n5 c5] 49)))
    go_enter Tryd.func29, Tryd.ntmps29
    go_upto_region 6 with (go_at_call 77; refine (in_calls _ _ _ _).mono ?_; rintro e w1 ⟨rfl, rfl⟩)
    dsimp only [List.append]
    go_wp2_with (first
      | (go_at_call 77; refine (in_calls _ _ _ _).mono ?_; rintro e w1 ⟨rfl, rfl⟩)
      | (go_at_call 78; refine (zeroRec_calls _ _ _ _ _).mono ?_; rintro e w1 ⟨rfl, hE⟩; replace HE0 := Lib.hid (HE0.out.ext hE); have m := fun o => alloc_cell HE0.out o; clear hE)
      | (go_at_call 79; refine (badRec_calls _ _ _ _ _).mono ?_; rintro e w1 ⟨rfl, hE⟩; replace HE0 := Lib.hid (HE0.out.ext hE); have m := fun o => alloc_cell HE0.out o; clear hE)
      | fail)
    go_ret
    exact ⟨rfl, (alloc_ext _ _).ext HE0.out⟩
  subst a2
  by_cases a3 : zR u1 n1 = true
  case neg =>
    replace a3 : zR u1 n1 = false := by simpa using a3
    rw [show recF 3 _ _ _ _ _ _ _ _ _ _ _ _ _ _ _ = 2 from by simp [recF, extraF, z1, z2, z3, hk, a1, a1c, a3]]
    have HE0 := Lib.hid (Only.refl [] (w.alloc (.cells #[.int .i64 3, .int .i64 t, .int .i64 pv, .int .i64 0, .int .i64 0, .bool u1, .slice A1 n1 c1, .bool u2, .slice A2 n2 c2, .int .i64 un, .int .i64 nt, .slice A3 n3 c3, .slice A4 n4 c4, .slice A5 n5 c5] 49)))
    go_enter Tryd.func29, Tryd.ntmps29
    go_upto_region 6 with (go_at_call 77; refine (in_calls _ _ _ _).mono ?_; rintro e w1 ⟨rfl, rfl⟩)
    dsimp only [List.append]
    go_wp2_with (first
      | (go_at_call 77; refine (in_calls _ _ _ _).mono ?_; rintro e w1 ⟨rfl, rfl⟩)
      | (go_at_call 78; refine (zeroRec_calls _ _ _ _ _).mono ?_; rintro e w1 ⟨rfl, hE⟩; replace HE0 := Lib.hid (HE0.out.ext hE); have m := fun o => alloc_cell HE0.out o; clear hE)
      | (go_at_call 79; refine (badRec_calls _ _ _ _ _).mono ?_; rintro e w1 ⟨rfl, hE⟩; replace HE0 := Lib.hid (HE0.out.ext hE); have m := fun o => alloc_cell HE0.out o; clear hE)
      | fail)
    go_ret
    exact ⟨rfl, (alloc_ext _ _).ext HE0.out⟩
  have a3c : bR u1 n1 = false := bR_false.2 (by have h := zR_true.1 a3; exact ⟨by omega, .inr h.2⟩)
  by_cases a4 : un = 0
  case neg =>
    have a4b : (un != 0) = true := bne_iff_ne.2 a4
    rw [show recF 3 _ _ _ _ _ _ _ _ _ _ _ _ _ _ _ = 2 from by simp [recF, extraF, z1, z2, z3, hk, a1, a1c, a3, a3c, a4]]
    have HE0 := Lib.hid (Only.refl [] (w.alloc (.cells #[.int .i64 3, .int .i64 t, .int .i64 pv, .int .i64 0, .int .i64 0, .bool u1, .slice A1 n1 c1, .bool u2, .slice A2 n2 c2, .int .i64 un, .int .i64 nt, .slice A3 n3 c3, .slice A4 n4 c4, .slice A5 n5 c5] 49)))
    go_enter Tryd.func29, Tryd.ntmps29
    go_upto_region 6 with (go_at_call 77; refine (in_calls _ _ _ _).mono ?_; rintro e w1 ⟨rfl, rfl⟩)
    dsimp only [List.append]
    go_wp2_with (first
      | (go_at_call 77; refine (in_calls _ _ _ _).mono ?_; rintro e w1 ⟨rfl, rfl⟩)
      | (go_at_call 78; refine (zeroRec_calls _ _ _ _ _).mono ?_; rintro e w1 ⟨rfl, hE⟩; replace HE0 := Lib.hid (HE0.out.ext hE); have m := fun o => alloc_cell HE0.out o; clear hE)
      | (go_at_call 79; refine (badRec_calls _ _ _ _ _).mono ?_; rintro e w1 ⟨rfl, hE⟩; replace HE0 := Lib.hid (HE0.out.ext hE); have m := fun o => alloc_cell HE0.out o; clear hE)
      | fail)
    go_ret
    exact ⟨rfl, (alloc_ext _ _).ext HE0.out⟩
  subst a4
  by_cases a5 : nt = 0
  case neg =>
    have a5b : (nt != 0) = true := bne_iff_ne.2 a5
    rw [show recF 3 _ _ _ _ _ _ _ _ _ _ _ _ _ _ _ = 2 from by simp [recF, extraF, z1, z2, z3, hk, a1, a1c, a3, a3c, a5]]
    have HE0 := Lib.hid (Only.refl [] (w.alloc (.cells #[.int .i64 3, .int .i64 t, .int .i64 pv, .int .i64 0, .int .i64 0, .bool u1, .slice A1 n1 c1, .bool u2, .slice A2 n2 c2, .int .i64 0, .int .i64 nt, .slice A3 n3 c3, .slice A4 n4 c4, .slice A5 n5 c5] 49)))
    go_enter Tryd.func29, Tryd.ntmps29
    go_upto_region 6 with (go_at_call 77; refine (in_calls _ _ _ _).mono ?_; rintro e w1 ⟨rfl, rfl⟩)
    dsimp only [List.append]
    go_wp2_with (first
      | (go_at_call 77; refine (in_calls _ _ _ _).mono ?_; rintro e w1 ⟨rfl, rfl⟩)
      | (go_at_call 78; refine (zeroRec_calls _ _ _ _ _).mono ?_; rintro e w1 ⟨rfl, hE⟩; replace HE0 := Lib.hid (HE0.out.ext hE); have m := fun o => alloc_cell HE0.out o; clear hE)
      | (go_at_call 79; refine (badRec_calls _ _ _ _ _).mono ?_; rintro e w1 ⟨rfl, hE⟩; replace HE0 := Lib.hid (HE0.out.ext hE); have m := fun o => alloc_cell HE0.out o; clear hE)
      | fail)
    go_ret
    exact ⟨rfl, (alloc_ext _ _).ext HE0.out⟩
  subst a5
  by_cases a6 : n3 = 0
  case neg =>
    have a6b : 0 < n3 := by omega
    have a6c : (0 : Int) < (n3 : Int) := by omega
    have a6d : decide (0 < n3) = true := decide_eq_true a6b
    rw [show recF 3 _ _ _ _ _ _ _ _ _ _ _ _ _ _ _ = 2 from by simp [recF, extraF, z1, z2, z3, hk, a1, a1c, a3, a3c, a6, a6b]]
    have HE0 := Lib.hid (Only.refl [] (w.alloc (.cells #[.int .i64 3, .int .i64 t, .int .i64 pv, .int .i64 0, .int .i64 0, .bool u1, .slice A1 n1 c1, .bool u2, .slice A2 n2 c2, .int .i64 0, .int .i64 0, .slice A3 n3 c3, .slice A4 n4 c4, .slice A5 n5 c5] 49)))
    go_enter Tryd.func29, Tryd.ntmps29
    go_upto_region 6 with (go_at_call 77; refine (in_calls _ _ _ _).mono ?_; rintro e w1 ⟨rfl, rfl⟩)
    dsimp only [List.append]
    go_wp2_with (first
      | (go_at_call 77; refine (in_calls _ _ _ _).mono ?_; rintro e w1 ⟨rfl, rfl⟩)
      | (go_at_call 78; refine (zeroRec_calls _ _ _ _ _).mono ?_; rintro e w1 ⟨rfl, hE⟩; replace HE0 := Lib.hid (HE0.out.ext hE); have m := fun o => alloc_cell HE0.out o; clear hE)
      | (go_at_call 79; refine (badRec_calls _ _ _ _ _).mono ?_; rintro e w1 ⟨rfl, hE⟩; replace HE0 := Lib.hid (HE0.out.ext hE); have m := fun o => alloc_cell HE0.out o; clear hE)
      | fail)
    go_ret
    exact ⟨rfl, (alloc_ext _ _).ext HE0.out⟩
  subst a6
  by_cases a7 : n4 = 0
  case neg =>
    have a7b : 0 < n4 := by omega
    have a7c : (0 : Int) < (n4 : Int) := by omega
    have a7d : decide (0 < n4) = true := decide_eq_true a7b
    rw [show recF 3 _ _ _ _ _ _ _ _ _ _ _ _ _ _ _ = 2 from by simp [recF, extraF, z1, z2, z3, hk, a1, a1c, a3, a3c, a7, a7b]]
    have HE0 := Lib.hid (Only.refl [] (w.alloc (.cells #[.int .i64 3, .int .i64 t, .int .i64 pv, .int .i64 0, .int .i64 0, .bool u1, .slice A1 n1 c1, .bool u2, .slice A2 n2 c2, .int .i64 0, .int .i64 0, .slice A3 0 c3, .slice A4 n4 c4, .slice A5 n5 c5] 49)))
    go_enter Tryd.func29, Tryd.ntmps29
    go_upto_region 6 with (go_at_call 77; refine (in_calls _ _ _ _).mono ?_; rintro e w1 ⟨rfl, rfl⟩)
    dsimp only [List.append]
    go_wp2_with (first
      | (go_at_call 77; refine (in_calls _ _ _ _).mono ?_; rintro e w1 ⟨rfl, rfl⟩)
      | (go_at_call 78; refine (zeroRec_calls _ _ _ _ _).mono ?_; rintro e w1 ⟨rfl, hE⟩; replace HE0 := Lib.hid (HE0.out.ext hE); have m := fun o => alloc_cell HE0.out o; clear hE)
      | (go_at_call 79; refine (badRec_calls _ _ _ _ _).mono ?_; rintro e w1 ⟨rfl, hE⟩; replace HE0 := Lib.hid (HE0.out.ext hE); have m := fun o => alloc_cell HE0.out o; clear hE)
      | fail)
    go_ret
    exact ⟨rfl, (alloc_ext _ _).ext HE0.out⟩
  subst a7
  by_cases a8 : n5 = 0
  case neg =>
    have a8b : 0 < n5 := by omega
    have a8c : (0 : Int) < (n5 : Int) := by omega
    have a8d : decide (0 < n5) = true := decide_eq_true a8b
    rw [show recF 3 _ _ _ _ _ _ _ _ _ _ _ _ _ _ _ = 2 from by simp [recF, extraF, z1, z2, z3, hk, a1, a1c, a3, a3c, a8, a8b]]
    have HE0 := Lib.hid (Only.refl [] (w.alloc (.cells #[.int .i64 3, .int .i64 t, .int .i64 pv, .int .i64 0, .int .i64 0, .bool u1, .slice A1 n1 c1, .bool u2, .slice A2 n2 c2, .int .i64 0, .int .i64 0, .slice A3 0 c3, .slice A4 0 c4, .slice A5 n5 c5] 49)))
    go_enter Tryd.func29, Tryd.ntmps29
    go_upto_region 6 with (go_at_call 77; refine (in_calls _ _ _ _).mono ?_; rintro e w1 ⟨rfl, rfl⟩)
    dsimp only [List.append]
    go_wp2_with (first
      | (go_at_call 77; refine (in_calls _ _ _ _).mono ?_; rintro e w1 ⟨rfl, rfl⟩)
      | (go_at_call 78; refine (zeroRec_calls _ _ _ _ _).mono ?_; rintro e w1 ⟨rfl, hE⟩; replace HE0 := Lib.hid (HE0.out.ext hE); have m := fun o => alloc_cell HE0.out o; clear hE)
      | (go_at_call 79; refine (badRec_calls _ _ _ _ _).mono ?_; rintro e w1 ⟨rfl, hE⟩; replace HE0 := Lib.hid (HE0.out.ext hE); have m := fun o => alloc_cell HE0.out o; clear hE)
      | fail)
    go_ret
    exact ⟨rfl, (alloc_ext _ _).ext HE0.out⟩
  subst a8
  by_cases a9 : inR t 1 2147483647 = true
  case neg =>
    replace a9 : inR t 1 2147483647 = false := by simpa using a9
    rw [show recF 3 _ _ _ _ _ _ _ _ _ _ _ _ _ _ _ = 3 from by simp [recF, extraF, z1, z2, z3, hk, a1, a1c, a3, a3c, a9]]
    have HE0 := Lib.hid (Only.refl [] (w.alloc (.cells #[.int .i64 3, .int .i64 t, .int .i64 pv, .int .i64 0, .int .i64 0, .bool u1, .slice A1 n1 c1, .bool u2, .slice A2 n2 c2, .int .i64 0, .int .i64 0, .slice A3 0 c3, .slice A4 0 c4, .slice A5 0 c5] 49)))
    go_enter Tryd.func29, Tryd.ntmps29
    go_upto_region 6 with (go_at_call 77; refine (in_calls _ _ _ _).mono ?_; rintro e w1 ⟨rfl, rfl⟩)
    dsimp only [List.append]
    go_wp2_with (first
      | (go_at_call 77; refine (in_calls _ _ _ _).mono ?_; rintro e w1 ⟨rfl, rfl⟩)
      | (go_at_call 78; refine (zeroRec_calls _ _ _ _ _).mono ?_; rintro e w1 ⟨rfl, hE⟩; replace HE0 := Lib.hid (HE0.out.ext hE); have m := fun o => alloc_cell HE0.out o; clear hE)
      | (go_at_call 79; refine (badRec_calls _ _ _ _ _).mono ?_; rintro e w1 ⟨rfl, hE⟩; replace HE0 := Lib.hid (HE0.out.ext hE); have m := fun o => alloc_cell HE0.out o; clear hE)
      | fail)
    go_ret
    exact ⟨rfl, (alloc_ext _ _).ext HE0.out⟩
  by_cases a10 : inR pv 0 1099511627776 = true
  case neg =>
    replace a10 : inR pv 0 1099511627776 = false := by simpa using a10
    rw [show recF 3 _ _ _ _ _ _ _ _ _ _ _ _ _ _ _ = 4 from by simp [recF, extraF, z1, z2, z3, hk, a1, a1c, a3, a3c, a9, a10]]
    have HE0 := Lib.hid (Only.refl [] (w.alloc (.cells #[.int .i64 3, .int .i64 t, .int .i64 pv, .int .i64 0, .int .i64 0, .bool u1, .slice A1 n1 c1, .bool u2, .slice A2 n2 c2, .int .i64 0, .int .i64 0, .slice A3 0 c3, .slice A4 0 c4, .slice A5 0 c5] 49)))
    go_enter Tryd.func29, Tryd.ntmps29
    go_upto_region 6 with (go_at_call 77; refine (in_calls _ _ _ _).mono ?_; rintro e w1 ⟨rfl, rfl⟩)
    dsimp only [List.append]
    go_wp2_with (first
      | (go_at_call 77; refine (in_calls _ _ _ _).mono ?_; rintro e w1 ⟨rfl, rfl⟩)
      | (go_at_call 78; refine (zeroRec_calls _ _ _ _ _).mono ?_; rintro e w1 ⟨rfl, hE⟩; replace HE0 := Lib.hid (HE0.out.ext hE); have m := fun o => alloc_cell HE0.out o; clear hE)
      | (go_at_call 79; refine (badRec_calls _ _ _ _ _).mono ?_; rintro e w1 ⟨rfl, hE⟩; replace HE0 := Lib.hid (HE0.out.ext hE); have m := fun o => alloc_cell HE0.out o; clear hE)
      | fail)
    go_ret
    exact ⟨rfl, (alloc_ext _ _).ext HE0.out⟩
  rw [show recF 3 _ _ _ _ _ _ _ _ _ _ _ _ _ _ _ = 0 from by simp [recF, extraF, z1, z2, z3, hk, a1, a1c, a3, a3c, a9, a10]]
  have HE0 := Lib.hid (Only.refl [] (w.alloc (.cells #[.int .i64 3, .int .i64 t, .int .i64 pv, .int .i64 0, .int .i64 0, .bool u1, .slice A1 n1 c1, .bool u2, .slice A2 n2 c2, .int .i64 0, .int .i64 0, .slice A3 0 c3, .slice A4 0 c4, .slice A5 0 c5] 49)))
  go_enter Tryd.func29, Tryd.ntmps29
  go_upto_region 6 with (go_at_call 77; refine (in_calls _ _ _ _).mono ?_; rintro e w1 ⟨rfl, rfl⟩)
  dsimp only [List.append]
  go_wp2_with (first
    | (go_at_call 77; refine (in_calls _ _ _ _).mono ?_; rintro e w1 ⟨rfl, rfl⟩)
    | (go_at_call 78; refine (zeroRec_calls _ _ _ _ _).mono ?_; rintro e w1 ⟨rfl, hE⟩; replace HE0 := Lib.hid (HE0.out.ext hE); have m := fun o => alloc_cell HE0.out o; clear hE)
    | (go_at_call 79; refine (badRec_calls _ _ _ _ _).mono ?_; rintro e w1 ⟨rfl, hE⟩; replace HE0 := Lib.hid (HE0.out.ext hE); have m := fun o => alloc_cell HE0.out o; clear hE)
    | fail)
  go_ret
  exact ⟨rfl, (alloc_ext _ _).ext HE0.out⟩
set_option maxRecDepth 100000 in
set_option maxHeartbeats 8000000 in
theorem implRF_4 (w : World) (t pv pg sl : Int) (u1 : Bool) (A1 : Option Addr) (n1 c1 : Nat) (u2 : Bool) (A2 : Option Addr) (n2 c2 : Nat) (un nt : Int) (A3 : Option Addr) (n3 c3 : Nat) (A4 : Option Addr) (n4 c4 : Nat) (A5 : Option Addr) (n5 c5 : Nat) (tb : Bool) (pf : Int) :
    Calls Tryd.prog 29 #[.agg #[.int .i64 4, .int .i64 t, .int .i64 pv, .int .i64 pg, .int .i64 sl, .bool u1, .slice A1 n1 c1, .bool u2, .slice A2 n2 c2, .int .i64 un, .int .i64 nt, .slice A3 n3 c3, .slice A4 n4 c4, .slice A5 n5 c5]] w fun e w' => e = .returned (.int .i64 (recF 4 t pv pg sl u1 n1 u2 n2 un nt n3 n4 n5 tb pf)) ∧ Ext w w' := by
  have hu := Tryd.underlying49
  have hu2 := Tryd.underlying33
  have hk : inR 4 1 8 = true := rfl
  have z1 : inR 0 0 1099511627776 = true := rfl
  have z2 : inR 0 0 15 = true := rfl
  have z3 : inR 0 0 31 = true := rfl
  by_cases a0 : sl = 0
  case neg =>
    have a0b : (sl != 0) = true := bne_iff_ne.2 a0
    rw [show recF 4 _ _ _ _ _ _ _ _ _ _ _ _ _ _ _ = 2 from by simp [recF, extraF, z1, z2, z3, hk, a0]]
    have HE0 := Lib.hid (Only.refl [] (w.alloc (.cells #[.int .i64 4, .int .i64 t, .int .i64 pv, .int .i64 pg, .int .i64 sl, .bool u1, .slice A1 n1 c1, .bool u2, .slice A2 n2 c2, .int .i64 un, .int .i64 nt, .slice A3 n3 c3, .slice A4 n4 c4, .slice A5 n5 c5] 49)))
    go_enter Tryd.func29, Tryd.ntmps29
    go_upto_region 6 with (go_at_call 77; refine (in_calls _ _ _ _).mono ?_; rintro e w1 ⟨rfl, rfl⟩)
    dsimp only [List.append]
    go_wp2_with (first
      | (go_at_call 77; refine (in_calls _ _ _ _).mono ?_; rintro e w1 ⟨rfl, rfl⟩)
      | (go_at_call 78; refine (zeroRec_calls _ _ _ _ _).mono ?_; rintro e w1 ⟨rfl, hE⟩; replace HE0 := Lib.hid (HE0.out.ext hE); have m := fun o => alloc_cell HE0.out o; clear hE)
      | (go_at_call 79; refine (badRec_calls _ _ _ _ _).mono ?_; rintro e w1 ⟨rfl, hE⟩; replace HE0 := Lib.hid (HE0.out.ext hE); have m := fun o => alloc_cell HE0.out o; clear hE)
      | fail)
    go_ret
    exact ⟨rfl, (alloc_ext _ _).ext HE0.out⟩
  subst a0
  by_cases a1 : zR u2 n2 = true
  case neg =>
    replace a1 : zR u2 n2 = false := by simpa using a1
    rw [show recF 4 _ _ _ _ _ _ _ _ _ _ _ _ _ _ _ = 2 from by simp [recF, extraF, z1, z2, z3, hk, a1]]
    have HE0 := Lib.hid (Only.refl [] (w.alloc (.cells #[.int .i64 4, .int .i64 t, .int .i64 pv, .int .i64 pg, .int .i64 0, .bool u1, .slice A1 n1 c1, .bool u2, .slice A2 n2 c2, .int .i64 un, .int .i64 nt, .slice A3 n3 c3, .slice A4 n4 c4, .slice A5 n5 c5] 49)))
    go_enter Tryd.func29, Tryd.ntmps29
    go_upto_region 6 with (go_at_call 77; refine (in_calls _ _ _ _).mono ?_; rintro e w1 ⟨rfl, rfl⟩)
    dsimp only [List.append]
    go_wp2_with (first
      | (go_at_call 77; refine (in_calls _ _ _ _).mono ?_; rintro e w1 ⟨rfl, rfl⟩)
      | (go_at_call 78; refine (zeroRec_calls _ _ _ _ _).mono ?_; rintro e w1 ⟨rfl, hE⟩; replace HE0 := Lib.hid (HE0.out.ext hE); have m := fun o => alloc_cell HE0.out o; clear hE)
      | (go_at_call 79; refine (badRec_calls _ _ _ _ _).mono ?_; rintro e w1 ⟨rfl, hE⟩; replace HE0 := Lib.hid (HE0.out.ext hE); have m := fun o => alloc_cell HE0.out o; clear hE)
      | fail)
    go_ret
    exact ⟨rfl, (alloc_ext _ _).ext HE0.out⟩
  have a1c : bR u2 n2 = false := bR_false.2 (by have h := zR_true.1 a1; exact ⟨by omega, .inr h.2⟩)
  by_cases a2 : pg = 0
  case neg =>
    have a2b : (pg != 0) = true := bne_iff_ne.2 a2
    rw [show recF 4 _ _ _ _ _ _ _ _ _ _ _ _ _ _ _ = 2 from by simp [recF, extraF, z1, z2, z3, hk, a1, a1c, a2]]
    have HE0 := Lib.hid (Only.refl [] (w.alloc (.cells #[.int .i64 4, .int .i64 t, .int .i64 pv, .int .i64 pg, .int .i64 0, .bool u1, .slice A1 n1 c1, .bool u2, .slice A2 n2 c2, .int .i64 un, .int .i64 nt, .slice A3 n3 c3, .slice A4 n4 c4, .slice A5 n5 c5] 49)))
    go_enter Tryd.func29, Tryd.ntmps29
    go_upto_region 6 with (go_at_call 77; refine (in_calls _ _ _ _).mono ?_; rintro e w1 ⟨rfl, rfl⟩)
    dsimp only [List.append]
    go_wp2_with (first
      | (go_at_call 77; refine (in_calls _ _ _ _).mono ?_; rintro e w1 ⟨rfl, rfl⟩)
      | (go_at_call 78; refine (zeroRec_calls _ _ _ _ _).mono ?_; rintro e w1 ⟨rfl, hE⟩; replace HE0 := Lib.hid (HE0.out.ext hE); have m := fun o => alloc_cell HE0.out o; clear hE)
      | (go_at_call 79; refine (badRec_calls _ _ _ _ _).mono ?_; rintro e w1 ⟨rfl, hE⟩; replace HE0 := Lib.hid (HE0.out.ext hE); have m := fun o => alloc_cell HE0.out o; clear hE)
      | fail)
    go_ret
    exact ⟨rfl, (alloc_ext _ _).ext HE0.out⟩
  subst a2
  by_cases a3 : zR u1 n1 = true
  case neg =>
    replace a3 : zR u1 n1 = false := by simpa using a3
    rw [show recF 4 _ _ _ _ _ _ _ _ _ _ _ _ _ _ _ = 2 from by simp [recF, extraF, z1, z2, z3, hk, a1, a1c, a3]]
    have HE0 := Lib.hid (Only.refl [] (w.alloc (.cells #[.int .i64 4, .int .i64 t, .int .i64 pv, .int .i64 0, .int .i64 0, .bool u1, .slice A1 n1 c1, .bool u2, .slice A2 n2 c2, .int .i64 un, .int .i64 nt, .slice A3 n3 c3, .slice A4 n4 c4, .slice A5 n5 c5] 49)))
    go_enter Tryd.func29, Tryd.ntmps29
    go_upto_region 6 with (go_at_call 77; refine (in_calls _ _ _ _).mono ?_; rintro e w1 ⟨rfl, rfl⟩)
    dsimp only [List.append]
    go_wp2_with (first
      | (go_at_call 77; refine (in_calls _ _ _ _).mono ?_; rintro e w1 ⟨rfl, rfl⟩)
      | (go_at_call 78; refine (zeroRec_calls _ _ _ _ _).mono ?_; rintro e w1 ⟨rfl, hE⟩; replace HE0 := Lib.hid (HE0.out.ext hE); have m := fun o => alloc_cell HE0.out o; clear hE)
      | (go_at_call 79; refine (badRec_calls _ _ _ _ _).mono ?_; rintro e w1 ⟨rfl, hE⟩; replace HE0 := Lib.hid (HE0.out.ext hE); have m := fun o => alloc_cell HE0.out o; clear hE)
      | fail)
    go_ret
    exact ⟨rfl, (alloc_ext _ _).ext HE0.out⟩
  have a3c : bR u1 n1 = false := bR_false.2 (by have h := zR_true.1 a3; exact ⟨by omega, .inr h.2⟩)
  by_cases a4 : un = 0
  case neg =>
    have a4b : (un != 0) = true := bne_iff_ne.2 a4
    rw [show recF 4 _ _ _ _ _ _ _ _ _ _ _ _ _ _ _ = 2 from by simp [recF, extraF, z1, z2, z3, hk, a1, a1c, a3, a3c, a4]]
    have HE0 := Lib.hid (Only.refl [] (w.alloc (.cells #[.int .i64 4, .int .i64 t, .int .i64 pv, .int .i64 0, .int .i64 0, .bool u1, .slice A1 n1 c1, .bool u2, .slice A2 n2 c2, .int .i64 un, .int .i64 nt, .slice A3 n3 c3, .slice A4 n4 c4, .slice A5 n5 c5] 49)))
    go_enter Tryd.func29, Tryd.ntmps29
    go_upto_region 6 with (go_at_call 77; refine (in_calls _ _ _ _).mono ?_; rintro e w1 ⟨rfl, rfl⟩)
    dsimp only [List.append]
    go_wp2_with (first
      | (go_at_call 77; refine (in_calls _ _ _ _).mono ?_; rintro e w1 ⟨rfl, rfl⟩)
      | (go_at_call 78; refine (zeroRec_calls _ _ _ _ _).mono ?_; rintro e w1 ⟨rfl, hE⟩; replace HE0 := Lib.hid (HE0.out.ext hE); have m := fun o => alloc_cell HE0.out o; clear hE)
      | (go_at_call 79; refine (badRec_calls _ _ _ _ _).mono ?_; rintro e w1 ⟨rfl, hE⟩; replace HE0 := Lib.hid (HE0.out.ext hE); have m := fun o => alloc_cell HE0.out o; clear hE)
      | fail)
    go_ret
    exact ⟨rfl, (alloc_ext _ _).ext HE0.out⟩
  subst a4
  by_cases a5 : nt = 0
  case neg =>
    have a5b : (nt != 0) = true := bne_iff_ne.2 a5
    rw [show recF 4 _ _ _ _ _ _ _ _ _ _ _ _ _ _ _ = 2 from by simp [recF, extraF, z1, z2, z3, hk, a1, a1c, a3, a3c, a5]]
    have HE0 := Lib.hid (Only.refl [] (w.alloc (.cells #[.int .i64 4, .int .i64 t, .int .i64 pv, .int .i64 0, .int .i64 0, .bool u1, .slice A1 n1 c1, .bool u2, .slice A2 n2 c2, .int .i64 0, .int .i64 nt, .slice A3 n3 c3, .slice A4 n4 c4, .slice A5 n5 c5] 49)))
    go_enter Tryd.func29, Tryd.ntmps29
    go_upto_region 6 with (go_at_call 77; refine (in_calls _ _ _ _).mono ?_; rintro e w1 ⟨rfl, rfl⟩)
    dsimp only [List.append]
    go_wp2_with (first
      | (go_at_call 77; refine (in_calls _ _ _ _).mono ?_; rintro e w1 ⟨rfl, rfl⟩)
      | (go_at_call 78; refine (zeroRec_calls _ _ _ _ _).mono ?_; rintro e w1 ⟨rfl, hE⟩; replace HE0 := Lib.hid (HE0.out.ext hE); have m := fun o => alloc_cell HE0.out o; clear hE)
      | (go_at_call 79; refine (badRec_calls _ _ _ _ _).mono ?_; rintro e w1 ⟨rfl, hE⟩; replace HE0 := Lib.hid (HE0.out.ext hE); have m := fun o => alloc_cell HE0.out o; clear hE)
      | fail)
    go_ret
    exact ⟨rfl, (alloc_ext _ _).ext HE0.out⟩
  subst a5
  by_cases a6 : n3 = 0
  case neg =>
    have a6b : 0 < n3 := by omega
    have a6c : (0 : Int) < (n3 : Int) := by omega
    have a6d : decide (0 < n3) = true := decide_eq_true a6b
    rw [show recF 4 _ _ _ _ _ _ _ _ _ _ _ _ _ _ _ = 2 from by simp [recF, extraF, z1, z2, z3, hk, a1, a1c, a3, a3c, a6, a6b]]
    have HE0 := Lib.hid (Only.refl [] (w.alloc (.cells #[.int .i64 4, .int .i64 t, .int .i64 pv, .int .i64 0, .int .i64 0, .bool u1, .slice A1 n1 c1, .bool u2, .slice A2 n2 c2, .int .i64 0, .int .i64 0, .slice A3 n3 c3, .slice A4 n4 c4, .slice A5 n5 c5] 49)))
    go_enter Tryd.func29, Tryd.ntmps29
    go_upto_region 6 with (go_at_call 77; refine (in_calls _ _ _ _).mono ?_; rintro e w1 ⟨rfl, rfl⟩)
    dsimp only [List.append]
    go_wp2_with (first
      | (go_at_call 77; refine (in_calls _ _ _ _).mono ?_; rintro e w1 ⟨rfl, rfl⟩)
      | (go_at_call 78; refine (zeroRec_calls _ _ _ _ _).mono ?_; rintro e w1 ⟨rfl, hE⟩; replace HE0 := Lib.hid (HE0.out.ext hE); have m := fun o => alloc_cell HE0.out o; clear hE)
      | (go_at_call 79; refine (badRec_calls _ _ _ _ _).mono ?_; rintro e w1 ⟨rfl, hE⟩; replace HE0 := Lib.hid (HE0.out.ext hE); have m := fun o => alloc_cell HE0.out o; clear hE)
      | fail)
    go_ret
    exact ⟨rfl, (alloc_ext _ _).ext HE0.out⟩
  subst a6
  by_cases a7 : n4 = 0
  case neg =>
    have a7b : 0 < n4 := by omega
    have a7c : (0 : Int) < (n4 : Int) := by omega
    have a7d : decide (0 < n4) = true := decide_eq_true a7b
    rw [show recF 4 _ _ _ _ _ _ _ _ _ _ _ _ _ _ _ = 2 from by simp [recF, extraF, z1, z2, z3, hk, a1, a1c, a3, a3c, a7, a7b]]
    have HE0 := Lib.hid (Only.refl [] (w.alloc (.cells #[.int .i64 4, .int .i64 t, .int .i64 pv, .int .i64 0, .int .i64 0, .bool u1, .slice A1 n1 c1, .bool u2, .slice A2 n2 c2, .int .i64 0, .int .i64 0, .slice A3 0 c3, .slice A4 n4 c4, .slice A5 n5 c5] 49)))
    go_enter Tryd.func29, Tryd.ntmps29
    go_upto_region 6 with (go_at_call 77; refine (in_calls _ _ _ _).mono ?_; rintro e w1 ⟨rfl, rfl⟩)
    dsimp only [List.append]
    go_wp2_with (first
      | (go_at_call 77; refine (in_calls _ _ _ _).mono ?_; rintro e w1 ⟨rfl, rfl⟩)
      | (go_at_call 78; refine (zeroRec_calls _ _ _ _ _).mono ?_; rintro e w1 ⟨rfl, hE⟩; replace HE0 := Lib.hid (HE0.out.ext hE); have m := fun o => alloc_cell HE0.out o; clear hE)
      | (go_at_call 79; refine (badRec_calls _ _ _ _ _).mono ?_; rintro e w1 ⟨rfl, hE⟩; replace HE0 := Lib.hid (HE0.out.ext hE); have m := fun o => alloc_cell HE0.out o; clear hE)
      | fail)
    go_ret
    exact ⟨rfl, (alloc_ext _ _).ext HE0.out⟩
  subst a7
  by_cases a8 : n5 = 0
  case neg =>
    have a8b : 0 < n5 := by omega
    have a8c : (0 : Int) < (n5 : Int) := by omega
    have a8d : decide (0 < n5) = true := decide_eq_true a8b
    rw [show recF 4 _ _ _ _ _ _ _ _ _ _ _ _ _ _ _ = 2 from by simp [recF, extraF, z1, z2, z3, hk, a1, a1c, a3, a3c, a8, a8b]]
    have HE0 := Lib.hid (Only.refl [] (w.alloc (.cells #[.int .i64 4, .int .i64 t, .int .i64 pv, .int .i64 0, .int .i64 0, .bool u1, .slice A1 n1 c1, .bool u2, .slice A2 n2 c2, .int .i64 0, .int .i64 0, .slice A3 0 c3, .slice A4 0 c4, .slice A5 n5 c5] 49)))
    go_enter Tryd.func29, Tryd.ntmps29
    go_upto_region 6 with (go_at_call 77; refine (in_calls _ _ _ _).mono ?_; rintro e w1 ⟨rfl, rfl⟩)
    dsimp only [List.append]
    go_wp2_with (first
      | (go_at_call 77; refine (in_calls _ _ _ _).mono ?_; rintro e w1 ⟨rfl, rfl⟩)
      | (go_at_call 78; refine (zeroRec_calls _ _ _ _ _).mono ?_; rintro e w1 ⟨rfl, hE⟩; replace HE0 := Lib.hid (HE0.out.ext hE); have m := fun o => alloc_cell HE0.out o; clear hE)
      | (go_at_call 79; refine (badRec_calls _ _ _ _ _).mono ?_; rintro e w1 ⟨rfl, hE⟩; replace HE0 := Lib.hid (HE0.out.ext hE); have m := fun o => alloc_cell HE0.out o; clear hE)
      | fail)
    go_ret
    exact ⟨rfl, (alloc_ext _ _).ext HE0.out⟩
  subst a8
  by_cases a9 : inR t 1 2147483647 = true
  case neg =>
    replace a9 : inR t 1 2147483647 = false := by simpa using a9
    rw [show recF 4 _ _ _ _ _ _ _ _ _ _ _ _ _ _ _ = 3 from by simp [recF, extraF, z1, z2, z3, hk, a1, a1c, a3, a3c, a9]]
    have HE0 := Lib.hid (Only.refl [] (w.alloc (.cells #[.int .i64 4, .int .i64 t, .int .i64 pv, .int .i64 0, .int .i64 0, .bool u1, .slice A1 n1 c1, .bool u2, .slice A2 n2 c2, .int .i64 0, .int .i64 0, .slice A3 0 c3, .slice A4 0 c4, .slice A5 0 c5] 49)))
    go_enter Tryd.func29, Tryd.ntmps29
    go_upto_region 6 with (go_at_call 77; refine (in_calls _ _ _ _).mono ?_; rintro e w1 ⟨rfl, rfl⟩)
    dsimp only [List.append]
    go_wp2_with (first
      | (go_at_call 77; refine (in_calls _ _ _ _).mono ?_; rintro e w1 ⟨rfl, rfl⟩)
      | (go_at_call 78; refine (zeroRec_calls _ _ _ _ _).mono ?_; rintro e w1 ⟨rfl, hE⟩; replace HE0 := Lib.hid (HE0.out.ext hE); have m := fun o => alloc_cell HE0.out o; clear hE)
      | (go_at_call 79; refine (badRec_calls _ _ _ _ _).mono ?_; rintro e w1 ⟨rfl, hE⟩; replace HE0 := Lib.hid (HE0.out.ext hE); have m := fun o => alloc_cell HE0.out o; clear hE)
      | fail)
    go_ret
    exact ⟨rfl, (alloc_ext _ _).ext HE0.out⟩
  by_cases a10 : inR pv 0 1099511627776 = true
  case neg =>
    replace a10 : inR pv 0 1099511627776 = false := by simpa using a10
    rw [show recF 4 _ _ _ _ _ _ _ _ _ _ _ _ _ _ _ = 4 from by simp [recF, extraF, z1, z2, z3, hk, a1, a1c, a3, a3c, a9, a10]]
    have HE0 := Lib.hid (Only.refl [] (w.alloc (.cells #[.int .i64 4, .int .i64 t, .int .i64 pv, .int .i64 0, .int .i64 0, .bool u1, .slice A1 n1 c1, .bool u2, .slice A2 n2 c2, .int .i64 0, .int .i64 0, .slice A3 0 c3, .slice A4 0 c4, .slice A5 0 c5] 49)))
    go_enter Tryd.func29, Tryd.ntmps29
    go_upto_region 6 with (go_at_call 77; refine (in_calls _ _ _ _).mono ?_; rintro e w1 ⟨rfl, rfl⟩)
    dsimp only [List.append]
    go_wp2_with (first
      | (go_at_call 77; refine (in_calls _ _ _ _).mono ?_; rintro e w1 ⟨rfl, rfl⟩)
      | (go_at_call 78; refine (zeroRec_calls _ _ _ _ _).mono ?_; rintro e w1 ⟨rfl, hE⟩; replace HE0 := Lib.hid (HE0.out.ext hE); have m := fun o => alloc_cell HE0.out o; clear hE)
      | (go_at_call 79; refine (badRec_calls _ _ _ _ _).mono ?_; rintro e w1 ⟨rfl, hE⟩; replace HE0 := Lib.hid (HE0.out.ext hE); have m := fun o => alloc_cell HE0.out o; clear hE)
      | fail)
    go_ret
    exact ⟨rfl, (alloc_ext _ _).ext HE0.out⟩
  rw [show recF 4 _ _ _ _ _ _ _ _ _ _ _ _ _ _ _ = 0 from by simp [recF, extraF, z1, z2, z3, hk, a1, a1c, a3, a3c, a9, a10]]
  have HE0 := Lib.hid (Only.refl [] (w.alloc (.cells #[.int .i64 4, .int .i64 t, .int .i64 pv, .int .i64 0, .int .i64 0, .bool u1, .slice A1 n1 c1, .bool u2, .slice A2 n2 c2, .int .i64 0, .int .i64 0, .slice A3 0 c3, .slice A4 0 c4, .slice A5 0 c5] 49)))
  go_enter Tryd.func29, Tryd.ntmps29
  go_upto_region 6 with (go_at_call 77; refine (in_calls _ _ _ _).mono ?_; rintro e w1 ⟨rfl, rfl⟩)
  dsimp only [List.append]
  go_wp2_with (first
    | (go_at_call 77; refine (in_calls _ _ _ _).mono ?_; rintro e w1 ⟨rfl, rfl⟩)
    | (go_at_call 78; refine (zeroRec_calls _ _ _ _ _).mono ?_; rintro e w1 ⟨rfl, hE⟩; replace HE0 := Lib.hid (HE0.out.ext hE); have m := fun o => alloc_cell HE0.out o; clear hE)
    | (go_at_call 79; refine (badRec_calls _ _ _ _ _).mono ?_; rintro e w1 ⟨rfl, hE⟩; replace HE0 := Lib.hid (HE0.out.ext hE); have m := fun o => alloc_cell HE0.out o; clear hE)
    | fail)
  go_ret
  exact ⟨rfl, (alloc_ext _ _).ext HE0.out⟩
end Go.Proofs.YtghgjddiheebeaaDoor
