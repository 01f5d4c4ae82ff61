/- RecordFault: the program's, a kind at a time. -/
import Derived.Test.YtghgjddiheebeaaDoorMX16
import Derived.Deep.DeepCutAuto
import Derived.Deep.CutBlock
namespace Go.Proofs.YtghgjddiheebeaaDoor
open Go.RowKit
set_option linter.unusedSimpArgs false
set_option linter.unusedVariables false
set_option maxRecDepth 100000 in
set_option maxHeartbeats 8000000 in
theorem implRF_1 (w : World) (t pv pg sl : Int) (u1 : Bool) (A1 : Option Addr) (n1 c1 : Nat) (u2 : Bool) (A2 : Option Addr) (n2 c2 : Nat) (un nt : Int) (A3 : Option Addr) (n3 c3 : Nat) (A4 : Option Addr) (n4 c4 : Nat) (A5 : Option Addr) (n5 c5 : Nat) (tb : Bool) (pf : Int) :
    Calls Tryd.prog 29 #[.agg #[.int .i64 1, .int .i64 t, .int .i64 pv, .int .i64 pg, .int .i64 sl, .bool u1, .slice A1 n1 c1, .bool u2, .slice A2 n2 c2, .int .i64 un, .int .i64 nt, .slice A3 n3 c3, .slice A4 n4 c4, .slice A5 n5 c5]] w fun e w' => e = .returned (.int .i64 (recF 1 t pv pg sl u1 n1 u2 n2 un nt n3 n4 n5 tb pf)) ∧ Ext w w' := by
  have hu := Tryd.underlying49
  have hu2 := Tryd.underlying33
  have hk : inR 1 1 8 = true := rfl
  have z1 : inR 0 0 1099511627776 = true := rfl
  have z2 : inR 0 0 15 = true := rfl
  have z3 : inR 0 0 31 = true := rfl
  by_cases a0 : un = 0
  case neg =>
    have a0b : (un != 0) = true := bne_iff_ne.2 a0
    rw [show recF 1 _ _ _ _ _ _ _ _ _ _ _ _ _ _ _ = 2 from by simp [recF, extraF, z1, z2, z3, hk, a0]]
    have HE0 := Lib.hid (Only.refl [] (w.alloc (.cells #[.int .i64 1, .int .i64 t, .int .i64 pv, .int .i64 pg, .int .i64 sl, .bool u1, .slice A1 n1 c1, .bool u2, .slice A2 n2 c2, .int .i64 un, .int .i64 nt, .slice A3 n3 c3, .slice A4 n4 c4, .slice A5 n5 c5] 49)))
    go_enter Tryd.func29, Tryd.ntmps29
    go_upto_region 6 with (go_at_call 77; refine (in_calls _ _ _ _).mono ?_; rintro e w1 ⟨rfl, rfl⟩)
    dsimp only [List.append]
    go_wp2_with (first
      | (go_at_call 77; refine (in_calls _ _ _ _).mono ?_; rintro e w1 ⟨rfl, rfl⟩)
      | (go_at_call 78; refine (zeroRec_calls _ _ _ _ _).mono ?_; rintro e w1 ⟨rfl, hE⟩; replace HE0 := Lib.hid (HE0.out.ext hE); have m := fun o => alloc_cell HE0.out o; clear hE)
      | (go_at_call 79; refine (badRec_calls _ _ _ _ _).mono ?_; rintro e w1 ⟨rfl, hE⟩; replace HE0 := Lib.hid (HE0.out.ext hE); have m := fun o => alloc_cell HE0.out o; clear hE)
      | fail)
    go_ret
    exact ⟨rfl, (alloc_ext _ _).ext HE0.out⟩
  subst a0
  by_cases a1 : nt = 0
  case neg =>
    have a1b : (nt != 0) = true := bne_iff_ne.2 a1
    rw [show recF 1 _ _ _ _ _ _ _ _ _ _ _ _ _ _ _ = 2 from by simp [recF, extraF, z1, z2, z3, hk, a1]]
    have HE0 := Lib.hid (Only.refl [] (w.alloc (.cells #[.int .i64 1, .int .i64 t, .int .i64 pv, .int .i64 pg, .int .i64 sl, .bool u1, .slice A1 n1 c1, .bool u2, .slice A2 n2 c2, .int .i64 0, .int .i64 nt, .slice A3 n3 c3, .slice A4 n4 c4, .slice A5 n5 c5] 49)))
    go_enter Tryd.func29, Tryd.ntmps29
    go_upto_region 6 with (go_at_call 77; refine (in_calls _ _ _ _).mono ?_; rintro e w1 ⟨rfl, rfl⟩)
    dsimp only [List.append]
    go_wp2_with (first
      | (go_at_call 77; refine (in_calls _ _ _ _).mono ?_; rintro e w1 ⟨rfl, rfl⟩)
      | (go_at_call 78; refine (zeroRec_calls _ _ _ _ _).mono ?_; rintro e w1 ⟨rfl, hE⟩; replace HE0 := Lib.hid (HE0.out.ext hE); have m := fun o => alloc_cell HE0.out o; clear hE)
      | (go_at_call 79; refine (badRec_calls _ _ _ _ _).mono ?_; rintro e w1 ⟨rfl, hE⟩; replace HE0 := Lib.hid (HE0.out.ext hE); have m := fun o => alloc_cell HE0.out o; clear hE)
      | fail)
    go_ret
    exact ⟨rfl, (alloc_ext _ _).ext HE0.out⟩
  subst a1
  by_cases a2 : n3 = 0
  case neg =>
    have a2b : 0 < n3 := by omega
    have a2c : (0 : Int) < (n3 : Int) := by omega
    have a2d : decide (0 < n3) = true := decide_eq_true a2b
    rw [show recF 1 _ _ _ _ _ _ _ _ _ _ _ _ _ _ _ = 2 from by simp [recF, extraF, z1, z2, z3, hk, a2, a2b]]
    have HE0 := Lib.hid (Only.refl [] (w.alloc (.cells #[.int .i64 1, .int .i64 t, .int .i64 pv, .int .i64 pg, .int .i64 sl, .bool u1, .slice A1 n1 c1, .bool u2, .slice A2 n2 c2, .int .i64 0, .int .i64 0, .slice A3 n3 c3, .slice A4 n4 c4, .slice A5 n5 c5] 49)))
    go_enter Tryd.func29, Tryd.ntmps29
    go_upto_region 6 with (go_at_call 77; refine (in_calls _ _ _ _).mono ?_; rintro e w1 ⟨rfl, rfl⟩)
    dsimp only [List.append]
    go_wp2_with (first
      | (go_at_call 77; refine (in_calls _ _ _ _).mono ?_; rintro e w1 ⟨rfl, rfl⟩)
      | (go_at_call 78; refine (zeroRec_calls _ _ _ _ _).mono ?_; rintro e w1 ⟨rfl, hE⟩; replace HE0 := Lib.hid (HE0.out.ext hE); have m := fun o => alloc_cell HE0.out o; clear hE)
      | (go_at_call 79; refine (badRec_calls _ _ _ _ _).mono ?_; rintro e w1 ⟨rfl, hE⟩; replace HE0 := Lib.hid (HE0.out.ext hE); have m := fun o => alloc_cell HE0.out o; clear hE)
      | fail)
    go_ret
    exact ⟨rfl, (alloc_ext _ _).ext HE0.out⟩
  subst a2
  by_cases a3 : n4 = 0
  case neg =>
    have a3b : 0 < n4 := by omega
    have a3c : (0 : Int) < (n4 : Int) := by omega
    have a3d : decide (0 < n4) = true := decide_eq_true a3b
    rw [show recF 1 _ _ _ _ _ _ _ _ _ _ _ _ _ _ _ = 2 from by simp [recF, extraF, z1, z2, z3, hk, a3, a3b]]
    have HE0 := Lib.hid (Only.refl [] (w.alloc (.cells #[.int .i64 1, .int .i64 t, .int .i64 pv, .int .i64 pg, .int .i64 sl, .bool u1, .slice A1 n1 c1, .bool u2, .slice A2 n2 c2, .int .i64 0, .int .i64 0, .slice A3 0 c3, .slice A4 n4 c4, .slice A5 n5 c5] 49)))
    go_enter Tryd.func29, Tryd.ntmps29
    go_upto_region 6 with (go_at_call 77; refine (in_calls _ _ _ _).mono ?_; rintro e w1 ⟨rfl, rfl⟩)
    dsimp only [List.append]
    go_wp2_with (first
      | (go_at_call 77; refine (in_calls _ _ _ _).mono ?_; rintro e w1 ⟨rfl, rfl⟩)
      | (go_at_call 78; refine (zeroRec_calls _ _ _ _ _).mono ?_; rintro e w1 ⟨rfl, hE⟩; replace HE0 := Lib.hid (HE0.out.ext hE); have m := fun o => alloc_cell HE0.out o; clear hE)
      | (go_at_call 79; refine (badRec_calls _ _ _ _ _).mono ?_; rintro e w1 ⟨rfl, hE⟩; replace HE0 := Lib.hid (HE0.out.ext hE); have m := fun o => alloc_cell HE0.out o; clear hE)
      | fail)
    go_ret
    exact ⟨rfl, (alloc_ext _ _).ext HE0.out⟩
  subst a3
  by_cases a4 : n5 = 0
  case neg =>
    have a4b : 0 < n5 := by omega
    have a4c : (0 : Int) < (n5 : Int) := by omega
    have a4d : decide (0 < n5) = true := decide_eq_true a4b
    rw [show recF 1 _ _ _ _ _ _ _ _ _ _ _ _ _ _ _ = 2 from by simp [recF, extraF, z1, z2, z3, hk, a4, a4b]]
    have HE0 := Lib.hid (Only.refl [] (w.alloc (.cells #[.int .i64 1, .int .i64 t, .int .i64 pv, .int .i64 pg, .int .i64 sl, .bool u1, .slice A1 n1 c1, .bool u2, .slice A2 n2 c2, .int .i64 0, .int .i64 0, .slice A3 0 c3, .slice A4 0 c4, .slice A5 n5 c5] 49)))
    go_enter Tryd.func29, Tryd.ntmps29
    go_upto_region 6 with (go_at_call 77; refine (in_calls _ _ _ _).mono ?_; rintro e w1 ⟨rfl, rfl⟩)
    dsimp only [List.append]
    go_wp2_with (first
      | (go_at_call 77; refine (in_calls _ _ _ _).mono ?_; rintro e w1 ⟨rfl, rfl⟩)
      | (go_at_call 78; refine (zeroRec_calls _ _ _ _ _).mono ?_; rintro e w1 ⟨rfl, hE⟩; replace HE0 := Lib.hid (HE0.out.ext hE); have m := fun o => alloc_cell HE0.out o; clear hE)
      | (go_at_call 79; refine (badRec_calls _ _ _ _ _).mono ?_; rintro e w1 ⟨rfl, hE⟩; replace HE0 := Lib.hid (HE0.out.ext hE); have m := fun o => alloc_cell HE0.out o; clear hE)
      | fail)
    go_ret
    exact ⟨rfl, (alloc_ext _ _).ext HE0.out⟩
  subst a4
  by_cases a5 : inR t 1 2147483647 = true
  case neg =>
    replace a5 : inR t 1 2147483647 = false := by simpa using a5
    rw [show recF 1 _ _ _ _ _ _ _ _ _ _ _ _ _ _ _ = 3 from by simp [recF, extraF, z1, z2, z3, hk, a5]]
    have HE0 := Lib.hid (Only.refl [] (w.alloc (.cells #[.int .i64 1, .int .i64 t, .int .i64 pv, .int .i64 pg, .int .i64 sl, .bool u1, .slice A1 n1 c1, .bool u2, .slice A2 n2 c2, .int .i64 0, .int .i64 0, .slice A3 0 c3, .slice A4 0 c4, .slice A5 0 c5] 49)))
    go_enter Tryd.func29, Tryd.ntmps29
    go_upto_region 6 with (go_at_call 77; refine (in_calls _ _ _ _).mono ?_; rintro e w1 ⟨rfl, rfl⟩)
    dsimp only [List.append]
    go_wp2_with (first
      | (go_at_call 77; refine (in_calls _ _ _ _).mono ?_; rintro e w1 ⟨rfl, rfl⟩)
      | (go_at_call 78; refine (zeroRec_calls _ _ _ _ _).mono ?_; rintro e w1 ⟨rfl, hE⟩; replace HE0 := Lib.hid (HE0.out.ext hE); have m := fun o => alloc_cell HE0.out o; clear hE)
      | (go_at_call 79; refine (badRec_calls _ _ _ _ _).mono ?_; rintro e w1 ⟨rfl, hE⟩; replace HE0 := Lib.hid (HE0.out.ext hE); have m := fun o => alloc_cell HE0.out o; clear hE)
      | fail)
    go_ret
    exact ⟨rfl, (alloc_ext _ _).ext HE0.out⟩
  by_cases a6 : inR pv 0 1099511627776 = true
  case neg =>
    replace a6 : inR pv 0 1099511627776 = false := by simpa using a6
    rw [show recF 1 _ _ _ _ _ _ _ _ _ _ _ _ _ _ _ = 4 from by simp [recF, extraF, z1, z2, z3, hk, a5, a6]]
    have HE0 := Lib.hid (Only.refl [] (w.alloc (.cells #[.int .i64 1, .int .i64 t, .int .i64 pv, .int .i64 pg, .int .i64 sl, .bool u1, .slice A1 n1 c1, .bool u2, .slice A2 n2 c2, .int .i64 0, .int .i64 0, .slice A3 0 c3, .slice A4 0 c4, .slice A5 0 c5] 49)))
    go_enter Tryd.func29, Tryd.ntmps29
    go_upto_region 6 with (go_at_call 77; refine (in_calls _ _ _ _).mono ?_; rintro e w1 ⟨rfl, rfl⟩)
    dsimp only [List.append]
    go_wp2_with (first
      | (go_at_call 77; refine (in_calls _ _ _ _).mono ?_; rintro e w1 ⟨rfl, rfl⟩)
      | (go_at_call 78; refine (zeroRec_calls _ _ _ _ _).mono ?_; rintro e w1 ⟨rfl, hE⟩; replace HE0 := Lib.hid (HE0.out.ext hE); have m := fun o => alloc_cell HE0.out o; clear hE)
      | (go_at_call 79; refine (badRec_calls _ _ _ _ _).mono ?_; rintro e w1 ⟨rfl, hE⟩; replace HE0 := Lib.hid (HE0.out.ext hE); have m := fun o => alloc_cell HE0.out o; clear hE)
      | fail)
    go_ret
    exact ⟨rfl, (alloc_ext _ _).ext HE0.out⟩
  by_cases a7 : inR pg 0 15 = true
  case neg =>
    replace a7 : inR pg 0 15 = false := by simpa using a7
    rw [show recF 1 _ _ _ _ _ _ _ _ _ _ _ _ _ _ _ = 5 from by simp [recF, extraF, z1, z2, z3, hk, a5, a6, a7]]
    have HE0 := Lib.hid (Only.refl [] (w.alloc (.cells #[.int .i64 1, .int .i64 t, .int .i64 pv, .int .i64 pg, .int .i64 sl, .bool u1, .slice A1 n1 c1, .bool u2, .slice A2 n2 c2, .int .i64 0, .int .i64 0, .slice A3 0 c3, .slice A4 0 c4, .slice A5 0 c5] 49)))
    go_enter Tryd.func29, Tryd.ntmps29
    go_upto_region 6 with (go_at_call 77; refine (in_calls _ _ _ _).mono ?_; rintro e w1 ⟨rfl, rfl⟩)
    dsimp only [List.append]
    go_wp2_with (first
      | (go_at_call 77; refine (in_calls _ _ _ _).mono ?_; rintro e w1 ⟨rfl, rfl⟩)
      | (go_at_call 78; refine (zeroRec_calls _ _ _ _ _).mono ?_; rintro e w1 ⟨rfl, hE⟩; replace HE0 := Lib.hid (HE0.out.ext hE); have m := fun o => alloc_cell HE0.out o; clear hE)
      | (go_at_call 79; refine (badRec_calls _ _ _ _ _).mono ?_; rintro e w1 ⟨rfl, hE⟩; replace HE0 := Lib.hid (HE0.out.ext hE); have m := fun o => alloc_cell HE0.out o; clear hE)
      | fail)
    go_ret
    exact ⟨rfl, (alloc_ext _ _).ext HE0.out⟩
  by_cases a8 : inR sl 0 31 = true
  case neg =>
    replace a8 : inR sl 0 31 = false := by simpa using a8
    rw [show recF 1 _ _ _ _ _ _ _ _ _ _ _ _ _ _ _ = 5 from by simp [recF, extraF, z1, z2, z3, hk, a5, a6, a7, a8]]
    have HE0 := Lib.hid (Only.refl [] (w.alloc (.cells #[.int .i64 1, .int .i64 t, .int .i64 pv, .int .i64 pg, .int .i64 sl, .bool u1, .slice A1 n1 c1, .bool u2, .slice A2 n2 c2, .int .i64 0, .int .i64 0, .slice A3 0 c3, .slice A4 0 c4, .slice A5 0 c5] 49)))
    go_enter Tryd.func29, Tryd.ntmps29
    go_upto_region 6 with (go_at_call 77; refine (in_calls _ _ _ _).mono ?_; rintro e w1 ⟨rfl, rfl⟩)
    dsimp only [List.append]
    go_wp2_with (first
      | (go_at_call 77; refine (in_calls _ _ _ _).mono ?_; rintro e w1 ⟨rfl, rfl⟩)
      | (go_at_call 78; refine (zeroRec_calls _ _ _ _ _).mono ?_; rintro e w1 ⟨rfl, hE⟩; replace HE0 := Lib.hid (HE0.out.ext hE); have m := fun o => alloc_cell HE0.out o; clear hE)
      | (go_at_call 79; refine (badRec_calls _ _ _ _ _).mono ?_; rintro e w1 ⟨rfl, hE⟩; replace HE0 := Lib.hid (HE0.out.ext hE); have m := fun o => alloc_cell HE0.out o; clear hE)
      | fail)
    go_ret
    exact ⟨rfl, (alloc_ext _ _).ext HE0.out⟩
  by_cases a9 : bR u1 n1 = false
  case neg =>
    replace a9 : bR u1 n1 = true := by simpa using a9
    rw [show recF 1 _ _ _ _ _ _ _ _ _ _ _ _ _ _ _ = 6 from by simp [recF, extraF, z1, z2, z3, hk, a5, a6, a7, a8, a9]]
    have HE0 := Lib.hid (Only.refl [] (w.alloc (.cells #[.int .i64 1, .int .i64 t, .int .i64 pv, .int .i64 pg, .int .i64 sl, .bool u1, .slice A1 n1 c1, .bool u2, .slice A2 n2 c2, .int .i64 0, .int .i64 0, .slice A3 0 c3, .slice A4 0 c4, .slice A5 0 c5] 49)))
    go_enter Tryd.func29, Tryd.ntmps29
    go_upto_region 6 with (go_at_call 77; refine (in_calls _ _ _ _).mono ?_; rintro e w1 ⟨rfl, rfl⟩)
    dsimp only [List.append]
    go_wp2_with (first
      | (go_at_call 77; refine (in_calls _ _ _ _).mono ?_; rintro e w1 ⟨rfl, rfl⟩)
      | (go_at_call 78; refine (zeroRec_calls _ _ _ _ _).mono ?_; rintro e w1 ⟨rfl, hE⟩; replace HE0 := Lib.hid (HE0.out.ext hE); have m := fun o => alloc_cell HE0.out o; clear hE)
      | (go_at_call 79; refine (badRec_calls _ _ _ _ _).mono ?_; rintro e w1 ⟨rfl, hE⟩; replace HE0 := Lib.hid (HE0.out.ext hE); have m := fun o => alloc_cell HE0.out o; clear hE)
      | fail)
    go_ret
    exact ⟨rfl, (alloc_ext _ _).ext HE0.out⟩
  by_cases a10 : bR u2 n2 = false
  case neg =>
    replace a10 : bR u2 n2 = true := by simpa using a10
    rw [show recF 1 _ _ _ _ _ _ _ _ _ _ _ _ _ _ _ = 6 from by simp [recF, extraF, z1, z2, z3, hk, a5, a6, a7, a8, a9, a10]]
    have HE0 := Lib.hid (Only.refl [] (w.alloc (.cells #[.int .i64 1, .int .i64 t, .int .i64 pv, .int .i64 pg, .int .i64 sl, .bool u1, .slice A1 n1 c1, .bool u2, .slice A2 n2 c2, .int .i64 0, .int .i64 0, .slice A3 0 c3, .slice A4 0 c4, .slice A5 0 c5] 49)))
    go_enter Tryd.func29, Tryd.ntmps29
    go_upto_region 6 with (go_at_call 77; refine (in_calls _ _ _ _).mono ?_; rintro e w1 ⟨rfl, rfl⟩)
    dsimp only [List.append]
    go_wp2_with (first
      | (go_at_call 77; refine (in_calls _ _ _ _).mono ?_; rintro e w1 ⟨rfl, rfl⟩)
      | (go_at_call 78; refine (zeroRec_calls _ _ _ _ _).mono ?_; rintro e w1 ⟨rfl, hE⟩; replace HE0 := Lib.hid (HE0.out.ext hE); have m := fun o => alloc_cell HE0.out o; clear hE)
      | (go_at_call 79; refine (badRec_calls _ _ _ _ _).mono ?_; rintro e w1 ⟨rfl, hE⟩; replace HE0 := Lib.hid (HE0.out.ext hE); have m := fun o => alloc_cell HE0.out o; clear hE)
      | fail)
    go_ret
    exact ⟨rfl, (alloc_ext _ _).ext HE0.out⟩
  by_cases a11 : u1 = true
  case pos =>
    subst a11
    rw [show recF 1 _ _ _ _ _ _ _ _ _ _ _ _ _ _ _ = 0 from by simp [recF, extraF, z1, z2, z3, hk, a5, a6, a7, a8, a9, a10]]
    have HE0 := Lib.hid (Only.refl [] (w.alloc (.cells #[.int .i64 1, .int .i64 t, .int .i64 pv, .int .i64 pg, .int .i64 sl, .bool true, .slice A1 n1 c1, .bool u2, .slice A2 n2 c2, .int .i64 0, .int .i64 0, .slice A3 0 c3, .slice A4 0 c4, .slice A5 0 c5] 49)))
    go_enter Tryd.func29, Tryd.ntmps29
    go_upto_region 6 with (go_at_call 77; refine (in_calls _ _ _ _).mono ?_; rintro e w1 ⟨rfl, rfl⟩)
    dsimp only [List.append]
    go_wp2_with (first
      | (go_at_call 77; refine (in_calls _ _ _ _).mono ?_; rintro e w1 ⟨rfl, rfl⟩)
      | (go_at_call 78; refine (zeroRec_calls _ _ _ _ _).mono ?_; rintro e w1 ⟨rfl, hE⟩; replace HE0 := Lib.hid (HE0.out.ext hE); have m := fun o => alloc_cell HE0.out o; clear hE)
      | (go_at_call 79; refine (badRec_calls _ _ _ _ _).mono ?_; rintro e w1 ⟨rfl, hE⟩; replace HE0 := Lib.hid (HE0.out.ext hE); have m := fun o => alloc_cell HE0.out o; clear hE)
      | fail)
    go_ret
    exact ⟨rfl, (alloc_ext _ _).ext HE0.out⟩
  replace a11 : u1 = false := by simpa using a11
  subst a11
  by_cases a11' : u2 = true
  case pos =>
    subst a11'
    rw [show recF 1 _ _ _ _ _ _ _ _ _ _ _ _ _ _ _ = 0 from by simp [recF, extraF, z1, z2, z3, hk, a5, a6, a7, a8, a9, a10]]
    have HE0 := Lib.hid (Only.refl [] (w.alloc (.cells #[.int .i64 1, .int .i64 t, .int .i64 pv, .int .i64 pg, .int .i64 sl, .bool false, .slice A1 n1 c1, .bool true, .slice A2 n2 c2, .int .i64 0, .int .i64 0, .slice A3 0 c3, .slice A4 0 c4, .slice A5 0 c5] 49)))
    go_enter Tryd.func29, Tryd.ntmps29
    go_upto_region 6 with (go_at_call 77; refine (in_calls _ _ _ _).mono ?_; rintro e w1 ⟨rfl, rfl⟩)
    dsimp only [List.append]
    go_wp2_with (first
      | (go_at_call 77; refine (in_calls _ _ _ _).mono ?_; rintro e w1 ⟨rfl, rfl⟩)
      | (go_at_call 78; refine (zeroRec_calls _ _ _ _ _).mono ?_; rintro e w1 ⟨rfl, hE⟩; replace HE0 := Lib.hid (HE0.out.ext hE); have m := fun o => alloc_cell HE0.out o; clear hE)
      | (go_at_call 79; refine (badRec_calls _ _ _ _ _).mono ?_; rintro e w1 ⟨rfl, hE⟩; replace HE0 := Lib.hid (HE0.out.ext hE); have m := fun o => alloc_cell HE0.out o; clear hE)
      | fail)
    go_ret
    exact ⟨rfl, (alloc_ext _ _).ext HE0.out⟩
  replace a11' : u2 = false := by simpa using a11'
  subst a11'
  rw [show recF 1 _ _ _ _ _ _ _ _ _ _ _ _ _ _ _ = 6 from by simp [recF, extraF, z1, z2, z3, hk, a5, a6, a7, a8, a9, a10]]
  have HE0 := Lib.hid (Only.refl [] (w.alloc (.cells #[.int .i64 1, .int .i64 t, .int .i64 pv, .int .i64 pg, .int .i64 sl, .bool false, .slice A1 n1 c1, .bool false, .slice A2 n2 c2, .int .i64 0, .int .i64 0, .slice A3 0 c3, .slice A4 0 c4, .slice A5 0 c5] 49)))
  go_enter Tryd.func29, Tryd.ntmps29
  go_upto_region 6 with (go_at_call 77; refine (in_calls _ _ _ _).mono ?_; rintro e w1 ⟨rfl, rfl⟩)
  dsimp only [List.append]
  go_wp2_with (first
    | (go_at_call 77; refine (in_calls _ _ _ _).mono ?_; rintro e w1 ⟨rfl, rfl⟩)
    | (go_at_call 78; refine (zeroRec_calls _ _ _ _ _).mono ?_; rintro e w1 ⟨rfl, hE⟩; replace HE0 := Lib.hid (HE0.out.ext hE); have m := fun o => alloc_cell HE0.out o; clear hE)
    | (go_at_call 79; refine (badRec_calls _ _ _ _ _).mono ?_; rintro e w1 ⟨rfl, hE⟩; replace HE0 := Lib.hid (HE0.out.ext hE); have m := fun o => alloc_cell HE0.out o; clear hE)
    | fail)
  go_ret
  exact ⟨rfl, (alloc_ext _ _).ext HE0.out⟩
set_option maxRecDepth 100000 in
set_option maxHeartbeats 8000000 in
theorem implRF_2 (w : World) (t pv pg sl : Int) (u1 : Bool) (A1 : Option Addr) (n1 c1 : Nat) (u2 : Bool) (A2 : Option Addr) (n2 c2 : Nat) (un nt : Int) (A3 : Option Addr) (n3 c3 : Nat) (A4 : Option Addr) (n4 c4 : Nat) (A5 : Option Addr) (n5 c5 : Nat) (tb : Bool) (pf : Int) :
    Calls Tryd.prog 29 #[.agg #[.int .i64 2, .int .i64 t, .int .i64 pv, .int .i64 pg, .int .i64 sl, .bool u1, .slice A1 n1 c1, .bool u2, .slice A2 n2 c2, .int .i64 un, .int .i64 nt, .slice A3 n3 c3, .slice A4 n4 c4, .slice A5 n5 c5]] w fun e w' => e = .returned (.int .i64 (recF 2 t pv pg sl u1 n1 u2 n2 un nt n3 n4 n5 tb pf)) ∧ Ext w w' := by
  have hu := Tryd.underlying49
  have hu2 := Tryd.underlying33
  have hk : inR 2 1 8 = true := rfl
  have z1 : inR 0 0 1099511627776 = true := rfl
  have z2 : inR 0 0 15 = true := rfl
  have z3 : inR 0 0 31 = true := rfl
  by_cases a0 : zR u1 n1 = true
  case neg =>
    replace a0 : zR u1 n1 = false := by simpa using a0
    rw [show recF 2 _ _ _ _ _ _ _ _ _ _ _ _ _ _ _ = 2 from by simp [recF, extraF, z1, z2, z3, hk, a0]]
    have HE0 := Lib.hid (Only.refl [] (w.alloc (.cells #[.int .i64 2, .int .i64 t, .int .i64 pv, .int .i64 pg, .int .i64 sl, .bool u1, .slice A1 n1 c1, .bool u2, .slice A2 n2 c2, .int .i64 un, .int .i64 nt, .slice A3 n3 c3, .slice A4 n4 c4, .slice A5 n5 c5] 49)))
    go_enter Tryd.func29, Tryd.ntmps29
    go_upto_region 6 with (go_at_call 77; refine (in_calls _ _ _ _).mono ?_; rintro e w1 ⟨rfl, rfl⟩)
    dsimp only [List.append]
    go_wp2_with (first
      | (go_at_call 77; refine (in_calls _ _ _ _).mono ?_; rintro e w1 ⟨rfl, rfl⟩)
      | (go_at_call 78; refine (zeroRec_calls _ _ _ _ _).mono ?_; rintro e w1 ⟨rfl, hE⟩; replace HE0 := Lib.hid (HE0.out.ext hE); have m := fun o => alloc_cell HE0.out o; clear hE)
      | (go_at_call 79; refine (badRec_calls _ _ _ _ _).mono ?_; rintro e w1 ⟨rfl, hE⟩; replace HE0 := Lib.hid (HE0.out.ext hE); have m := fun o => alloc_cell HE0.out o; clear hE)
      | fail)
    go_ret
    exact ⟨rfl, (alloc_ext _ _).ext HE0.out⟩
  have a0c : bR u1 n1 = false := bR_false.2 (by have h := zR_true.1 a0; exact ⟨by omega, .inr h.2⟩)
  have a0d : u1 = false := (zR_true.1 a0).1
  have a0e : n1 = 0 := (zR_true.1 a0).2
  subst a0d; subst a0e
  by_cases a1 : nt = 0
  case neg =>
    have a1b : (nt != 0) = true := bne_iff_ne.2 a1
    rw [show recF 2 _ _ _ _ _ _ _ _ _ _ _ _ _ _ _ = 2 from by simp [recF, extraF, z1, z2, z3, hk, a0, a0c, a1]]
    have HE0 := Lib.hid (Only.refl [] (w.alloc (.cells #[.int .i64 2, .int .i64 t, .int .i64 pv, .int .i64 pg, .int .i64 sl, .bool false, .slice A1 0 c1, .bool u2, .slice A2 n2 c2, .int .i64 un, .int .i64 nt, .slice A3 n3 c3, .slice A4 n4 c4, .slice A5 n5 c5] 49)))
    go_enter Tryd.func29, Tryd.ntmps29
    go_upto_region 6 with (go_at_call 77; refine (in_calls _ _ _ _).mono ?_; rintro e w1 ⟨rfl, rfl⟩)
    dsimp only [List.append]
    go_wp2_with (first
      | (go_at_call 77; refine (in_calls _ _ _ _).mono ?_; rintro e w1 ⟨rfl, rfl⟩)
      | (go_at_call 78; refine (zeroRec_calls _ _ _ _ _).mono ?_; rintro e w1 ⟨rfl, hE⟩; replace HE0 := Lib.hid (HE0.out.ext hE); have m := fun o => alloc_cell HE0.out o; clear hE)
      | (go_at_call 79; refine (badRec_calls _ _ _ _ _).mono ?_; rintro e w1 ⟨rfl, hE⟩; replace HE0 := Lib.hid (HE0.out.ext hE); have m := fun o => alloc_cell HE0.out o; clear hE)
      | fail)
    go_ret
    exact ⟨rfl, (alloc_ext _ _).ext HE0.out⟩
  subst a1
  by_cases a2 : n3 = 0
  case neg =>
    have a2b : 0 < n3 := by omega
    have a2c : (0 : Int) < (n3 : Int) := by omega
    have a2d : decide (0 < n3) = true := decide_eq_true a2b
    rw [show recF 2 _ _ _ _ _ _ _ _ _ _ _ _ _ _ _ = 2 from by simp [recF, extraF, z1, z2, z3, hk, a0, a0c, a2, a2b]]
    have HE0 := Lib.hid (Only.refl [] (w.alloc (.cells #[.int .i64 2, .int .i64 t, .int .i64 pv, .int .i64 pg, .int .i64 sl, .bool false, .slice A1 0 c1, .bool u2, .slice A2 n2 c2, .int .i64 un, .int .i64 0, .slice A3 n3 c3, .slice A4 n4 c4, .slice A5 n5 c5] 49)))
    go_enter Tryd.func29, Tryd.ntmps29
    go_upto_region 6 with (go_at_call 77; refine (in_calls _ _ _ _).mono ?_; rintro e w1 ⟨rfl, rfl⟩)
    dsimp only [List.append]
    go_wp2_with (first
      | (go_at_call 77; refine (in_calls _ _ _ _).mono ?_; rintro e w1 ⟨rfl, rfl⟩)
      | (go_at_call 78; refine (zeroRec_calls _ _ _ _ _).mono ?_; rintro e w1 ⟨rfl, hE⟩; replace HE0 := Lib.hid (HE0.out.ext hE); have m := fun o => alloc_cell HE0.out o; clear hE)
      | (go_at_call 79; refine (badRec_calls _ _ _ _ _).mono ?_; rintro e w1 ⟨rfl, hE⟩; replace HE0 := Lib.hid (HE0.out.ext hE); have m := fun o => alloc_cell HE0.out o; clear hE)
      | fail)
    go_ret
    exact ⟨rfl, (alloc_ext _ _).ext HE0.out⟩
  subst a2
  by_cases a3 : n4 = 0
  case neg =>
    have a3b : 0 < n4 := by omega
    have a3c : (0 : Int) < (n4 : Int) := by omega
    have a3d : decide (0 < n4) = true := decide_eq_true a3b
    rw [show recF 2 _ _ _ _ _ _ _ _ _ _ _ _ _ _ _ = 2 from by simp [recF, extraF, z1, z2, z3, hk, a0, a0c, a3, a3b]]
    have HE0 := Lib.hid (Only.refl [] (w.alloc (.cells #[.int .i64 2, .int .i64 t, .int .i64 pv, .int .i64 pg, .int .i64 sl, .bool false, .slice A1 0 c1, .bool u2, .slice A2 n2 c2, .int .i64 un, .int .i64 0, .slice A3 0 c3, .slice A4 n4 c4, .slice A5 n5 c5] 49)))
    go_enter Tryd.func29, Tryd.ntmps29
    go_upto_region 6 with (go_at_call 77; refine (in_calls _ _ _ _).mono ?_; rintro e w1 ⟨rfl, rfl⟩)
    dsimp only [List.append]
    go_wp2_with (first
      | (go_at_call 77; refine (in_calls _ _ _ _).mono ?_; rintro e w1 ⟨rfl, rfl⟩)
      | (go_at_call 78; refine (zeroRec_calls _ _ _ _ _).mono ?_; rintro e w1 ⟨rfl, hE⟩; replace HE0 := Lib.hid (HE0.out.ext hE); have m := fun o => alloc_cell HE0.out o; clear hE)
      | (go_at_call 79; refine (badRec_calls _ _ _ _ _).mono ?_; rintro e w1 ⟨rfl, hE⟩; replace HE0 := Lib.hid (HE0.out.ext hE); have m := fun o => alloc_cell HE0.out o; clear hE)
      | fail)
    go_ret
    exact ⟨rfl, (alloc_ext _ _).ext HE0.out⟩
  subst a3
  by_cases a4 : n5 = 0
  case neg =>
    have a4b : 0 < n5 := by omega
    have a4c : (0 : Int) < (n5 : Int) := by omega
    have a4d : decide (0 < n5) = true := decide_eq_true a4b
    rw [show recF 2 _ _ _ _ _ _ _ _ _ _ _ _ _ _ _ = 2 from by simp [recF, extraF, z1, z2, z3, hk, a0, a0c, a4, a4b]]
    have HE0 := Lib.hid (Only.refl [] (w.alloc (.cells #[.int .i64 2, .int .i64 t, .int .i64 pv, .int .i64 pg, .int .i64 sl, .bool false, .slice A1 0 c1, .bool u2, .slice A2 n2 c2, .int .i64 un, .int .i64 0, .slice A3 0 c3, .slice A4 0 c4, .slice A5 n5 c5] 49)))
    go_enter Tryd.func29, Tryd.ntmps29
    go_upto_region 6 with (go_at_call 77; refine (in_calls _ _ _ _).mono ?_; rintro e w1 ⟨rfl, rfl⟩)
    dsimp only [List.append]
    go_wp2_with (first
      | (go_at_call 77; refine (in_calls _ _ _ _).mono ?_; rintro e w1 ⟨rfl, rfl⟩)
      | (go_at_call 78; refine (zeroRec_calls _ _ _ _ _).mono ?_; rintro e w1 ⟨rfl, hE⟩; replace HE0 := Lib.hid (HE0.out.ext hE); have m := fun o => alloc_cell HE0.out o; clear hE)
      | (go_at_call 79; refine (badRec_calls _ _ _ _ _).mono ?_; rintro e w1 ⟨rfl, hE⟩; replace HE0 := Lib.hid (HE0.out.ext hE); have m := fun o => alloc_cell HE0.out o; clear hE)
      | fail)
    go_ret
    exact ⟨rfl, (alloc_ext _ _).ext HE0.out⟩
  subst a4
  by_cases a5 : inR t 1 2147483647 = true
  case neg =>
    replace a5 : inR t 1 2147483647 = false := by simpa using a5
    rw [show recF 2 _ _ _ _ _ _ _ _ _ _ _ _ _ _ _ = 3 from by simp [recF, extraF, z1, z2, z3, hk, a0, a0c, a5]]
    have HE0 := Lib.hid (Only.refl [] (w.alloc (.cells #[.int .i64 2, .int .i64 t, .int .i64 pv, .int .i64 pg, .int .i64 sl, .bool false, .slice A1 0 c1, .bool u2, .slice A2 n2 c2, .int .i64 un, .int .i64 0, .slice A3 0 c3, .slice A4 0 c4, .slice A5 0 c5] 49)))
    go_enter Tryd.func29, Tryd.ntmps29
    go_upto_region 6 with (go_at_call 77; refine (in_calls _ _ _ _).mono ?_; rintro e w1 ⟨rfl, rfl⟩)
    dsimp only [List.append]
    go_wp2_with (first
      | (go_at_call 77; refine (in_calls _ _ _ _).mono ?_; rintro e w1 ⟨rfl, rfl⟩)
      | (go_at_call 78; refine (zeroRec_calls _ _ _ _ _).mono ?_; rintro e w1 ⟨rfl, hE⟩; replace HE0 := Lib.hid (HE0.out.ext hE); have m := fun o => alloc_cell HE0.out o; clear hE)
      | (go_at_call 79; refine (badRec_calls _ _ _ _ _).mono ?_; rintro e w1 ⟨rfl, hE⟩; replace HE0 := Lib.hid (HE0.out.ext hE); have m := fun o => alloc_cell HE0.out o; clear hE)
      | fail)
    go_ret
    exact ⟨rfl, (alloc_ext _ _).ext HE0.out⟩
  by_cases a6 : inR pv 0 1099511627776 = true
  case neg =>
    replace a6 : inR pv 0 1099511627776 = false := by simpa using a6
    rw [show recF 2 _ _ _ _ _ _ _ _ _ _ _ _ _ _ _ = 4 from by simp [recF, extraF, z1, z2, z3, hk, a0, a0c, a5, a6]]
    have HE0 := Lib.hid (Only.refl [] (w.alloc (.cells #[.int .i64 2, .int .i64 t, .int .i64 pv, .int .i64 pg, .int .i64 sl, .bool false, .slice A1 0 c1, .bool u2, .slice A2 n2 c2, .int .i64 un, .int .i64 0, .slice A3 0 c3, .slice A4 0 c4, .slice A5 0 c5] 49)))
    go_enter Tryd.func29, Tryd.ntmps29
    go_upto_region 6 with (go_at_call 77; refine (in_calls _ _ _ _).mono ?_; rintro e w1 ⟨rfl, rfl⟩)
    dsimp only [List.append]
    go_wp2_with (first
      | (go_at_call 77; refine (in_calls _ _ _ _).mono ?_; rintro e w1 ⟨rfl, rfl⟩)
      | (go_at_call 78; refine (zeroRec_calls _ _ _ _ _).mono ?_; rintro e w1 ⟨rfl, hE⟩; replace HE0 := Lib.hid (HE0.out.ext hE); have m := fun o => alloc_cell HE0.out o; clear hE)
      | (go_at_call 79; refine (badRec_calls _ _ _ _ _).mono ?_; rintro e w1 ⟨rfl, hE⟩; replace HE0 := Lib.hid (HE0.out.ext hE); have m := fun o => alloc_cell HE0.out o; clear hE)
      | fail)
    go_ret
    exact ⟨rfl, (alloc_ext _ _).ext HE0.out⟩
  by_cases a7 : inR pg 0 15 = true
  case neg =>
    replace a7 : inR pg 0 15 = false := by simpa using a7
    rw [show recF 2 _ _ _ _ _ _ _ _ _ _ _ _ _ _ _ = 5 from by simp [recF, extraF, z1, z2, z3, hk, a0, a0c, a5, a6, a7]]
    have HE0 := Lib.hid (Only.refl [] (w.alloc (.cells #[.int .i64 2, .int .i64 t, .int .i64 pv, .int .i64 pg, .int .i64 sl, .bool false, .slice A1 0 c1, .bool u2, .slice A2 n2 c2, .int .i64 un, .int .i64 0, .slice A3 0 c3, .slice A4 0 c4, .slice A5 0 c5] 49)))
    go_enter Tryd.func29, Tryd.ntmps29
    go_upto_region 6 with (go_at_call 77; refine (in_calls _ _ _ _).mono ?_; rintro e w1 ⟨rfl, rfl⟩)
    dsimp only [List.append]
    go_wp2_with (first
      | (go_at_call 77; refine (in_calls _ _ _ _).mono ?_; rintro e w1 ⟨rfl, rfl⟩)
      | (go_at_call 78; refine (zeroRec_calls _ _ _ _ _).mono ?_; rintro e w1 ⟨rfl, hE⟩; replace HE0 := Lib.hid (HE0.out.ext hE); have m := fun o => alloc_cell HE0.out o; clear hE)
      | (go_at_call 79; refine (badRec_calls _ _ _ _ _).mono ?_; rintro e w1 ⟨rfl, hE⟩; replace HE0 := Lib.hid (HE0.out.ext hE); have m := fun o => alloc_cell HE0.out o; clear hE)
      | fail)
    go_ret
    exact ⟨rfl, (alloc_ext _ _).ext HE0.out⟩
  by_cases a8 : inR sl 0 31 = true
  case neg =>
    replace a8 : inR sl 0 31 = false := by simpa using a8
    rw [show recF 2 _ _ _ _ _ _ _ _ _ _ _ _ _ _ _ = 5 from by simp [recF, extraF, z1, z2, z3, hk, a0, a0c, a5, a6, a7, a8]]
    have HE0 := Lib.hid (Only.refl [] (w.alloc (.cells #[.int .i64 2, .int .i64 t, .int .i64 pv, .int .i64 pg, .int .i64 sl, .bool false, .slice A1 0 c1, .bool u2, .slice A2 n2 c2, .int .i64 un, .int .i64 0, .slice A3 0 c3, .slice A4 0 c4, .slice A5 0 c5] 49)))
    go_enter Tryd.func29, Tryd.ntmps29
    go_upto_region 6 with (go_at_call 77; refine (in_calls _ _ _ _).mono ?_; rintro e w1 ⟨rfl, rfl⟩)
    dsimp only [List.append]
    go_wp2_with (first
      | (go_at_call 77; refine (in_calls _ _ _ _).mono ?_; rintro e w1 ⟨rfl, rfl⟩)
      | (go_at_call 78; refine (zeroRec_calls _ _ _ _ _).mono ?_; rintro e w1 ⟨rfl, hE⟩; replace HE0 := Lib.hid (HE0.out.ext hE); have m := fun o => alloc_cell HE0.out o; clear hE)
      | (go_at_call 79; refine (badRec_calls _ _ _ _ _).mono ?_; rintro e w1 ⟨rfl, hE⟩; replace HE0 := Lib.hid (HE0.out.ext hE); have m := fun o => alloc_cell HE0.out o; clear hE)
      | fail)
    go_ret
    exact ⟨rfl, (alloc_ext _ _).ext HE0.out⟩
  by_cases a9 : bR u2 n2 = false
  case neg =>
    replace a9 : bR u2 n2 = true := by simpa using a9
    rw [show recF 2 _ _ _ _ _ _ _ _ _ _ _ _ _ _ _ = 6 from by simp [recF, extraF, z1, z2, z3, hk, a0, a0c, a5, a6, a7, a8, a9]]
    have HE0 := Lib.hid (Only.refl [] (w.alloc (.cells #[.int .i64 2, .int .i64 t, .int .i64 pv, .int .i64 pg, .int .i64 sl, .bool false, .slice A1 0 c1, .bool u2, .slice A2 n2 c2, .int .i64 un, .int .i64 0, .slice A3 0 c3, .slice A4 0 c4, .slice A5 0 c5] 49)))
    go_enter Tryd.func29, Tryd.ntmps29
    go_upto_region 6 with (go_at_call 77; refine (in_calls _ _ _ _).mono ?_; rintro e w1 ⟨rfl, rfl⟩)
    dsimp only [List.append]
    go_wp2_with (first
      | (go_at_call 77; refine (in_calls _ _ _ _).mono ?_; rintro e w1 ⟨rfl, rfl⟩)
      | (go_at_call 78; refine (zeroRec_calls _ _ _ _ _).mono ?_; rintro e w1 ⟨rfl, hE⟩; replace HE0 := Lib.hid (HE0.out.ext hE); have m := fun o => alloc_cell HE0.out o; clear hE)
      | (go_at_call 79; refine (badRec_calls _ _ _ _ _).mono ?_; rintro e w1 ⟨rfl, hE⟩; replace HE0 := Lib.hid (HE0.out.ext hE); have m := fun o => alloc_cell HE0.out o; clear hE)
      | fail)
    go_ret
    exact ⟨rfl, (alloc_ext _ _).ext HE0.out⟩
  by_cases a10 : inR un 0 1099511627776 = true
  case neg =>
    replace a10 : inR un 0 1099511627776 = false := by simpa using a10
    rw [show recF 2 _ _ _ _ _ _ _ _ _ _ _ _ _ _ _ = 7 from by simp [recF, extraF, z1, z2, z3, hk, a0, a0c, a5, a6, a7, a8, a9, a10]]
    have HE0 := Lib.hid (Only.refl [] (w.alloc (.cells #[.int .i64 2, .int .i64 t, .int .i64 pv, .int .i64 pg, .int .i64 sl, .bool false, .slice A1 0 c1, .bool u2, .slice A2 n2 c2, .int .i64 un, .int .i64 0, .slice A3 0 c3, .slice A4 0 c4, .slice A5 0 c5] 49)))
    go_enter Tryd.func29, Tryd.ntmps29
    go_upto_region 6 with (go_at_call 77; refine (in_calls _ _ _ _).mono ?_; rintro e w1 ⟨rfl, rfl⟩)
    dsimp only [List.append]
    go_wp2_with (first
      | (go_at_call 77; refine (in_calls _ _ _ _).mono ?_; rintro e w1 ⟨rfl, rfl⟩)
      | (go_at_call 78; refine (zeroRec_calls _ _ _ _ _).mono ?_; rintro e w1 ⟨rfl, hE⟩; replace HE0 := Lib.hid (HE0.out.ext hE); have m := fun o => alloc_cell HE0.out o; clear hE)
      | (go_at_call 79; refine (badRec_calls _ _ _ _ _).mono ?_; rintro e w1 ⟨rfl, hE⟩; replace HE0 := Lib.hid (HE0.out.ext hE); have m := fun o => alloc_cell HE0.out o; clear hE)
      | fail)
    go_ret
    exact ⟨rfl, (alloc_ext _ _).ext HE0.out⟩
  rw [show recF 2 _ _ _ _ _ _ _ _ _ _ _ _ _ _ _ = 0 from by simp [recF, extraF, z1, z2, z3, hk, a0, a0c, a5, a6, a7, a8, a9, a10]]
  have HE0 := Lib.hid (Only.refl [] (w.alloc (.cells #[.int .i64 2, .int .i64 t, .int .i64 pv, .int .i64 pg, .int .i64 sl, .bool false, .slice A1 0 c1, .bool u2, .slice A2 n2 c2, .int .i64 un, .int .i64 0, .slice A3 0 c3, .slice A4 0 c4, .slice A5 0 c5] 49)))
  go_enter Tryd.func29, Tryd.ntmps29
  go_upto_region 6 with (go_at_call 77; refine (in_calls _ _ _ _).mono ?_; rintro e w1 ⟨rfl, rfl⟩)
  dsimp only [List.append]
  go_wp2_with (first
    | (go_at_call 77; refine (in_calls _ _ _ _).mono ?_; rintro e w1 ⟨rfl, rfl⟩)
    | (go_at_call 78; refine (zeroRec_calls _ _ _ _ _).mono ?_; rintro e w1 ⟨rfl, hE⟩; replace HE0 := Lib.hid (HE0.out.ext hE); have m := fun o => alloc_cell HE0.out o; clear hE)
    | (go_at_call 79; refine (badRec_calls _ _ _ _ _).mono ?_; rintro e w1 ⟨rfl, hE⟩; replace HE0 := Lib.hid (HE0.out.ext hE); have m := fun o => alloc_cell HE0.out o; clear hE)
    | fail)
  go_ret
  exact ⟨rfl, (alloc_ext _ _).ext HE0.out⟩
set_option maxRecDepth 100000 in
set_option maxHeartbeats 8000000 in
theorem implRF_8 (w : World) (t pv pg sl : Int) (u1 : Bool) (A1 : Option Addr) (n1 c1 : Nat) (u2 : Bool) (A2 : Option Addr) (n2 c2 : Nat) (un nt : Int) (A3 : Option Addr) (n3 c3 : Nat) (A4 : Option Addr) (n4 c4 : Nat) (A5 : Option Addr) (n5 c5 : Nat) (tb : Bool) (pf : Int) (HP : Hid (∀ W, Ext w W → Calls Tryd.prog 81 #[.slice A5 n5 c5, .int .i64 pg] W fun e w' => e = .returned (.int .i64 pf) ∧ Ext W w')) :
    Calls Tryd.prog 29 #[.agg #[.int .i64 8, .int .i64 t, .int .i64 pv, .int .i64 pg, .int .i64 sl, .bool u1, .slice A1 n1 c1, .bool u2, .slice A2 n2 c2, .int .i64 un, .int .i64 nt, .slice A3 n3 c3, .slice A4 n4 c4, .slice A5 n5 c5]] w fun e w' => e = .returned (.int .i64 (recF 8 t pv pg sl u1 n1 u2 n2 un nt n3 n4 n5 tb pf)) ∧ Ext w w' := by
  have hu := Tryd.underlying49
  have hu2 := Tryd.underlying33
  have hk : inR 8 1 8 = true := rfl
  have z1 : inR 0 0 1099511627776 = true := rfl
  have z2 : inR 0 0 15 = true := rfl
  have z3 : inR 0 0 31 = true := rfl
  by_cases a0 : t = 0
  case neg =>
    have a0b : (t != 0) = true := bne_iff_ne.2 a0
    rw [show recF 8 _ _ _ _ _ _ _ _ _ _ _ _ _ _ _ = 2 from by simp [recF, extraF, z1, z2, z3, hk, a0]]
    have HE0 := Lib.hid (Only.refl [] (w.alloc (.cells #[.int .i64 8, .int .i64 t, .int .i64 pv, .int .i64 pg, .int .i64 sl, .bool u1, .slice A1 n1 c1, .bool u2, .slice A2 n2 c2, .int .i64 un, .int .i64 nt, .slice A3 n3 c3, .slice A4 n4 c4, .slice A5 n5 c5] 49)))
    go_enter Tryd.func29, Tryd.ntmps29
    go_upto_region 6 with (go_at_call 77; refine (in_calls _ _ _ _).mono ?_; rintro e w1 ⟨rfl, rfl⟩)
    dsimp only [List.append]
    go_wp2_with (first
      | (go_at_call 77; refine (in_calls _ _ _ _).mono ?_; rintro e w1 ⟨rfl, rfl⟩)
      | (go_at_call 78; refine (zeroRec_calls _ _ _ _ _).mono ?_; rintro e w1 ⟨rfl, hE⟩; replace HE0 := Lib.hid (HE0.out.ext hE); have m := fun o => alloc_cell HE0.out o; clear hE)
      | (go_at_call 79; refine (badRec_calls _ _ _ _ _).mono ?_; rintro e w1 ⟨rfl, hE⟩; replace HE0 := Lib.hid (HE0.out.ext hE); have m := fun o => alloc_cell HE0.out o; clear hE)
      | (go_at_call 81; refine (HP.out _ ((alloc_ext _ _).ext HE0.out)).mono ?_; rintro e w1 ⟨rfl, hE⟩; replace HE0 := Lib.hid (HE0.out.ext hE); have m := fun o => alloc_cell HE0.out o; clear hE)
      | fail)
    go_ret
    exact ⟨rfl, (alloc_ext _ _).ext HE0.out⟩
  subst a0
  by_cases a1 : pv = 0
  case neg =>
    have a1b : (pv != 0) = true := bne_iff_ne.2 a1
    rw [show recF 8 _ _ _ _ _ _ _ _ _ _ _ _ _ _ _ = 2 from by simp [recF, extraF, z1, z2, z3, hk, a1]]
    have HE0 := Lib.hid (Only.refl [] (w.alloc (.cells #[.int .i64 8, .int .i64 0, .int .i64 pv, .int .i64 pg, .int .i64 sl, .bool u1, .slice A1 n1 c1, .bool u2, .slice A2 n2 c2, .int .i64 un, .int .i64 nt, .slice A3 n3 c3, .slice A4 n4 c4, .slice A5 n5 c5] 49)))
    go_enter Tryd.func29, Tryd.ntmps29
    go_upto_region 6 with (go_at_call 77; refine (in_calls _ _ _ _).mono ?_; rintro e w1 ⟨rfl, rfl⟩)
    dsimp only [List.append]
    go_wp2_with (first
      | (go_at_call 77; refine (in_calls _ _ _ _).mono ?_; rintro e w1 ⟨rfl, rfl⟩)
      | (go_at_call 78; refine (zeroRec_calls _ _ _ _ _).mono ?_; rintro e w1 ⟨rfl, hE⟩; replace HE0 := Lib.hid (HE0.out.ext hE); have m := fun o => alloc_cell HE0.out o; clear hE)
      | (go_at_call 79; refine (badRec_calls _ _ _ _ _).mono ?_; rintro e w1 ⟨rfl, hE⟩; replace HE0 := Lib.hid (HE0.out.ext hE); have m := fun o => alloc_cell HE0.out o; clear hE)
      | (go_at_call 81; refine (HP.out _ ((alloc_ext _ _).ext HE0.out)).mono ?_; rintro e w1 ⟨rfl, hE⟩; replace HE0 := Lib.hid (HE0.out.ext hE); have m := fun o => alloc_cell HE0.out o; clear hE)
      | fail)
    go_ret
    exact ⟨rfl, (alloc_ext _ _).ext HE0.out⟩
  subst a1
  by_cases a2 : sl = 0
  case neg =>
    have a2b : (sl != 0) = true := bne_iff_ne.2 a2
    rw [show recF 8 _ _ _ _ _ _ _ _ _ _ _ _ _ _ _ = 2 from by simp [recF, extraF, z1, z2, z3, hk, a2]]
    have HE0 := Lib.hid (Only.refl [] (w.alloc (.cells #[.int .i64 8, .int .i64 0, .int .i64 0, .int .i64 pg, .int .i64 sl, .bool u1, .slice A1 n1 c1, .bool u2, .slice A2 n2 c2, .int .i64 un, .int .i64 nt, .slice A3 n3 c3, .slice A4 n4 c4, .slice A5 n5 c5] 49)))
    go_enter Tryd.func29, Tryd.ntmps29
    go_upto_region 6 with (go_at_call 77; refine (in_calls _ _ _ _).mono ?_; rintro e w1 ⟨rfl, rfl⟩)
    dsimp only [List.append]
    go_wp2_with (first
      | (go_at_call 77; refine (in_calls _ _ _ _).mono ?_; rintro e w1 ⟨rfl, rfl⟩)
      | (go_at_call 78; refine (zeroRec_calls _ _ _ _ _).mono ?_; rintro e w1 ⟨rfl, hE⟩; replace HE0 := Lib.hid (HE0.out.ext hE); have m := fun o => alloc_cell HE0.out o; clear hE)
      | (go_at_call 79; refine (badRec_calls _ _ _ _ _).mono ?_; rintro e w1 ⟨rfl, hE⟩; replace HE0 := Lib.hid (HE0.out.ext hE); have m := fun o => alloc_cell HE0.out o; clear hE)
      | (go_at_call 81; refine (HP.out _ ((alloc_ext _ _).ext HE0.out)).mono ?_; rintro e w1 ⟨rfl, hE⟩; replace HE0 := Lib.hid (HE0.out.ext hE); have m := fun o => alloc_cell HE0.out o; clear hE)
      | fail)
    go_ret
    exact ⟨rfl, (alloc_ext _ _).ext HE0.out⟩
  subst a2
  by_cases a3 : zR u2 n2 = true
  case neg =>
    replace a3 : zR u2 n2 = false := by simpa using a3
    rw [show recF 8 _ _ _ _ _ _ _ _ _ _ _ _ _ _ _ = 2 from by simp [recF, extraF, z1, z2, z3, hk, a3]]
    have HE0 := Lib.hid (Only.refl [] (w.alloc (.cells #[.int .i64 8, .int .i64 0, .int .i64 0, .int .i64 pg, .int .i64 0, .bool u1, .slice A1 n1 c1, .bool u2, .slice A2 n2 c2, .int .i64 un, .int .i64 nt, .slice A3 n3 c3, .slice A4 n4 c4, .slice A5 n5 c5] 49)))
    go_enter Tryd.func29, Tryd.ntmps29
    go_upto_region 6 with (go_at_call 77; refine (in_calls _ _ _ _).mono ?_; rintro e w1 ⟨rfl, rfl⟩)
    dsimp only [List.append]
    go_wp2_with (first
      | (go_at_call 77; refine (in_calls _ _ _ _).mono ?_; rintro e w1 ⟨rfl, rfl⟩)
      | (go_at_call 78; refine (zeroRec_calls _ _ _ _ _).mono ?_; rintro e w1 ⟨rfl, hE⟩; replace HE0 := Lib.hid (HE0.out.ext hE); have m := fun o => alloc_cell HE0.out o; clear hE)
      | (go_at_call 79; refine (badRec_calls _ _ _ _ _).mono ?_; rintro e w1 ⟨rfl, hE⟩; replace HE0 := Lib.hid (HE0.out.ext hE); have m := fun o => alloc_cell HE0.out o; clear hE)
      | (go_at_call 81; refine (HP.out _ ((alloc_ext _ _).ext HE0.out)).mono ?_; rintro e w1 ⟨rfl, hE⟩; replace HE0 := Lib.hid (HE0.out.ext hE); have m := fun o => alloc_cell HE0.out o; clear hE)
      | fail)
    go_ret
    exact ⟨rfl, (alloc_ext _ _).ext HE0.out⟩
  have a3c : bR u2 n2 = false := bR_false.2 (by have h := zR_true.1 a3; exact ⟨by omega, .inr h.2⟩)
  by_cases a4 : zR u1 n1 = true
  case neg =>
    replace a4 : zR u1 n1 = false := by simpa using a4
    rw [show recF 8 _ _ _ _ _ _ _ _ _ _ _ _ _ _ _ = 2 from by simp [recF, extraF, z1, z2, z3, hk, a3, a3c, a4]]
    have HE0 := Lib.hid (Only.refl [] (w.alloc (.cells #[.int .i64 8, .int .i64 0, .int .i64 0, .int .i64 pg, .int .i64 0, .bool u1, .slice A1 n1 c1, .bool u2, .slice A2 n2 c2, .int .i64 un, .int .i64 nt, .slice A3 n3 c3, .slice A4 n4 c4, .slice A5 n5 c5] 49)))
    go_enter Tryd.func29, Tryd.ntmps29
    go_upto_region 6 with (go_at_call 77; refine (in_calls _ _ _ _).mono ?_; rintro e w1 ⟨rfl, rfl⟩)
    dsimp only [List.append]
    go_wp2_with (first
      | (go_at_call 77; refine (in_calls _ _ _ _).mono ?_; rintro e w1 ⟨rfl, rfl⟩)
      | (go_at_call 78; refine (zeroRec_calls _ _ _ _ _).mono ?_; rintro e w1 ⟨rfl, hE⟩; replace HE0 := Lib.hid (HE0.out.ext hE); have m := fun o => alloc_cell HE0.out o; clear hE)
      | (go_at_call 79; refine (badRec_calls _ _ _ _ _).mono ?_; rintro e w1 ⟨rfl, hE⟩; replace HE0 := Lib.hid (HE0.out.ext hE); have m := fun o => alloc_cell HE0.out o; clear hE)
      | (go_at_call 81; refine (HP.out _ ((alloc_ext _ _).ext HE0.out)).mono ?_; rintro e w1 ⟨rfl, hE⟩; replace HE0 := Lib.hid (HE0.out.ext hE); have m := fun o => alloc_cell HE0.out o; clear hE)
      | fail)
    go_ret
    exact ⟨rfl, (alloc_ext _ _).ext HE0.out⟩
  have a4c : bR u1 n1 = false := bR_false.2 (by have h := zR_true.1 a4; exact ⟨by omega, .inr h.2⟩)
  by_cases a5 : un = 0
  case neg =>
    have a5b : (un != 0) = true := bne_iff_ne.2 a5
    rw [show recF 8 _ _ _ _ _ _ _ _ _ _ _ _ _ _ _ = 2 from by simp [recF, extraF, z1, z2, z3, hk, a3, a3c, a4, a4c, a5]]
    have HE0 := Lib.hid (Only.refl [] (w.alloc (.cells #[.int .i64 8, .int .i64 0, .int .i64 0, .int .i64 pg, .int .i64 0, .bool u1, .slice A1 n1 c1, .bool u2, .slice A2 n2 c2, .int .i64 un, .int .i64 nt, .slice A3 n3 c3, .slice A4 n4 c4, .slice A5 n5 c5] 49)))
    go_enter Tryd.func29, Tryd.ntmps29
    go_upto_region 6 with (go_at_call 77; refine (in_calls _ _ _ _).mono ?_; rintro e w1 ⟨rfl, rfl⟩)
    dsimp only [List.append]
    go_wp2_with (first
      | (go_at_call 77; refine (in_calls _ _ _ _).mono ?_; rintro e w1 ⟨rfl, rfl⟩)
      | (go_at_call 78; refine (zeroRec_calls _ _ _ _ _).mono ?_; rintro e w1 ⟨rfl, hE⟩; replace HE0 := Lib.hid (HE0.out.ext hE); have m := fun o => alloc_cell HE0.out o; clear hE)
      | (go_at_call 79; refine (badRec_calls _ _ _ _ _).mono ?_; rintro e w1 ⟨rfl, hE⟩; replace HE0 := Lib.hid (HE0.out.ext hE); have m := fun o => alloc_cell HE0.out o; clear hE)
      | (go_at_call 81; refine (HP.out _ ((alloc_ext _ _).ext HE0.out)).mono ?_; rintro e w1 ⟨rfl, hE⟩; replace HE0 := Lib.hid (HE0.out.ext hE); have m := fun o => alloc_cell HE0.out o; clear hE)
      | fail)
    go_ret
    exact ⟨rfl, (alloc_ext _ _).ext HE0.out⟩
  subst a5
  by_cases a6 : nt = 0
  case neg =>
    have a6b : (nt != 0) = true := bne_iff_ne.2 a6
    rw [show recF 8 _ _ _ _ _ _ _ _ _ _ _ _ _ _ _ = 2 from by simp [recF, extraF, z1, z2, z3, hk, a3, a3c, a4, a4c, a6]]
    have HE0 := Lib.hid (Only.refl [] (w.alloc (.cells #[.int .i64 8, .int .i64 0, .int .i64 0, .int .i64 pg, .int .i64 0, .bool u1, .slice A1 n1 c1, .bool u2, .slice A2 n2 c2, .int .i64 0, .int .i64 nt, .slice A3 n3 c3, .slice A4 n4 c4, .slice A5 n5 c5] 49)))
    go_enter Tryd.func29, Tryd.ntmps29
    go_upto_region 6 with (go_at_call 77; refine (in_calls _ _ _ _).mono ?_; rintro e w1 ⟨rfl, rfl⟩)
    dsimp only [List.append]
    go_wp2_with (first
      | (go_at_call 77; refine (in_calls _ _ _ _).mono ?_; rintro e w1 ⟨rfl, rfl⟩)
      | (go_at_call 78; refine (zeroRec_calls _ _ _ _ _).mono ?_; rintro e w1 ⟨rfl, hE⟩; replace HE0 := Lib.hid (HE0.out.ext hE); have m := fun o => alloc_cell HE0.out o; clear hE)
      | (go_at_call 79; refine (badRec_calls _ _ _ _ _).mono ?_; rintro e w1 ⟨rfl, hE⟩; replace HE0 := Lib.hid (HE0.out.ext hE); have m := fun o => alloc_cell HE0.out o; clear hE)
      | (go_at_call 81; refine (HP.out _ ((alloc_ext _ _).ext HE0.out)).mono ?_; rintro e w1 ⟨rfl, hE⟩; replace HE0 := Lib.hid (HE0.out.ext hE); have m := fun o => alloc_cell HE0.out o; clear hE)
      | fail)
    go_ret
    exact ⟨rfl, (alloc_ext _ _).ext HE0.out⟩
  subst a6
  by_cases a7 : n3 = 0
  case neg =>
    have a7b : 0 < n3 := by omega
    have a7c : (0 : Int) < (n3 : Int) := by omega
    have a7d : decide (0 < n3) = true := decide_eq_true a7b
    rw [show recF 8 _ _ _ _ _ _ _ _ _ _ _ _ _ _ _ = 2 from by simp [recF, extraF, z1, z2, z3, hk, a3, a3c, a4, a4c, a7, a7b]]
    have HE0 := Lib.hid (Only.refl [] (w.alloc (.cells #[.int .i64 8, .int .i64 0, .int .i64 0, .int .i64 pg, .int .i64 0, .bool u1, .slice A1 n1 c1, .bool u2, .slice A2 n2 c2, .int .i64 0, .int .i64 0, .slice A3 n3 c3, .slice A4 n4 c4, .slice A5 n5 c5] 49)))
    go_enter Tryd.func29, Tryd.ntmps29
    go_upto_region 6 with (go_at_call 77; refine (in_calls _ _ _ _).mono ?_; rintro e w1 ⟨rfl, rfl⟩)
    dsimp only [List.append]
    go_wp2_with (first
      | (go_at_call 77; refine (in_calls _ _ _ _).mono ?_; rintro e w1 ⟨rfl, rfl⟩)
      | (go_at_call 78; refine (zeroRec_calls _ _ _ _ _).mono ?_; rintro e w1 ⟨rfl, hE⟩; replace HE0 := Lib.hid (HE0.out.ext hE); have m := fun o => alloc_cell HE0.out o; clear hE)
      | (go_at_call 79; refine (badRec_calls _ _ _ _ _).mono ?_; rintro e w1 ⟨rfl, hE⟩; replace HE0 := Lib.hid (HE0.out.ext hE); have m := fun o => alloc_cell HE0.out o; clear hE)
      | (go_at_call 81; refine (HP.out _ ((alloc_ext _ _).ext HE0.out)).mono ?_; rintro e w1 ⟨rfl, hE⟩; replace HE0 := Lib.hid (HE0.out.ext hE); have m := fun o => alloc_cell HE0.out o; clear hE)
      | fail)
    go_ret
    exact ⟨rfl, (alloc_ext _ _).ext HE0.out⟩
  subst a7
  by_cases a8 : n4 = 0
  case neg =>
    have a8b : 0 < n4 := by omega
    have a8c : (0 : Int) < (n4 : Int) := by omega
    have a8d : decide (0 < n4) = true := decide_eq_true a8b
    rw [show recF 8 _ _ _ _ _ _ _ _ _ _ _ _ _ _ _ = 2 from by simp [recF, extraF, z1, z2, z3, hk, a3, a3c, a4, a4c, a8, a8b]]
    have HE0 := Lib.hid (Only.refl [] (w.alloc (.cells #[.int .i64 8, .int .i64 0, .int .i64 0, .int .i64 pg, .int .i64 0, .bool u1, .slice A1 n1 c1, .bool u2, .slice A2 n2 c2, .int .i64 0, .int .i64 0, .slice A3 0 c3, .slice A4 n4 c4, .slice A5 n5 c5] 49)))
    go_enter Tryd.func29, Tryd.ntmps29
    go_upto_region 6 with (go_at_call 77; refine (in_calls _ _ _ _).mono ?_; rintro e w1 ⟨rfl, rfl⟩)
    dsimp only [List.append]
    go_wp2_with (first
      | (go_at_call 77; refine (in_calls _ _ _ _).mono ?_; rintro e w1 ⟨rfl, rfl⟩)
      | (go_at_call 78; refine (zeroRec_calls _ _ _ _ _).mono ?_; rintro e w1 ⟨rfl, hE⟩; replace HE0 := Lib.hid (HE0.out.ext hE); have m := fun o => alloc_cell HE0.out o; clear hE)
      | (go_at_call 79; refine (badRec_calls _ _ _ _ _).mono ?_; rintro e w1 ⟨rfl, hE⟩; replace HE0 := Lib.hid (HE0.out.ext hE); have m := fun o => alloc_cell HE0.out o; clear hE)
      | (go_at_call 81; refine (HP.out _ ((alloc_ext _ _).ext HE0.out)).mono ?_; rintro e w1 ⟨rfl, hE⟩; replace HE0 := Lib.hid (HE0.out.ext hE); have m := fun o => alloc_cell HE0.out o; clear hE)
      | fail)
    go_ret
    exact ⟨rfl, (alloc_ext _ _).ext HE0.out⟩
  subst a8
  by_cases a9 : inR pg 0 15 = true
  case neg =>
    replace a9 : inR pg 0 15 = false := by simpa using a9
    rw [show recF 8 _ _ _ _ _ _ _ _ _ _ _ _ _ _ _ = 5 from by simp [recF, extraF, z1, z2, z3, hk, a3, a3c, a4, a4c, a9]]
    have HE0 := Lib.hid (Only.refl [] (w.alloc (.cells #[.int .i64 8, .int .i64 0, .int .i64 0, .int .i64 pg, .int .i64 0, .bool u1, .slice A1 n1 c1, .bool u2, .slice A2 n2 c2, .int .i64 0, .int .i64 0, .slice A3 0 c3, .slice A4 0 c4, .slice A5 n5 c5] 49)))
    go_enter Tryd.func29, Tryd.ntmps29
    go_upto_region 6 with (go_at_call 77; refine (in_calls _ _ _ _).mono ?_; rintro e w1 ⟨rfl, rfl⟩)
    dsimp only [List.append]
    go_wp2_with (first
      | (go_at_call 77; refine (in_calls _ _ _ _).mono ?_; rintro e w1 ⟨rfl, rfl⟩)
      | (go_at_call 78; refine (zeroRec_calls _ _ _ _ _).mono ?_; rintro e w1 ⟨rfl, hE⟩; replace HE0 := Lib.hid (HE0.out.ext hE); have m := fun o => alloc_cell HE0.out o; clear hE)
      | (go_at_call 79; refine (badRec_calls _ _ _ _ _).mono ?_; rintro e w1 ⟨rfl, hE⟩; replace HE0 := Lib.hid (HE0.out.ext hE); have m := fun o => alloc_cell HE0.out o; clear hE)
      | (go_at_call 81; refine (HP.out _ ((alloc_ext _ _).ext HE0.out)).mono ?_; rintro e w1 ⟨rfl, hE⟩; replace HE0 := Lib.hid (HE0.out.ext hE); have m := fun o => alloc_cell HE0.out o; clear hE)
      | fail)
    go_ret
    exact ⟨rfl, (alloc_ext _ _).ext HE0.out⟩
  by_cases a10 : pf = 0
  case neg =>
    have a10b : (pf != 0) = true := bne_iff_ne.2 a10
    rw [show recF 8 _ _ _ _ _ _ _ _ _ _ _ _ _ _ _ = 9 from by simp [recF, extraF, z1, z2, z3, hk, a3, a3c, a4, a4c, a9, a10]]
    have HE0 := Lib.hid (Only.refl [] (w.alloc (.cells #[.int .i64 8, .int .i64 0, .int .i64 0, .int .i64 pg, .int .i64 0, .bool u1, .slice A1 n1 c1, .bool u2, .slice A2 n2 c2, .int .i64 0, .int .i64 0, .slice A3 0 c3, .slice A4 0 c4, .slice A5 n5 c5] 49)))
    go_enter Tryd.func29, Tryd.ntmps29
    go_upto_region 6 with (go_at_call 77; refine (in_calls _ _ _ _).mono ?_; rintro e w1 ⟨rfl, rfl⟩)
    dsimp only [List.append]
    go_wp2_with (first
      | (go_at_call 77; refine (in_calls _ _ _ _).mono ?_; rintro e w1 ⟨rfl, rfl⟩)
      | (go_at_call 78; refine (zeroRec_calls _ _ _ _ _).mono ?_; rintro e w1 ⟨rfl, hE⟩; replace HE0 := Lib.hid (HE0.out.ext hE); have m := fun o => alloc_cell HE0.out o; clear hE)
      | (go_at_call 79; refine (badRec_calls _ _ _ _ _).mono ?_; rintro e w1 ⟨rfl, hE⟩; replace HE0 := Lib.hid (HE0.out.ext hE); have m := fun o => alloc_cell HE0.out o; clear hE)
      | (go_at_call 81; refine (HP.out _ ((alloc_ext _ _).ext HE0.out)).mono ?_; rintro e w1 ⟨rfl, hE⟩; replace HE0 := Lib.hid (HE0.out.ext hE); have m := fun o => alloc_cell HE0.out o; clear hE)
      | fail)
    go_ret
    exact ⟨rfl, (alloc_ext _ _).ext HE0.out⟩
  subst a10
  rw [show recF 8 _ _ _ _ _ _ _ _ _ _ _ _ _ _ _ = 0 from by simp [recF, extraF, z1, z2, z3, hk, a3, a3c, a4, a4c, a9]]
  have HE0 := Lib.hid (Only.refl [] (w.alloc (.cells #[.int .i64 8, .int .i64 0, .int .i64 0, .int .i64 pg, .int .i64 0, .bool u1, .slice A1 n1 c1, .bool u2, .slice A2 n2 c2, .int .i64 0, .int .i64 0, .slice A3 0 c3, .slice A4 0 c4, .slice A5 n5 c5] 49)))
  go_enter Tryd.func29, Tryd.ntmps29
  go_upto_region 6 with (go_at_call 77; refine (in_calls _ _ _ _).mono ?_; rintro e w1 ⟨rfl, rfl⟩)
  dsimp only [List.append]
  go_wp2_with (first
    | (go_at_call 77; refine (in_calls _ _ _ _).mono ?_; rintro e w1 ⟨rfl, rfl⟩)
    | (go_at_call 78; refine (zeroRec_calls _ _ _ _ _).mono ?_; rintro e w1 ⟨rfl, hE⟩; replace HE0 := Lib.hid (HE0.out.ext hE); have m := fun o => alloc_cell HE0.out o; clear hE)
    | (go_at_call 79; refine (badRec_calls _ _ _ _ _).mono ?_; rintro e w1 ⟨rfl, hE⟩; replace HE0 := Lib.hid (HE0.out.ext hE); have m := fun o => alloc_cell HE0.out o; clear hE)
    | (go_at_call 81; refine (HP.out _ ((alloc_ext _ _).ext HE0.out)).mono ?_; rintro e w1 ⟨rfl, hE⟩; replace HE0 := Lib.hid (HE0.out.ext hE); have m := fun o => alloc_cell HE0.out o; clear hE)
    | fail)
  go_ret
  exact ⟨rfl, (alloc_ext _ _).ext HE0.out⟩
end Go.Proofs.YtghgjddiheebeaaDoor
