/- RecordFault: the reference's, a kind at a time. -/
import Derived.Test.YtghgjddiheebeaaDoorMX16
import Derived.Deep.DeepCutAuto
import Derived.Deep.CutBlock
namespace Go.Proofs.YtghgjddiheebeaaDoor
open Go.RowKit
set_option linter.unusedSimpArgs false
set_option linter.unusedVariables false
set_option maxRecDepth 100000 in
set_option maxHeartbeats 8000000 in
theorem specRF_1 (w : World) (t pv pg sl : Int) (u1 : Bool) (A1 : Option Addr) (n1 c1 : Nat) (u2 : Bool) (A2 : Option Addr) (n2 c2 : Nat) (un nt : Int) (A3 : Option Addr) (n3 c3 : Nat) (A4 : Option Addr) (n4 c4 : Nat) (A5 : Option Addr) (n5 c5 : Nat) (tb : Bool) (pf : Int) (HX : Hid (∀ W, Ext w W → Calls Tryd.prog 71 #[.agg #[.int .i64 1, .int .i64 t, .int .i64 pv, .int .i64 pg, .int .i64 sl, .bool u1, .slice A1 n1 c1, .bool u2, .slice A2 n2 c2, .int .i64 un, .int .i64 nt, .slice A3 n3 c3, .slice A4 n4 c4, .slice A5 n5 c5]] W fun e w' => e = .returned (.bool (extraF 1 t pv pg sl u1 n1 u2 n2 un nt n3 n4 n5)) ∧ Ext W w')) :
    Calls Tryd.prog 27 #[.agg #[.int .i64 1, .int .i64 t, .int .i64 pv, .int .i64 pg, .int .i64 sl, .bool u1, .slice A1 n1 c1, .bool u2, .slice A2 n2 c2, .int .i64 un, .int .i64 nt, .slice A3 n3 c3, .slice A4 n4 c4, .slice A5 n5 c5]] w fun e w' => e = .returned (.int .i64 (recF 1 t pv pg sl u1 n1 u2 n2 un nt n3 n4 n5 tb pf)) ∧ Ext w w' := by
  have hu := Tryd.underlying49
  have hu2 := Tryd.underlying33
  have hk : inR 1 1 8 = true := rfl
  have z1 : inR 0 0 1099511627776 = true := rfl
  have z2 : inR 0 0 15 = true := rfl
  have z3 : inR 0 0 31 = true := rfl
  by_cases hx : extraF 1 t pv pg sl u1 n1 u2 n2 un nt n3 n4 n5 = true
  case pos =>
    rw [show recF 1 _ _ _ _ _ _ _ _ _ _ _ _ _ _ _ = 2 from by simp [recF, hk, hx, z1, z2, z3]]
    have HE0 := Lib.hid (Only.refl [] (w.alloc (.cells #[.int .i64 1, .int .i64 t, .int .i64 pv, .int .i64 pg, .int .i64 sl, .bool u1, .slice A1 n1 c1, .bool u2, .slice A2 n2 c2, .int .i64 un, .int .i64 nt, .slice A3 n3 c3, .slice A4 n4 c4, .slice A5 n5 c5] 49)))
    go_enter Tryd.func27, Tryd.ntmps27
    go_wp2_with (first
      | (go_at_call 70; refine (l4In_calls _ _ _ _).mono ?_; rintro e w1 ⟨rfl, rfl⟩)
      | (go_at_call 71; refine (HX.out _ ((alloc_ext _ _).ext HE0.out)).mono ?_; rintro e w1 ⟨rfl, hE⟩; replace HE0 := Lib.hid (HE0.out.ext hE); have m := fun o => alloc_cell HE0.out o; clear hE)
      | (go_at_call 72; refine (l4Slot_calls _ _ _ _ _).mono ?_; rintro e w1 ⟨rfl, hE⟩; replace HE0 := Lib.hid (HE0.out.ext hE); have m := fun o => alloc_cell HE0.out o; clear hE)
      | fail)
    go_ret
    exact ⟨rfl, (alloc_ext _ _).ext HE0.out⟩
  replace hx : extraF 1 t pv pg sl u1 n1 u2 n2 un nt n3 n4 n5 = false := by simpa using hx
  have a0 : un = 0 := Classical.byContradiction (fun h => by simp [extraF, h] at hx)
  subst a0
  have a1 : nt = 0 := Classical.byContradiction (fun h => by simp [extraF, h] at hx)
  subst a1
  have a2 : n3 = 0 := Classical.byContradiction (fun h => by have h' : 0 < n3 := (by omega); simp [extraF, h'] at hx)
  subst a2
  have a3 : n4 = 0 := Classical.byContradiction (fun h => by have h' : 0 < n4 := (by omega); simp [extraF, h'] at hx)
  subst a3
  have a4 : n5 = 0 := Classical.byContradiction (fun h => by have h' : 0 < n5 := (by omega); simp [extraF, h'] at hx)
  subst a4
  by_cases a5 : inR t 1 2147483647 = true
  case neg =>
    replace a5 : inR t 1 2147483647 = false := by simpa using a5
    rw [show recF 1 _ _ _ _ _ _ _ _ _ _ _ _ _ _ _ = 3 from by simp [recF, hk, hx, z1, z2, z3, a5]]
    have HE0 := Lib.hid (Only.refl [] (w.alloc (.cells #[.int .i64 1, .int .i64 t, .int .i64 pv, .int .i64 pg, .int .i64 sl, .bool u1, .slice A1 n1 c1, .bool u2, .slice A2 n2 c2, .int .i64 0, .int .i64 0, .slice A3 0 c3, .slice A4 0 c4, .slice A5 0 c5] 49)))
    go_enter Tryd.func27, Tryd.ntmps27
    go_wp2_with (first
      | (go_at_call 70; refine (l4In_calls _ _ _ _).mono ?_; rintro e w1 ⟨rfl, rfl⟩)
      | (go_at_call 71; refine (HX.out _ ((alloc_ext _ _).ext HE0.out)).mono ?_; rintro e w1 ⟨rfl, hE⟩; replace HE0 := Lib.hid (HE0.out.ext hE); have m := fun o => alloc_cell HE0.out o; clear hE)
      | (go_at_call 72; refine (l4Slot_calls _ _ _ _ _).mono ?_; rintro e w1 ⟨rfl, hE⟩; replace HE0 := Lib.hid (HE0.out.ext hE); have m := fun o => alloc_cell HE0.out o; clear hE)
      | fail)
    go_ret
    exact ⟨rfl, (alloc_ext _ _).ext HE0.out⟩
  by_cases a6 : inR pv 0 1099511627776 = true
  case neg =>
    replace a6 : inR pv 0 1099511627776 = false := by simpa using a6
    rw [show recF 1 _ _ _ _ _ _ _ _ _ _ _ _ _ _ _ = 4 from by simp [recF, hk, hx, z1, z2, z3, a5, a6]]
    have HE0 := Lib.hid (Only.refl [] (w.alloc (.cells #[.int .i64 1, .int .i64 t, .int .i64 pv, .int .i64 pg, .int .i64 sl, .bool u1, .slice A1 n1 c1, .bool u2, .slice A2 n2 c2, .int .i64 0, .int .i64 0, .slice A3 0 c3, .slice A4 0 c4, .slice A5 0 c5] 49)))
    go_enter Tryd.func27, Tryd.ntmps27
    go_wp2_with (first
      | (go_at_call 70; refine (l4In_calls _ _ _ _).mono ?_; rintro e w1 ⟨rfl, rfl⟩)
      | (go_at_call 71; refine (HX.out _ ((alloc_ext _ _).ext HE0.out)).mono ?_; rintro e w1 ⟨rfl, hE⟩; replace HE0 := Lib.hid (HE0.out.ext hE); have m := fun o => alloc_cell HE0.out o; clear hE)
      | (go_at_call 72; refine (l4Slot_calls _ _ _ _ _).mono ?_; rintro e w1 ⟨rfl, hE⟩; replace HE0 := Lib.hid (HE0.out.ext hE); have m := fun o => alloc_cell HE0.out o; clear hE)
      | fail)
    go_ret
    exact ⟨rfl, (alloc_ext _ _).ext HE0.out⟩
  by_cases a7 : inR pg 0 15 = true
  case neg =>
    replace a7 : inR pg 0 15 = false := by simpa using a7
    rw [show recF 1 _ _ _ _ _ _ _ _ _ _ _ _ _ _ _ = 5 from by simp [recF, hk, hx, z1, z2, z3, a5, a6, a7]]
    have HE0 := Lib.hid (Only.refl [] (w.alloc (.cells #[.int .i64 1, .int .i64 t, .int .i64 pv, .int .i64 pg, .int .i64 sl, .bool u1, .slice A1 n1 c1, .bool u2, .slice A2 n2 c2, .int .i64 0, .int .i64 0, .slice A3 0 c3, .slice A4 0 c4, .slice A5 0 c5] 49)))
    go_enter Tryd.func27, Tryd.ntmps27
    go_wp2_with (first
      | (go_at_call 70; refine (l4In_calls _ _ _ _).mono ?_; rintro e w1 ⟨rfl, rfl⟩)
      | (go_at_call 71; refine (HX.out _ ((alloc_ext _ _).ext HE0.out)).mono ?_; rintro e w1 ⟨rfl, hE⟩; replace HE0 := Lib.hid (HE0.out.ext hE); have m := fun o => alloc_cell HE0.out o; clear hE)
      | (go_at_call 72; refine (l4Slot_calls _ _ _ _ _).mono ?_; rintro e w1 ⟨rfl, hE⟩; replace HE0 := Lib.hid (HE0.out.ext hE); have m := fun o => alloc_cell HE0.out o; clear hE)
      | fail)
    go_ret
    exact ⟨rfl, (alloc_ext _ _).ext HE0.out⟩
  by_cases a8 : inR sl 0 31 = true
  case neg =>
    replace a8 : inR sl 0 31 = false := by simpa using a8
    rw [show recF 1 _ _ _ _ _ _ _ _ _ _ _ _ _ _ _ = 5 from by simp [recF, hk, hx, z1, z2, z3, a5, a6, a7, a8]]
    have HE0 := Lib.hid (Only.refl [] (w.alloc (.cells #[.int .i64 1, .int .i64 t, .int .i64 pv, .int .i64 pg, .int .i64 sl, .bool u1, .slice A1 n1 c1, .bool u2, .slice A2 n2 c2, .int .i64 0, .int .i64 0, .slice A3 0 c3, .slice A4 0 c4, .slice A5 0 c5] 49)))
    go_enter Tryd.func27, Tryd.ntmps27
    go_wp2_with (first
      | (go_at_call 70; refine (l4In_calls _ _ _ _).mono ?_; rintro e w1 ⟨rfl, rfl⟩)
      | (go_at_call 71; refine (HX.out _ ((alloc_ext _ _).ext HE0.out)).mono ?_; rintro e w1 ⟨rfl, hE⟩; replace HE0 := Lib.hid (HE0.out.ext hE); have m := fun o => alloc_cell HE0.out o; clear hE)
      | (go_at_call 72; refine (l4Slot_calls _ _ _ _ _).mono ?_; rintro e w1 ⟨rfl, hE⟩; replace HE0 := Lib.hid (HE0.out.ext hE); have m := fun o => alloc_cell HE0.out o; clear hE)
      | fail)
    go_ret
    exact ⟨rfl, (alloc_ext _ _).ext HE0.out⟩
  by_cases a9 : bR u1 n1 = false
  case neg =>
    replace a9 : bR u1 n1 = true := by simpa using a9
    rw [show recF 1 _ _ _ _ _ _ _ _ _ _ _ _ _ _ _ = 6 from by simp [recF, hk, hx, z1, z2, z3, a5, a6, a7, a8, a9]]
    have HE0 := Lib.hid (Only.refl [] (w.alloc (.cells #[.int .i64 1, .int .i64 t, .int .i64 pv, .int .i64 pg, .int .i64 sl, .bool u1, .slice A1 n1 c1, .bool u2, .slice A2 n2 c2, .int .i64 0, .int .i64 0, .slice A3 0 c3, .slice A4 0 c4, .slice A5 0 c5] 49)))
    go_enter Tryd.func27, Tryd.ntmps27
    go_wp2_with (first
      | (go_at_call 70; refine (l4In_calls _ _ _ _).mono ?_; rintro e w1 ⟨rfl, rfl⟩)
      | (go_at_call 71; refine (HX.out _ ((alloc_ext _ _).ext HE0.out)).mono ?_; rintro e w1 ⟨rfl, hE⟩; replace HE0 := Lib.hid (HE0.out.ext hE); have m := fun o => alloc_cell HE0.out o; clear hE)
      | (go_at_call 72; refine (l4Slot_calls _ _ _ _ _).mono ?_; rintro e w1 ⟨rfl, hE⟩; replace HE0 := Lib.hid (HE0.out.ext hE); have m := fun o => alloc_cell HE0.out o; clear hE)
      | fail)
    go_ret
    exact ⟨rfl, (alloc_ext _ _).ext HE0.out⟩
  by_cases a10 : bR u2 n2 = false
  case neg =>
    replace a10 : bR u2 n2 = true := by simpa using a10
    rw [show recF 1 _ _ _ _ _ _ _ _ _ _ _ _ _ _ _ = 6 from by simp [recF, hk, hx, z1, z2, z3, a5, a6, a7, a8, a9, a10]]
    have HE0 := Lib.hid (Only.refl [] (w.alloc (.cells #[.int .i64 1, .int .i64 t, .int .i64 pv, .int .i64 pg, .int .i64 sl, .bool u1, .slice A1 n1 c1, .bool u2, .slice A2 n2 c2, .int .i64 0, .int .i64 0, .slice A3 0 c3, .slice A4 0 c4, .slice A5 0 c5] 49)))
    go_enter Tryd.func27, Tryd.ntmps27
    go_wp2_with (first
      | (go_at_call 70; refine (l4In_calls _ _ _ _).mono ?_; rintro e w1 ⟨rfl, rfl⟩)
      | (go_at_call 71; refine (HX.out _ ((alloc_ext _ _).ext HE0.out)).mono ?_; rintro e w1 ⟨rfl, hE⟩; replace HE0 := Lib.hid (HE0.out.ext hE); have m := fun o => alloc_cell HE0.out o; clear hE)
      | (go_at_call 72; refine (l4Slot_calls _ _ _ _ _).mono ?_; rintro e w1 ⟨rfl, hE⟩; replace HE0 := Lib.hid (HE0.out.ext hE); have m := fun o => alloc_cell HE0.out o; clear hE)
      | fail)
    go_ret
    exact ⟨rfl, (alloc_ext _ _).ext HE0.out⟩
  by_cases a11 : u1 = true
  case pos =>
    subst a11
    rw [show recF 1 _ _ _ _ _ _ _ _ _ _ _ _ _ _ _ = 0 from by simp [recF, hk, hx, z1, z2, z3, a5, a6, a7, a8, a9, a10]]
    have HE0 := Lib.hid (Only.refl [] (w.alloc (.cells #[.int .i64 1, .int .i64 t, .int .i64 pv, .int .i64 pg, .int .i64 sl, .bool true, .slice A1 n1 c1, .bool u2, .slice A2 n2 c2, .int .i64 0, .int .i64 0, .slice A3 0 c3, .slice A4 0 c4, .slice A5 0 c5] 49)))
    go_enter Tryd.func27, Tryd.ntmps27
    go_wp2_with (first
      | (go_at_call 70; refine (l4In_calls _ _ _ _).mono ?_; rintro e w1 ⟨rfl, rfl⟩)
      | (go_at_call 71; refine (HX.out _ ((alloc_ext _ _).ext HE0.out)).mono ?_; rintro e w1 ⟨rfl, hE⟩; replace HE0 := Lib.hid (HE0.out.ext hE); have m := fun o => alloc_cell HE0.out o; clear hE)
      | (go_at_call 72; refine (l4Slot_calls _ _ _ _ _).mono ?_; rintro e w1 ⟨rfl, hE⟩; replace HE0 := Lib.hid (HE0.out.ext hE); have m := fun o => alloc_cell HE0.out o; clear hE)
      | fail)
    go_ret
    exact ⟨rfl, (alloc_ext _ _).ext HE0.out⟩
  replace a11 : u1 = false := by simpa using a11
  subst a11
  by_cases a11' : u2 = true
  case pos =>
    subst a11'
    rw [show recF 1 _ _ _ _ _ _ _ _ _ _ _ _ _ _ _ = 0 from by simp [recF, hk, hx, z1, z2, z3, a5, a6, a7, a8, a9, a10]]
    have HE0 := Lib.hid (Only.refl [] (w.alloc (.cells #[.int .i64 1, .int .i64 t, .int .i64 pv, .int .i64 pg, .int .i64 sl, .bool false, .slice A1 n1 c1, .bool true, .slice A2 n2 c2, .int .i64 0, .int .i64 0, .slice A3 0 c3, .slice A4 0 c4, .slice A5 0 c5] 49)))
    go_enter Tryd.func27, Tryd.ntmps27
    go_wp2_with (first
      | (go_at_call 70; refine (l4In_calls _ _ _ _).mono ?_; rintro e w1 ⟨rfl, rfl⟩)
      | (go_at_call 71; refine (HX.out _ ((alloc_ext _ _).ext HE0.out)).mono ?_; rintro e w1 ⟨rfl, hE⟩; replace HE0 := Lib.hid (HE0.out.ext hE); have m := fun o => alloc_cell HE0.out o; clear hE)
      | (go_at_call 72; refine (l4Slot_calls _ _ _ _ _).mono ?_; rintro e w1 ⟨rfl, hE⟩; replace HE0 := Lib.hid (HE0.out.ext hE); have m := fun o => alloc_cell HE0.out o; clear hE)
      | fail)
    go_ret
    exact ⟨rfl, (alloc_ext _ _).ext HE0.out⟩
  replace a11' : u2 = false := by simpa using a11'
  subst a11'
  rw [show recF 1 _ _ _ _ _ _ _ _ _ _ _ _ _ _ _ = 6 from by simp [recF, hk, hx, z1, z2, z3, a5, a6, a7, a8, a9, a10]]
  have HE0 := Lib.hid (Only.refl [] (w.alloc (.cells #[.int .i64 1, .int .i64 t, .int .i64 pv, .int .i64 pg, .int .i64 sl, .bool false, .slice A1 n1 c1, .bool false, .slice A2 n2 c2, .int .i64 0, .int .i64 0, .slice A3 0 c3, .slice A4 0 c4, .slice A5 0 c5] 49)))
  go_enter Tryd.func27, Tryd.ntmps27
  go_wp2_with (first
    | (go_at_call 70; refine (l4In_calls _ _ _ _).mono ?_; rintro e w1 ⟨rfl, rfl⟩)
    | (go_at_call 71; refine (HX.out _ ((alloc_ext _ _).ext HE0.out)).mono ?_; rintro e w1 ⟨rfl, hE⟩; replace HE0 := Lib.hid (HE0.out.ext hE); have m := fun o => alloc_cell HE0.out o; clear hE)
    | (go_at_call 72; refine (l4Slot_calls _ _ _ _ _).mono ?_; rintro e w1 ⟨rfl, hE⟩; replace HE0 := Lib.hid (HE0.out.ext hE); have m := fun o => alloc_cell HE0.out o; clear hE)
    | fail)
  go_ret
  exact ⟨rfl, (alloc_ext _ _).ext HE0.out⟩
set_option maxRecDepth 100000 in
set_option maxHeartbeats 8000000 in
theorem specRF_2 (w : World) (t pv pg sl : Int) (u1 : Bool) (A1 : Option Addr) (n1 c1 : Nat) (u2 : Bool) (A2 : Option Addr) (n2 c2 : Nat) (un nt : Int) (A3 : Option Addr) (n3 c3 : Nat) (A4 : Option Addr) (n4 c4 : Nat) (A5 : Option Addr) (n5 c5 : Nat) (tb : Bool) (pf : Int) (HX : Hid (∀ W, Ext w W → Calls Tryd.prog 71 #[.agg #[.int .i64 2, .int .i64 t, .int .i64 pv, .int .i64 pg, .int .i64 sl, .bool u1, .slice A1 n1 c1, .bool u2, .slice A2 n2 c2, .int .i64 un, .int .i64 nt, .slice A3 n3 c3, .slice A4 n4 c4, .slice A5 n5 c5]] W fun e w' => e = .returned (.bool (extraF 2 t pv pg sl u1 n1 u2 n2 un nt n3 n4 n5)) ∧ Ext W w')) :
    Calls Tryd.prog 27 #[.agg #[.int .i64 2, .int .i64 t, .int .i64 pv, .int .i64 pg, .int .i64 sl, .bool u1, .slice A1 n1 c1, .bool u2, .slice A2 n2 c2, .int .i64 un, .int .i64 nt, .slice A3 n3 c3, .slice A4 n4 c4, .slice A5 n5 c5]] w fun e w' => e = .returned (.int .i64 (recF 2 t pv pg sl u1 n1 u2 n2 un nt n3 n4 n5 tb pf)) ∧ Ext w w' := by
  have hu := Tryd.underlying49
  have hu2 := Tryd.underlying33
  have hk : inR 2 1 8 = true := rfl
  have z1 : inR 0 0 1099511627776 = true := rfl
  have z2 : inR 0 0 15 = true := rfl
  have z3 : inR 0 0 31 = true := rfl
  by_cases hx : extraF 2 t pv pg sl u1 n1 u2 n2 un nt n3 n4 n5 = true
  case pos =>
    rw [show recF 2 _ _ _ _ _ _ _ _ _ _ _ _ _ _ _ = 2 from by simp [recF, hk, hx, z1, z2, z3]]
    have HE0 := Lib.hid (Only.refl [] (w.alloc (.cells #[.int .i64 2, .int .i64 t, .int .i64 pv, .int .i64 pg, .int .i64 sl, .bool u1, .slice A1 n1 c1, .bool u2, .slice A2 n2 c2, .int .i64 un, .int .i64 nt, .slice A3 n3 c3, .slice A4 n4 c4, .slice A5 n5 c5] 49)))
    go_enter Tryd.func27, Tryd.ntmps27
    go_wp2_with (first
      | (go_at_call 70; refine (l4In_calls _ _ _ _).mono ?_; rintro e w1 ⟨rfl, rfl⟩)
      | (go_at_call 71; refine (HX.out _ ((alloc_ext _ _).ext HE0.out)).mono ?_; rintro e w1 ⟨rfl, hE⟩; replace HE0 := Lib.hid (HE0.out.ext hE); have m := fun o => alloc_cell HE0.out o; clear hE)
      | (go_at_call 72; refine (l4Slot_calls _ _ _ _ _).mono ?_; rintro e w1 ⟨rfl, hE⟩; replace HE0 := Lib.hid (HE0.out.ext hE); have m := fun o => alloc_cell HE0.out o; clear hE)
      | fail)
    go_ret
    exact ⟨rfl, (alloc_ext _ _).ext HE0.out⟩
  replace hx : extraF 2 t pv pg sl u1 n1 u2 n2 un nt n3 n4 n5 = false := by simpa using hx
  have a0 : zR u1 n1 = true := by
    cases h : zR u1 n1
    · simp [extraF, h] at hx
    · rfl
  have a0c : bR u1 n1 = false := bR_false.2 (by have h := zR_true.1 a0; exact ⟨by omega, .inr h.2⟩)
  have a1 : nt = 0 := Classical.byContradiction (fun h => by simp [extraF, h] at hx)
  subst a1
  have a2 : n3 = 0 := Classical.byContradiction (fun h => by have h' : 0 < n3 := (by omega); simp [extraF, h'] at hx)
  subst a2
  have a3 : n4 = 0 := Classical.byContradiction (fun h => by have h' : 0 < n4 := (by omega); simp [extraF, h'] at hx)
  subst a3
  have a4 : n5 = 0 := Classical.byContradiction (fun h => by have h' : 0 < n5 := (by omega); simp [extraF, h'] at hx)
  subst a4
  by_cases a5 : inR t 1 2147483647 = true
  case neg =>
    replace a5 : inR t 1 2147483647 = false := by simpa using a5
    rw [show recF 2 _ _ _ _ _ _ _ _ _ _ _ _ _ _ _ = 3 from by simp [recF, hk, hx, z1, z2, z3, a0, a0c, a5]]
    have HE0 := Lib.hid (Only.refl [] (w.alloc (.cells #[.int .i64 2, .int .i64 t, .int .i64 pv, .int .i64 pg, .int .i64 sl, .bool u1, .slice A1 n1 c1, .bool u2, .slice A2 n2 c2, .int .i64 un, .int .i64 0, .slice A3 0 c3, .slice A4 0 c4, .slice A5 0 c5] 49)))
    go_enter Tryd.func27, Tryd.ntmps27
    go_wp2_with (first
      | (go_at_call 70; refine (l4In_calls _ _ _ _).mono ?_; rintro e w1 ⟨rfl, rfl⟩)
      | (go_at_call 71; refine (HX.out _ ((alloc_ext _ _).ext HE0.out)).mono ?_; rintro e w1 ⟨rfl, hE⟩; replace HE0 := Lib.hid (HE0.out.ext hE); have m := fun o => alloc_cell HE0.out o; clear hE)
      | (go_at_call 72; refine (l4Slot_calls _ _ _ _ _).mono ?_; rintro e w1 ⟨rfl, hE⟩; replace HE0 := Lib.hid (HE0.out.ext hE); have m := fun o => alloc_cell HE0.out o; clear hE)
      | fail)
    go_ret
    exact ⟨rfl, (alloc_ext _ _).ext HE0.out⟩
  by_cases a6 : inR pv 0 1099511627776 = true
  case neg =>
    replace a6 : inR pv 0 1099511627776 = false := by simpa using a6
    rw [show recF 2 _ _ _ _ _ _ _ _ _ _ _ _ _ _ _ = 4 from by simp [recF, hk, hx, z1, z2, z3, a0, a0c, a5, a6]]
    have HE0 := Lib.hid (Only.refl [] (w.alloc (.cells #[.int .i64 2, .int .i64 t, .int .i64 pv, .int .i64 pg, .int .i64 sl, .bool u1, .slice A1 n1 c1, .bool u2, .slice A2 n2 c2, .int .i64 un, .int .i64 0, .slice A3 0 c3, .slice A4 0 c4, .slice A5 0 c5] 49)))
    go_enter Tryd.func27, Tryd.ntmps27
    go_wp2_with (first
      | (go_at_call 70; refine (l4In_calls _ _ _ _).mono ?_; rintro e w1 ⟨rfl, rfl⟩)
      | (go_at_call 71; refine (HX.out _ ((alloc_ext _ _).ext HE0.out)).mono ?_; rintro e w1 ⟨rfl, hE⟩; replace HE0 := Lib.hid (HE0.out.ext hE); have m := fun o => alloc_cell HE0.out o; clear hE)
      | (go_at_call 72; refine (l4Slot_calls _ _ _ _ _).mono ?_; rintro e w1 ⟨rfl, hE⟩; replace HE0 := Lib.hid (HE0.out.ext hE); have m := fun o => alloc_cell HE0.out o; clear hE)
      | fail)
    go_ret
    exact ⟨rfl, (alloc_ext _ _).ext HE0.out⟩
  by_cases a7 : inR pg 0 15 = true
  case neg =>
    replace a7 : inR pg 0 15 = false := by simpa using a7
    rw [show recF 2 _ _ _ _ _ _ _ _ _ _ _ _ _ _ _ = 5 from by simp [recF, hk, hx, z1, z2, z3, a0, a0c, a5, a6, a7]]
    have HE0 := Lib.hid (Only.refl [] (w.alloc (.cells #[.int .i64 2, .int .i64 t, .int .i64 pv, .int .i64 pg, .int .i64 sl, .bool u1, .slice A1 n1 c1, .bool u2, .slice A2 n2 c2, .int .i64 un, .int .i64 0, .slice A3 0 c3, .slice A4 0 c4, .slice A5 0 c5] 49)))
    go_enter Tryd.func27, Tryd.ntmps27
    go_wp2_with (first
      | (go_at_call 70; refine (l4In_calls _ _ _ _).mono ?_; rintro e w1 ⟨rfl, rfl⟩)
      | (go_at_call 71; refine (HX.out _ ((alloc_ext _ _).ext HE0.out)).mono ?_; rintro e w1 ⟨rfl, hE⟩; replace HE0 := Lib.hid (HE0.out.ext hE); have m := fun o => alloc_cell HE0.out o; clear hE)
      | (go_at_call 72; refine (l4Slot_calls _ _ _ _ _).mono ?_; rintro e w1 ⟨rfl, hE⟩; replace HE0 := Lib.hid (HE0.out.ext hE); have m := fun o => alloc_cell HE0.out o; clear hE)
      | fail)
    go_ret
    exact ⟨rfl, (alloc_ext _ _).ext HE0.out⟩
  by_cases a8 : inR sl 0 31 = true
  case neg =>
    replace a8 : inR sl 0 31 = false := by simpa using a8
    rw [show recF 2 _ _ _ _ _ _ _ _ _ _ _ _ _ _ _ = 5 from by simp [recF, hk, hx, z1, z2, z3, a0, a0c, a5, a6, a7, a8]]
    have HE0 := Lib.hid (Only.refl [] (w.alloc (.cells #[.int .i64 2, .int .i64 t, .int .i64 pv, .int .i64 pg, .int .i64 sl, .bool u1, .slice A1 n1 c1, .bool u2, .slice A2 n2 c2, .int .i64 un, .int .i64 0, .slice A3 0 c3, .slice A4 0 c4, .slice A5 0 c5] 49)))
    go_enter Tryd.func27, Tryd.ntmps27
    go_wp2_with (first
      | (go_at_call 70; refine (l4In_calls _ _ _ _).mono ?_; rintro e w1 ⟨rfl, rfl⟩)
      | (go_at_call 71; refine (HX.out _ ((alloc_ext _ _).ext HE0.out)).mono ?_; rintro e w1 ⟨rfl, hE⟩; replace HE0 := Lib.hid (HE0.out.ext hE); have m := fun o => alloc_cell HE0.out o; clear hE)
      | (go_at_call 72; refine (l4Slot_calls _ _ _ _ _).mono ?_; rintro e w1 ⟨rfl, hE⟩; replace HE0 := Lib.hid (HE0.out.ext hE); have m := fun o => alloc_cell HE0.out o; clear hE)
      | fail)
    go_ret
    exact ⟨rfl, (alloc_ext _ _).ext HE0.out⟩
  by_cases a9 : bR u2 n2 = false
  case neg =>
    replace a9 : bR u2 n2 = true := by simpa using a9
    rw [show recF 2 _ _ _ _ _ _ _ _ _ _ _ _ _ _ _ = 6 from by simp [recF, hk, hx, z1, z2, z3, a0, a0c, a5, a6, a7, a8, a9]]
    have HE0 := Lib.hid (Only.refl [] (w.alloc (.cells #[.int .i64 2, .int .i64 t, .int .i64 pv, .int .i64 pg, .int .i64 sl, .bool u1, .slice A1 n1 c1, .bool u2, .slice A2 n2 c2, .int .i64 un, .int .i64 0, .slice A3 0 c3, .slice A4 0 c4, .slice A5 0 c5] 49)))
    go_enter Tryd.func27, Tryd.ntmps27
    go_wp2_with (first
      | (go_at_call 70; refine (l4In_calls _ _ _ _).mono ?_; rintro e w1 ⟨rfl, rfl⟩)
      | (go_at_call 71; refine (HX.out _ ((alloc_ext _ _).ext HE0.out)).mono ?_; rintro e w1 ⟨rfl, hE⟩; replace HE0 := Lib.hid (HE0.out.ext hE); have m := fun o => alloc_cell HE0.out o; clear hE)
      | (go_at_call 72; refine (l4Slot_calls _ _ _ _ _).mono ?_; rintro e w1 ⟨rfl, hE⟩; replace HE0 := Lib.hid (HE0.out.ext hE); have m := fun o => alloc_cell HE0.out o; clear hE)
      | fail)
    go_ret
    exact ⟨rfl, (alloc_ext _ _).ext HE0.out⟩
  by_cases a10 : inR un 0 1099511627776 = true
  case neg =>
    replace a10 : inR un 0 1099511627776 = false := by simpa using a10
    rw [show recF 2 _ _ _ _ _ _ _ _ _ _ _ _ _ _ _ = 7 from by simp [recF, hk, hx, z1, z2, z3, a0, a0c, a5, a6, a7, a8, a9, a10]]
    have HE0 := Lib.hid (Only.refl [] (w.alloc (.cells #[.int .i64 2, .int .i64 t, .int .i64 pv, .int .i64 pg, .int .i64 sl, .bool u1, .slice A1 n1 c1, .bool u2, .slice A2 n2 c2, .int .i64 un, .int .i64 0, .slice A3 0 c3, .slice A4 0 c4, .slice A5 0 c5] 49)))
    go_enter Tryd.func27, Tryd.ntmps27
    go_wp2_with (first
      | (go_at_call 70; refine (l4In_calls _ _ _ _).mono ?_; rintro e w1 ⟨rfl, rfl⟩)
      | (go_at_call 71; refine (HX.out _ ((alloc_ext _ _).ext HE0.out)).mono ?_; rintro e w1 ⟨rfl, hE⟩; replace HE0 := Lib.hid (HE0.out.ext hE); have m := fun o => alloc_cell HE0.out o; clear hE)
      | (go_at_call 72; refine (l4Slot_calls _ _ _ _ _).mono ?_; rintro e w1 ⟨rfl, hE⟩; replace HE0 := Lib.hid (HE0.out.ext hE); have m := fun o => alloc_cell HE0.out o; clear hE)
      | fail)
    go_ret
    exact ⟨rfl, (alloc_ext _ _).ext HE0.out⟩
  rw [show recF 2 _ _ _ _ _ _ _ _ _ _ _ _ _ _ _ = 0 from by simp [recF, hk, hx, z1, z2, z3, a0, a0c, a5, a6, a7, a8, a9, a10]]
  have HE0 := Lib.hid (Only.refl [] (w.alloc (.cells #[.int .i64 2, .int .i64 t, .int .i64 pv, .int .i64 pg, .int .i64 sl, .bool u1, .slice A1 n1 c1, .bool u2, .slice A2 n2 c2, .int .i64 un, .int .i64 0, .slice A3 0 c3, .slice A4 0 c4, .slice A5 0 c5] 49)))
  go_enter Tryd.func27, Tryd.ntmps27
  go_wp2_with (first
    | (go_at_call 70; refine (l4In_calls _ _ _ _).mono ?_; rintro e w1 ⟨rfl, rfl⟩)
    | (go_at_call 71; refine (HX.out _ ((alloc_ext _ _).ext HE0.out)).mono ?_; rintro e w1 ⟨rfl, hE⟩; replace HE0 := Lib.hid (HE0.out.ext hE); have m := fun o => alloc_cell HE0.out o; clear hE)
    | (go_at_call 72; refine (l4Slot_calls _ _ _ _ _).mono ?_; rintro e w1 ⟨rfl, hE⟩; replace HE0 := Lib.hid (HE0.out.ext hE); have m := fun o => alloc_cell HE0.out o; clear hE)
    | fail)
  go_ret
  exact ⟨rfl, (alloc_ext _ _).ext HE0.out⟩
set_option maxRecDepth 100000 in
set_option maxHeartbeats 8000000 in
theorem specRF_3 (w : World) (t pv pg sl : Int) (u1 : Bool) (A1 : Option Addr) (n1 c1 : Nat) (u2 : Bool) (A2 : Option Addr) (n2 c2 : Nat) (un nt : Int) (A3 : Option Addr) (n3 c3 : Nat) (A4 : Option Addr) (n4 c4 : Nat) (A5 : Option Addr) (n5 c5 : Nat) (tb : Bool) (pf : Int) (HX : Hid (∀ W, Ext w W → Calls Tryd.prog 71 #[.agg #[.int .i64 3, .int .i64 t, .int .i64 pv, .int .i64 pg, .int .i64 sl, .bool u1, .slice A1 n1 c1, .bool u2, .slice A2 n2 c2, .int .i64 un, .int .i64 nt, .slice A3 n3 c3, .slice A4 n4 c4, .slice A5 n5 c5]] W fun e w' => e = .returned (.bool (extraF 3 t pv pg sl u1 n1 u2 n2 un nt n3 n4 n5)) ∧ Ext W w')) :
    Calls Tryd.prog 27 #[.agg #[.int .i64 3, .int .i64 t, .int .i64 pv, .int .i64 pg, .int .i64 sl, .bool u1, .slice A1 n1 c1, .bool u2, .slice A2 n2 c2, .int .i64 un, .int .i64 nt, .slice A3 n3 c3, .slice A4 n4 c4, .slice A5 n5 c5]] w fun e w' => e = .returned (.int .i64 (recF 3 t pv pg sl u1 n1 u2 n2 un nt n3 n4 n5 tb pf)) ∧ Ext w w' := by
  have hu := Tryd.underlying49
  have hu2 := Tryd.underlying33
  have hk : inR 3 1 8 = true := rfl
  have z1 : inR 0 0 1099511627776 = true := rfl
  have z2 : inR 0 0 15 = true := rfl
  have z3 : inR 0 0 31 = true := rfl
  by_cases hx : extraF 3 t pv pg sl u1 n1 u2 n2 un nt n3 n4 n5 = true
  case pos =>
    rw [show recF 3 _ _ _ _ _ _ _ _ _ _ _ _ _ _ _ = 2 from by simp [recF, hk, hx, z1, z2, z3]]
    have HE0 := Lib.hid (Only.refl [] (w.alloc (.cells #[.int .i64 3, .int .i64 t, .int .i64 pv, .int .i64 pg, .int .i64 sl, .bool u1, .slice A1 n1 c1, .bool u2, .slice A2 n2 c2, .int .i64 un, .int .i64 nt, .slice A3 n3 c3, .slice A4 n4 c4, .slice A5 n5 c5] 49)))
    go_enter Tryd.func27, Tryd.ntmps27
    go_wp2_with (first
      | (go_at_call 70; refine (l4In_calls _ _ _ _).mono ?_; rintro e w1 ⟨rfl, rfl⟩)
      | (go_at_call 71; refine (HX.out _ ((alloc_ext _ _).ext HE0.out)).mono ?_; rintro e w1 ⟨rfl, hE⟩; replace HE0 := Lib.hid (HE0.out.ext hE); have m := fun o => alloc_cell HE0.out o; clear hE)
      | (go_at_call 72; refine (l4Slot_calls _ _ _ _ _).mono ?_; rintro e w1 ⟨rfl, hE⟩; replace HE0 := Lib.hid (HE0.out.ext hE); have m := fun o => alloc_cell HE0.out o; clear hE)
      | fail)
    go_ret
    exact ⟨rfl, (alloc_ext _ _).ext HE0.out⟩
  replace hx : extraF 3 t pv pg sl u1 n1 u2 n2 un nt n3 n4 n5 = false := by simpa using hx
  have a0 : sl = 0 := Classical.byContradiction (fun h => by simp [extraF, h] at hx)
  subst a0
  have a1 : zR u2 n2 = true := by
    cases h : zR u2 n2
    · simp [extraF, h] at hx
    · rfl
  have a1c : bR u2 n2 = false := bR_false.2 (by have h := zR_true.1 a1; exact ⟨by omega, .inr h.2⟩)
  have a2 : pg = 0 := Classical.byContradiction (fun h => by simp [extraF, h] at hx)
  subst a2
  have a3 : zR u1 n1 = true := by
    cases h : zR u1 n1
    · simp [extraF, h] at hx
    · rfl
  have a3c : bR u1 n1 = false := bR_false.2 (by have h := zR_true.1 a3; exact ⟨by omega, .inr h.2⟩)
  have a4 : un = 0 := Classical.byContradiction (fun h => by simp [extraF, h] at hx)
  subst a4
  have a5 : nt = 0 := Classical.byContradiction (fun h => by simp [extraF, h] at hx)
  subst a5
  have a6 : n3 = 0 := Classical.byContradiction (fun h => by have h' : 0 < n3 := (by omega); simp [extraF, h'] at hx)
  subst a6
  have a7 : n4 = 0 := Classical.byContradiction (fun h => by have h' : 0 < n4 := (by omega); simp [extraF, h'] at hx)
  subst a7
  have a8 : n5 = 0 := Classical.byContradiction (fun h => by have h' : 0 < n5 := (by omega); simp [extraF, h'] at hx)
  subst a8
  by_cases a9 : inR t 1 2147483647 = true
  case neg =>
    replace a9 : inR t 1 2147483647 = false := by simpa using a9
    rw [show recF 3 _ _ _ _ _ _ _ _ _ _ _ _ _ _ _ = 3 from by simp [recF, hk, hx, z1, z2, z3, a1, a1c, a3, a3c, a9]]
    have HE0 := Lib.hid (Only.refl [] (w.alloc (.cells #[.int .i64 3, .int .i64 t, .int .i64 pv, .int .i64 0, .int .i64 0, .bool u1, .slice A1 n1 c1, .bool u2, .slice A2 n2 c2, .int .i64 0, .int .i64 0, .slice A3 0 c3, .slice A4 0 c4, .slice A5 0 c5] 49)))
    go_enter Tryd.func27, Tryd.ntmps27
    go_wp2_with (first
      | (go_at_call 70; refine (l4In_calls _ _ _ _).mono ?_; rintro e w1 ⟨rfl, rfl⟩)
      | (go_at_call 71; refine (HX.out _ ((alloc_ext _ _).ext HE0.out)).mono ?_; rintro e w1 ⟨rfl, hE⟩; replace HE0 := Lib.hid (HE0.out.ext hE); have m := fun o => alloc_cell HE0.out o; clear hE)
      | (go_at_call 72; refine (l4Slot_calls _ _ _ _ _).mono ?_; rintro e w1 ⟨rfl, hE⟩; replace HE0 := Lib.hid (HE0.out.ext hE); have m := fun o => alloc_cell HE0.out o; clear hE)
      | fail)
    go_ret
    exact ⟨rfl, (alloc_ext _ _).ext HE0.out⟩
  by_cases a10 : inR pv 0 1099511627776 = true
  case neg =>
    replace a10 : inR pv 0 1099511627776 = false := by simpa using a10
    rw [show recF 3 _ _ _ _ _ _ _ _ _ _ _ _ _ _ _ = 4 from by simp [recF, hk, hx, z1, z2, z3, a1, a1c, a3, a3c, a9, a10]]
    have HE0 := Lib.hid (Only.refl [] (w.alloc (.cells #[.int .i64 3, .int .i64 t, .int .i64 pv, .int .i64 0, .int .i64 0, .bool u1, .slice A1 n1 c1, .bool u2, .slice A2 n2 c2, .int .i64 0, .int .i64 0, .slice A3 0 c3, .slice A4 0 c4, .slice A5 0 c5] 49)))
    go_enter Tryd.func27, Tryd.ntmps27
    go_wp2_with (first
      | (go_at_call 70; refine (l4In_calls _ _ _ _).mono ?_; rintro e w1 ⟨rfl, rfl⟩)
      | (go_at_call 71; refine (HX.out _ ((alloc_ext _ _).ext HE0.out)).mono ?_; rintro e w1 ⟨rfl, hE⟩; replace HE0 := Lib.hid (HE0.out.ext hE); have m := fun o => alloc_cell HE0.out o; clear hE)
      | (go_at_call 72; refine (l4Slot_calls _ _ _ _ _).mono ?_; rintro e w1 ⟨rfl, hE⟩; replace HE0 := Lib.hid (HE0.out.ext hE); have m := fun o => alloc_cell HE0.out o; clear hE)
      | fail)
    go_ret
    exact ⟨rfl, (alloc_ext _ _).ext HE0.out⟩
  rw [show recF 3 _ _ _ _ _ _ _ _ _ _ _ _ _ _ _ = 0 from by simp [recF, hk, hx, z1, z2, z3, a1, a1c, a3, a3c, a9, a10]]
  have HE0 := Lib.hid (Only.refl [] (w.alloc (.cells #[.int .i64 3, .int .i64 t, .int .i64 pv, .int .i64 0, .int .i64 0, .bool u1, .slice A1 n1 c1, .bool u2, .slice A2 n2 c2, .int .i64 0, .int .i64 0, .slice A3 0 c3, .slice A4 0 c4, .slice A5 0 c5] 49)))
  go_enter Tryd.func27, Tryd.ntmps27
  go_wp2_with (first
    | (go_at_call 70; refine (l4In_calls _ _ _ _).mono ?_; rintro e w1 ⟨rfl, rfl⟩)
    | (go_at_call 71; refine (HX.out _ ((alloc_ext _ _).ext HE0.out)).mono ?_; rintro e w1 ⟨rfl, hE⟩; replace HE0 := Lib.hid (HE0.out.ext hE); have m := fun o => alloc_cell HE0.out o; clear hE)
    | (go_at_call 72; refine (l4Slot_calls _ _ _ _ _).mono ?_; rintro e w1 ⟨rfl, hE⟩; replace HE0 := Lib.hid (HE0.out.ext hE); have m := fun o => alloc_cell HE0.out o; clear hE)
    | fail)
  go_ret
  exact ⟨rfl, (alloc_ext _ _).ext HE0.out⟩
set_option maxRecDepth 100000 in
set_option maxHeartbeats 8000000 in
theorem specRF_4 (w : World) (t pv pg sl : Int) (u1 : Bool) (A1 : Option Addr) (n1 c1 : Nat) (u2 : Bool) (A2 : Option Addr) (n2 c2 : Nat) (un nt : Int) (A3 : Option Addr) (n3 c3 : Nat) (A4 : Option Addr) (n4 c4 : Nat) (A5 : Option Addr) (n5 c5 : Nat) (tb : Bool) (pf : Int) (HX : Hid (∀ W, Ext w W → Calls Tryd.prog 71 #[.agg #[.int .i64 4, .int .i64 t, .int .i64 pv, .int .i64 pg, .int .i64 sl, .bool u1, .slice A1 n1 c1, .bool u2, .slice A2 n2 c2, .int .i64 un, .int .i64 nt, .slice A3 n3 c3, .slice A4 n4 c4, .slice A5 n5 c5]] W fun e w' => e = .returned (.bool (extraF 4 t pv pg sl u1 n1 u2 n2 un nt n3 n4 n5)) ∧ Ext W w')) :
    Calls Tryd.prog 27 #[.agg #[.int .i64 4, .int .i64 t, .int .i64 pv, .int .i64 pg, .int .i64 sl, .bool u1, .slice A1 n1 c1, .bool u2, .slice A2 n2 c2, .int .i64 un, .int .i64 nt, .slice A3 n3 c3, .slice A4 n4 c4, .slice A5 n5 c5]] w fun e w' => e = .returned (.int .i64 (recF 4 t pv pg sl u1 n1 u2 n2 un nt n3 n4 n5 tb pf)) ∧ Ext w w' := by
  have hu := Tryd.underlying49
  have hu2 := Tryd.underlying33
  have hk : inR 4 1 8 = true := rfl
  have z1 : inR 0 0 1099511627776 = true := rfl
  have z2 : inR 0 0 15 = true := rfl
  have z3 : inR 0 0 31 = true := rfl
  by_cases hx : extraF 4 t pv pg sl u1 n1 u2 n2 un nt n3 n4 n5 = true
  case pos =>
    rw [show recF 4 _ _ _ _ _ _ _ _ _ _ _ _ _ _ _ = 2 from by simp [recF, hk, hx, z1, z2, z3]]
    have HE0 := Lib.hid (Only.refl [] (w.alloc (.cells #[.int .i64 4, .int .i64 t, .int .i64 pv, .int .i64 pg, .int .i64 sl, .bool u1, .slice A1 n1 c1, .bool u2, .slice A2 n2 c2, .int .i64 un, .int .i64 nt, .slice A3 n3 c3, .slice A4 n4 c4, .slice A5 n5 c5] 49)))
    go_enter Tryd.func27, Tryd.ntmps27
    go_wp2_with (first
      | (go_at_call 70; refine (l4In_calls _ _ _ _).mono ?_; rintro e w1 ⟨rfl, rfl⟩)
      | (go_at_call 71; refine (HX.out _ ((alloc_ext _ _).ext HE0.out)).mono ?_; rintro e w1 ⟨rfl, hE⟩; replace HE0 := Lib.hid (HE0.out.ext hE); have m := fun o => alloc_cell HE0.out o; clear hE)
      | (go_at_call 72; refine (l4Slot_calls _ _ _ _ _).mono ?_; rintro e w1 ⟨rfl, hE⟩; replace HE0 := Lib.hid (HE0.out.ext hE); have m := fun o => alloc_cell HE0.out o; clear hE)
      | fail)
    go_ret
    exact ⟨rfl, (alloc_ext _ _).ext HE0.out⟩
  replace hx : extraF 4 t pv pg sl u1 n1 u2 n2 un nt n3 n4 n5 = false := by simpa using hx
  have a0 : sl = 0 := Classical.byContradiction (fun h => by simp [extraF, h] at hx)
  subst a0
  have a1 : zR u2 n2 = true := by
    cases h : zR u2 n2
    · simp [extraF, h] at hx
    · rfl
  have a1c : bR u2 n2 = false := bR_false.2 (by have h := zR_true.1 a1; exact ⟨by omega, .inr h.2⟩)
  have a2 : pg = 0 := Classical.byContradiction (fun h => by simp [extraF, h] at hx)
  subst a2
  have a3 : zR u1 n1 = true := by
    cases h : zR u1 n1
    · simp [extraF, h] at hx
    · rfl
  have a3c : bR u1 n1 = false := bR_false.2 (by have h := zR_true.1 a3; exact ⟨by omega, .inr h.2⟩)
  have a4 : un = 0 := Classical.byContradiction (fun h => by simp [extraF, h] at hx)
  subst a4
  have a5 : nt = 0 := Classical.byContradiction (fun h => by simp [extraF, h] at hx)
  subst a5
  have a6 : n3 = 0 := Classical.byContradiction (fun h => by have h' : 0 < n3 := (by omega); simp [extraF, h'] at hx)
  subst a6
  have a7 : n4 = 0 := Classical.byContradiction (fun h => by have h' : 0 < n4 := (by omega); simp [extraF, h'] at hx)
  subst a7
  have a8 : n5 = 0 := Classical.byContradiction (fun h => by have h' : 0 < n5 := (by omega); simp [extraF, h'] at hx)
  subst a8
  by_cases a9 : inR t 1 2147483647 = true
  case neg =>
    replace a9 : inR t 1 2147483647 = false := by simpa using a9
    rw [show recF 4 _ _ _ _ _ _ _ _ _ _ _ _ _ _ _ = 3 from by simp [recF, hk, hx, z1, z2, z3, a1, a1c, a3, a3c, a9]]
    have HE0 := Lib.hid (Only.refl [] (w.alloc (.cells #[.int .i64 4, .int .i64 t, .int .i64 pv, .int .i64 0, .int .i64 0, .bool u1, .slice A1 n1 c1, .bool u2, .slice A2 n2 c2, .int .i64 0, .int .i64 0, .slice A3 0 c3, .slice A4 0 c4, .slice A5 0 c5] 49)))
    go_enter Tryd.func27, Tryd.ntmps27
    go_wp2_with (first
      | (go_at_call 70; refine (l4In_calls _ _ _ _).mono ?_; rintro e w1 ⟨rfl, rfl⟩)
      | (go_at_call 71; refine (HX.out _ ((alloc_ext _ _).ext HE0.out)).mono ?_; rintro e w1 ⟨rfl, hE⟩; replace HE0 := Lib.hid (HE0.out.ext hE); have m := fun o => alloc_cell HE0.out o; clear hE)
      | (go_at_call 72; refine (l4Slot_calls _ _ _ _ _).mono ?_; rintro e w1 ⟨rfl, hE⟩; replace HE0 := Lib.hid (HE0.out.ext hE); have m := fun o => alloc_cell HE0.out o; clear hE)
      | fail)
    go_ret
    exact ⟨rfl, (alloc_ext _ _).ext HE0.out⟩
  by_cases a10 : inR pv 0 1099511627776 = true
  case neg =>
    replace a10 : inR pv 0 1099511627776 = false := by simpa using a10
    rw [show recF 4 _ _ _ _ _ _ _ _ _ _ _ _ _ _ _ = 4 from by simp [recF, hk, hx, z1, z2, z3, a1, a1c, a3, a3c, a9, a10]]
    have HE0 := Lib.hid (Only.refl [] (w.alloc (.cells #[.int .i64 4, .int .i64 t, .int .i64 pv, .int .i64 0, .int .i64 0, .bool u1, .slice A1 n1 c1, .bool u2, .slice A2 n2 c2, .int .i64 0, .int .i64 0, .slice A3 0 c3, .slice A4 0 c4, .slice A5 0 c5] 49)))
    go_enter Tryd.func27, Tryd.ntmps27
    go_wp2_with (first
      | (go_at_call 70; refine (l4In_calls _ _ _ _).mono ?_; rintro e w1 ⟨rfl, rfl⟩)
      | (go_at_call 71; refine (HX.out _ ((alloc_ext _ _).ext HE0.out)).mono ?_; rintro e w1 ⟨rfl, hE⟩; replace HE0 := Lib.hid (HE0.out.ext hE); have m := fun o => alloc_cell HE0.out o; clear hE)
      | (go_at_call 72; refine (l4Slot_calls _ _ _ _ _).mono ?_; rintro e w1 ⟨rfl, hE⟩; replace HE0 := Lib.hid (HE0.out.ext hE); have m := fun o => alloc_cell HE0.out o; clear hE)
      | fail)
    go_ret
    exact ⟨rfl, (alloc_ext _ _).ext HE0.out⟩
  rw [show recF 4 _ _ _ _ _ _ _ _ _ _ _ _ _ _ _ = 0 from by simp [recF, hk, hx, z1, z2, z3, a1, a1c, a3, a3c, a9, a10]]
  have HE0 := Lib.hid (Only.refl [] (w.alloc (.cells #[.int .i64 4, .int .i64 t, .int .i64 pv, .int .i64 0, .int .i64 0, .bool u1, .slice A1 n1 c1, .bool u2, .slice A2 n2 c2, .int .i64 0, .int .i64 0, .slice A3 0 c3, .slice A4 0 c4, .slice A5 0 c5] 49)))
  go_enter Tryd.func27, Tryd.ntmps27
  go_wp2_with (first
    | (go_at_call 70; refine (l4In_calls _ _ _ _).mono ?_; rintro e w1 ⟨rfl, rfl⟩)
    | (go_at_call 71; refine (HX.out _ ((alloc_ext _ _).ext HE0.out)).mono ?_; rintro e w1 ⟨rfl, hE⟩; replace HE0 := Lib.hid (HE0.out.ext hE); have m := fun o => alloc_cell HE0.out o; clear hE)
    | (go_at_call 72; refine (l4Slot_calls _ _ _ _ _).mono ?_; rintro e w1 ⟨rfl, hE⟩; replace HE0 := Lib.hid (HE0.out.ext hE); have m := fun o => alloc_cell HE0.out o; clear hE)
    | fail)
  go_ret
  exact ⟨rfl, (alloc_ext _ _).ext HE0.out⟩
end Go.Proofs.YtghgjddiheebeaaDoor
