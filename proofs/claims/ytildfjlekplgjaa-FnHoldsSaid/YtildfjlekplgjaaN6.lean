/- Locks: what is wrong with a list of locks; both packages. -/
import Derived.Test.YtildfjlekplgjaaN2
import Derived.Test.YtildfjlekplgjaaQX
import Derived.BigRegion
import Derived.RegionTactic
namespace Go.Proofs.Ytildfjlekplgjaa
open Go.RowKit
set_option linter.unusedSimpArgs false
set_option linter.unusedVariables false
set_option maxRecDepth 100000 in
set_option maxHeartbeats 4000000 in
theorem implLocksFault_calls (A : Option Addr) (c : Nat) (xs : List DLock) (F : List Nat) (w : World) (h : Rep.Lock.sl w A c xs F) :
    Calls Try.prog 27 #[.slice A xs.length c] w fun e w' => e = .returned (.int .i64 (locksFault xs)) ∧ Ext w w' := by
  have hu := Try.underlying63
  have hm := Nat.le_trans h.1 h.2.1
  unfold maxLen at hm
  obtain ⟨R, hR⟩ : ∃ R, R = locksFault xs := ⟨_, rfl⟩
  rw [← hR]
  have HR := Lib.hid hR; have H := Lib.hid h
  clear hR h
  go_enter Try.func27, Try.ntmps27
  by_cases hl : xs.length ≤ 4096
  rotate_left
  · have hb : decide ((4096 : Int) < (xs.length : Int)) = true := by simp; omega
    have HRb := Lib.hid (show R = 1 by rw [HR.out, locksFault, if_pos (by omega)])
    go_wp2
    go_ret
    exact ⟨by rw [HRb.out]; rfl, Only.refl _ _⟩
  have hb : decide ((4096 : Int) < (xs.length : Int)) = false := by simp; omega
  go_wp2
  go_loopg [16] (xs.length) (fun m i wr => ∃ k : Nat, m + k = xs.length ∧ i = .int .i64 k ∧ Ext w wr ∧ ∀ j (hj : j < xs.length), j < k → lockOK xs[j] = true)
  case atStart => exact ⟨0, by simp, rfl, Only.refl _ _, fun j hj h => absurd h (Nat.not_lt_zero _)⟩
  case round =>
    obtain ⟨k, hmk, rfl, hE, hup⟩ := hrel
    have HE3 := Lib.hid hE; have HUP3 := Lib.hid hup; have HMK := Lib.hid hmk
    clear hE hup hmk
    by_cases hlt : k < xs.length
    · obtain ⟨g, off, rfl, hg, -, a0, a1, a2⟩ := sl_Lock (Rep.sl_ext H.out HE3.out) k hlt
      have HOKd := Lib.hid (show lockOK xs[k] = (inR xs[k].Id 0 511 && inR xs[k].Txn 1 2147483647 && inR xs[k].Mode 1 2) from rfl)
      have HALL := Lib.hid (show lockOK xs[k] = false → R = 2 by
        intro hf
        rw [HR.out, locksFault, if_neg (by omega), if_pos]
        rw [List.all_eq_false]
        exact ⟨xs[k], by simp, by rw [hf]; simp⟩)
      have HUP4 := Lib.hid (show lockOK xs[k] = true → ∀ j (hj : j < xs.length), j < k + 1 → lockOK xs[j] = true by
        intro hf j hj hjk
        by_cases he : j = k
        · subst he; exact hf
        · exact HUP3.out j hj (by omega))
      generalize lockOK xs[k] = ok at *
      generalize xs[k] = x at *
      have hcs : (inR x.Id 0 511 = false ∧ ok = false) ∨ (inR x.Id 0 511 = true ∧ inR x.Txn 1 2147483647 = false ∧ ok = false) ∨ (inR x.Id 0 511 = true ∧ inR x.Txn 1 2147483647 = true ∧ inR x.Mode 1 2 = false ∧ ok = false) ∨ (inR x.Id 0 511 = true ∧ inR x.Txn 1 2147483647 = true ∧ inR x.Mode 1 2 = true ∧ ok = true) := by
        rw [HOKd.out]
        cases inR x.Id 0 511 <;> cases inR x.Txn 1 2147483647 <;> cases inR x.Mode 1 2 <;> simp
      have hEA := alloc_ext wr (.cells #[.int .i64 x.Id, .int .i64 x.Txn, .int .i64 x.Mode] 63)
      have mo := fun o => cell_of_row _ _ o _ _ _ (heap_alloc_new wr (.cells #[.int .i64 x.Id, .int .i64 x.Txn, .int .i64 x.Mode] 63))
      have HEA := Lib.hid (HE3.out.ext hEA)
      clear hEA
      rcases hcs with ⟨h1, rfl⟩ | ⟨h1, h2, rfl⟩ | ⟨h1, h2, h3, rfl⟩ | ⟨h1, h2, h3, rfl⟩
      · have HRb := Lib.hid (HALL.out rfl)
        clear HALL HUP4
        go_wp2_with (go_at_call 43; refine (implIn_calls _ _ _ _).mono ?_; rintro e w9 ⟨rfl, rfl⟩)
        go_ret
        exact ⟨by rw [HRb.out]; rfl, HEA.out⟩
      · have HRb := Lib.hid (HALL.out rfl)
        clear HALL HUP4
        go_wp2_with (go_at_call 43; refine (implIn_calls _ _ _ _).mono ?_; rintro e w9 ⟨rfl, rfl⟩)
        go_ret
        exact ⟨by rw [HRb.out]; rfl, HEA.out⟩
      · have HRb := Lib.hid (HALL.out rfl)
        clear HALL HUP4
        go_wp2_with (go_at_call 43; refine (implIn_calls _ _ _ _).mono ?_; rintro e w9 ⟨rfl, rfl⟩)
        go_ret
        exact ⟨by rw [HRb.out]; rfl, HEA.out⟩
      · have HUP5 := Lib.hid (HUP4.out rfl)
        clear HALL HUP4
        go_wp2_with (go_at_call 43; refine (implIn_calls _ _ _ _).mono ?_; rintro e w9 ⟨rfl, rfl⟩)
        go_roundg (xs.length - (k + 1))
        case measure => have := HMK.out; omega
        case rel => exact ⟨k + 1, by have := HMK.out; omega, by go_num, HEA.out, HUP5.out⟩
    · have HP1 := Lib.hid (show xs.all lockOK = true by
        rw [List.all_eq_true]
        intro x hx
        obtain ⟨j, hj, rfl⟩ := List.getElem_of_mem hx
        exact HUP3.out j hj (by have := HMK.out; omega))
      have HE0 := HE3
      go_wp2
      clear HMK hlt HUP3 HE3
      go_loopg [5] (xs.length) (fun m i wr => ∃ k : Nat, m = xs.length - k ∧ i = .int .i64 ((k + 1 : Nat) : Int) ∧ Ext w wr ∧ ∀ j (hj : j + 1 < xs.length), j < k → lkLt xs[j] xs[j + 1] = true)
      case atStart => exact ⟨0, rfl, rfl, HE0.out, fun j hj h => absurd h (Nat.not_lt_zero _)⟩
      case round =>
        obtain ⟨k, hmk, rfl, hE, hup⟩ := hrel
        have HE := Lib.hid hE; have HUP := Lib.hid hup
        clear hE hup
        by_cases hlt : k + 1 < xs.length
        · obtain ⟨g, off, rfl, hg, -, a0, a1, a2⟩ := sl_Lock (Rep.sl_ext H.out HE.out) k (by omega)
          obtain ⟨g', off', e', -, -, b0, b1, b2⟩ := sl_Lock (Rep.sl_ext H.out HE.out) (k + 1) hlt
          injection e' with e'
          injection e' with e1 e2
          subst e1; subst e2
          have i1 : (k : Int) < (xs.length : Int) := by omega
          have i2 : (k : Int) + 1 < (xs.length : Int) := by omega
          have i3 : ((k : Int) + 1).toNat = k + 1 := by omega
          have i4 : (0 : Int) ≤ (k : Int) + 1 := by omega
          have i5 : k < xs.length := by omega
          have i6 : IntKind.i64.wrap (k : Int) = (k : Int) := by simp [IntKind.wrap, IntKind.min, IntKind.max, IntKind.signed, IntKind.bits]; omega
          have HBAD := Lib.hid (show lkLt xs[k] xs[k + 1] = false → R = 3 by
            intro hf
            rw [HR.out, locksFault, if_neg (by omega), if_neg (by rw [HP1.out]; simp), if_pos (adjL_bad k hlt hf)])
          have HUP2 := Lib.hid (show lkLt xs[k] xs[k + 1] = true → ∀ j (hj : j + 1 < xs.length), j < k + 1 → lkLt xs[j] xs[j + 1] = true by
            intro hf j hj hjk
            by_cases he : j = k
            · subst he; exact hf
            · exact HUP.out j hj (by omega))
          generalize xs[k] = x at *
          generalize xs[k + 1] = y at *
          have hcs : (decide (y.Id < x.Id) = true ∧ lkLt x y = false) ∨ (decide (y.Id < x.Id) = false ∧ (x.Id == y.Id) = true ∧ decide (y.Txn ≤ x.Txn) = true ∧ lkLt x y = false) ∨ (decide (y.Id < x.Id) = false ∧ (x.Id == y.Id) = true ∧ decide (y.Txn ≤ x.Txn) = false ∧ lkLt x y = true) ∨ (decide (y.Id < x.Id) = false ∧ (x.Id == y.Id) = false ∧ lkLt x y = true) := by
            by_cases c1 : y.Id < x.Id
            · exact .inl ⟨by simp [c1], by simp [lkLt]; omega⟩
            · by_cases c2 : x.Id = y.Id
              · by_cases c3 : y.Txn ≤ x.Txn
                · exact .inr (.inl ⟨by simp [c1], by simp [c2], by simp [c3], by simp [lkLt]; omega⟩)
                · exact .inr (.inr (.inl ⟨by simp [c1], by simp [c2], by simp [c3], by simp [lkLt]; omega⟩))
              · exact .inr (.inr (.inr ⟨by simp [c1], by simp [c2], by simp [lkLt]; omega⟩))
          have r1 := fun o => cell_of_row _ _ o _ _ _ (heap_alloc2_old wr (.cells #[.int .i64 x.Id, .int .i64 x.Txn, .int .i64 x.Mode] 63) (.cells #[.int .i64 y.Id, .int .i64 y.Txn, .int .i64 y.Mode] 63))
          have r2 := fun o => cell_of_row _ _ o _ _ _ (heap_alloc2_new wr (.cells #[.int .i64 x.Id, .int .i64 x.Txn, .int .i64 x.Mode] 63) (.cells #[.int .i64 y.Id, .int .i64 y.Txn, .int .i64 y.Mode] 63))
          have s1 := fun o => cell_of_row _ _ o _ _ _ (heap_alloc2_old wr (.cells #[.int .i64 y.Id, .int .i64 y.Txn, .int .i64 y.Mode] 63) (.cells #[.int .i64 x.Id, .int .i64 x.Txn, .int .i64 x.Mode] 63))
          have s2 := fun o => cell_of_row _ _ o _ _ _ (heap_alloc2_new wr (.cells #[.int .i64 y.Id, .int .i64 y.Txn, .int .i64 y.Mode] 63) (.cells #[.int .i64 x.Id, .int .i64 x.Txn, .int .i64 x.Mode] 63))
          have hEXY : Ext w ((wr.alloc (.cells #[.int .i64 x.Id, .int .i64 x.Txn, .int .i64 x.Mode] 63)).alloc (.cells #[.int .i64 y.Id, .int .i64 y.Txn, .int .i64 y.Mode] 63)).drew := ((HE.out.alloc _).alloc _).drew
          have hEYX : Ext w ((wr.alloc (.cells #[.int .i64 y.Id, .int .i64 y.Txn, .int .i64 y.Mode] 63)).alloc (.cells #[.int .i64 x.Id, .int .i64 x.Txn, .int .i64 x.Mode] 63)).drew := ((HE.out.alloc _).alloc _).drew
          have HXY := Lib.hid hEXY; have HYX := Lib.hid hEYX
          clear hEXY hEYX
          rcases hcs with ⟨h1, hq⟩ | ⟨h1, h2, h3, hq⟩ | ⟨h1, h2, h3, hq⟩ | ⟨h1, h2, hq⟩
          · have HQ := Lib.hid (HBAD.out hq)
            clear HBAD HUP2 hq
            go_wp2_with fail
            go_region
            all_goals
              go_wp2
              go_ret
              exact ⟨by rw [HQ.out]; rfl, (by first | with_reducible exact HXY.out | with_reducible exact HYX.out)⟩
          · have HQ := Lib.hid (HBAD.out hq)
            clear HBAD HUP2 hq
            go_wp2_with fail
            go_region
            all_goals
              go_wp2
              go_ret
              exact ⟨by rw [HQ.out]; rfl, (by first | with_reducible exact HXY.out | with_reducible exact HYX.out)⟩
          · have HQ := Lib.hid (HUP2.out hq)
            clear HBAD HUP2 hq
            go_wp2_with fail
            go_region
            all_goals
              go_wp2
              go_roundg (xs.length - (k + 1))
              case measure => omega
              case rel => exact ⟨k + 1, rfl, by go_num, (by first | with_reducible exact HXY.out | with_reducible exact HYX.out), HQ.out⟩
          · have HQ := Lib.hid (HUP2.out hq)
            clear HBAD HUP2 hq
            go_wp2_with fail
            go_region
            all_goals
              go_wp2
              go_roundg (xs.length - (k + 1))
              case measure => omega
              case rel => exact ⟨k + 1, rfl, by go_num, (by first | with_reducible exact HXY.out | with_reducible exact HYX.out), HQ.out⟩

        · have HP2 := Lib.hid (show adjL lkLt xs = true from adjL_of fun j hj => HUP.out j hj (by omega))
          have HE0 := HE
          go_wp2
          clear hlt HUP HE
          go_loopg [8] (xs.length) (fun m i wr => ∃ k : Nat, m = xs.length - k ∧ i = .int .i64 ((k + 1 : Nat) : Int) ∧ Ext w wr ∧ ∀ j (hj : j + 1 < xs.length), j < k → lkFit xs[j] xs[j + 1] = true)
          case atStart => exact ⟨0, rfl, rfl, HE0.out, fun j hj h => absurd h (Nat.not_lt_zero _)⟩
          case round =>
            obtain ⟨k, hmk, rfl, hE, hup⟩ := hrel
            have HE := Lib.hid hE; have HUP := Lib.hid hup
            clear hE hup
            by_cases hlt : k + 1 < xs.length
            · obtain ⟨g, off, rfl, hg, -, a0, a1, a2⟩ := sl_Lock (Rep.sl_ext H.out HE.out) k (by omega)
              obtain ⟨g', off', e', -, -, b0, b1, b2⟩ := sl_Lock (Rep.sl_ext H.out HE.out) (k + 1) hlt
              injection e' with e'
              injection e' with e1 e2
              subst e1; subst e2
              have i1 : (k : Int) < (xs.length : Int) := by omega
              have i2 : (k : Int) + 1 < (xs.length : Int) := by omega
              have i3 : ((k : Int) + 1).toNat = k + 1 := by omega
              have i4 : (0 : Int) ≤ (k : Int) + 1 := by omega
              have i5 : k < xs.length := by omega
              have i6 : IntKind.i64.wrap (k : Int) = (k : Int) := by simp [IntKind.wrap, IntKind.min, IntKind.max, IntKind.signed, IntKind.bits]; omega
              have HBAD := Lib.hid (show lkFit xs[k] xs[k + 1] = false → R = 4 by
                intro hf
                rw [HR.out, locksFault, if_neg (by omega), if_neg (by rw [HP1.out]; simp), if_neg (by rw [HP2.out]; simp), if_pos (adjL_bad k hlt hf)])
              have HUP2 := Lib.hid (show lkFit xs[k] xs[k + 1] = true → ∀ j (hj : j + 1 < xs.length), j < k + 1 → lkFit xs[j] xs[j + 1] = true by
                intro hf j hj hjk
                by_cases he : j = k
                · subst he; exact hf
                · exact HUP.out j hj (by omega))
              generalize xs[k] = x at *
              generalize xs[k + 1] = y at *
              have hcs : ((x.Id == y.Id) = false ∧ lkFit x y = true) ∨ ((x.Id == y.Id) = true ∧ (x.Mode == 2) = true ∧ lkFit x y = false) ∨ ((x.Id == y.Id) = true ∧ (x.Mode == 2) = false ∧ (y.Mode == 2) = true ∧ lkFit x y = false) ∨ ((x.Id == y.Id) = true ∧ (x.Mode == 2) = false ∧ (y.Mode == 2) = false ∧ lkFit x y = true) := by
                by_cases c1 : x.Id = y.Id
                · by_cases c2 : x.Mode = 2
                  · exact .inr (.inl ⟨by simp [c1], by simp [c2], by simp [lkFit, c1, c2]⟩)
                  · by_cases c3 : y.Mode = 2
                    · exact .inr (.inr (.inl ⟨by simp [c1], by simp [c2], by simp [c3], by simp [lkFit, c1, c3]⟩))
                    · exact .inr (.inr (.inr ⟨by simp [c1], by simp [c2], by simp [c3], by simp [lkFit, c2, c3]⟩))
                · exact .inl ⟨by simp [c1], by simp [lkFit, c1]⟩
              have r1 := fun o => cell_of_row _ _ o _ _ _ (heap_alloc2_old wr (.cells #[.int .i64 x.Id, .int .i64 x.Txn, .int .i64 x.Mode] 63) (.cells #[.int .i64 y.Id, .int .i64 y.Txn, .int .i64 y.Mode] 63))
              have r2 := fun o => cell_of_row _ _ o _ _ _ (heap_alloc2_new wr (.cells #[.int .i64 x.Id, .int .i64 x.Txn, .int .i64 x.Mode] 63) (.cells #[.int .i64 y.Id, .int .i64 y.Txn, .int .i64 y.Mode] 63))
              have s1 := fun o => cell_of_row _ _ o _ _ _ (heap_alloc2_old wr (.cells #[.int .i64 y.Id, .int .i64 y.Txn, .int .i64 y.Mode] 63) (.cells #[.int .i64 x.Id, .int .i64 x.Txn, .int .i64 x.Mode] 63))
              have s2 := fun o => cell_of_row _ _ o _ _ _ (heap_alloc2_new wr (.cells #[.int .i64 y.Id, .int .i64 y.Txn, .int .i64 y.Mode] 63) (.cells #[.int .i64 x.Id, .int .i64 x.Txn, .int .i64 x.Mode] 63))
              have hEXY : Ext w ((wr.alloc (.cells #[.int .i64 x.Id, .int .i64 x.Txn, .int .i64 x.Mode] 63)).alloc (.cells #[.int .i64 y.Id, .int .i64 y.Txn, .int .i64 y.Mode] 63)).drew := ((HE.out.alloc _).alloc _).drew
              have hEYX : Ext w ((wr.alloc (.cells #[.int .i64 y.Id, .int .i64 y.Txn, .int .i64 y.Mode] 63)).alloc (.cells #[.int .i64 x.Id, .int .i64 x.Txn, .int .i64 x.Mode] 63)).drew := ((HE.out.alloc _).alloc _).drew
              have HXY := Lib.hid hEXY; have HYX := Lib.hid hEYX
              clear hEXY hEYX
              rcases hcs with ⟨h1, hq⟩ | ⟨h1, h2, hq⟩ | ⟨h1, h2, h3, hq⟩ | ⟨h1, h2, h3, hq⟩
              · have HQ := Lib.hid (HUP2.out hq)
                clear HBAD HUP2 hq
                go_wp2_with fail
                go_region
                all_goals
                  go_wp2
                  go_roundg (xs.length - (k + 1))
                  case measure => omega
                  case rel => exact ⟨k + 1, rfl, by go_num, (by first | with_reducible exact HXY.out | with_reducible exact HYX.out), HQ.out⟩
              · have HQ := Lib.hid (HBAD.out hq)
                clear HBAD HUP2 hq
                go_wp2_with fail
                go_region
                all_goals
                  go_wp2
                  go_ret
                  exact ⟨by rw [HQ.out]; rfl, (by first | with_reducible exact HXY.out | with_reducible exact HYX.out)⟩
              · have HQ := Lib.hid (HBAD.out hq)
                clear HBAD HUP2 hq
                go_wp2_with fail
                go_region
                all_goals
                  go_wp2
                  go_ret
                  exact ⟨by rw [HQ.out]; rfl, (by first | with_reducible exact HXY.out | with_reducible exact HYX.out)⟩
              · have HQ := Lib.hid (HUP2.out hq)
                clear HBAD HUP2 hq
                go_wp2_with fail
                go_region
                all_goals
                  go_wp2
                  go_roundg (xs.length - (k + 1))
                  case measure => omega
                  case rel => exact ⟨k + 1, rfl, by go_num, (by first | with_reducible exact HXY.out | with_reducible exact HYX.out), HQ.out⟩

            · have HP3 := Lib.hid (show adjL lkFit xs = true from adjL_of fun j hj => HUP.out j hj (by omega))
              have HRz := Lib.hid (show R = 0 by rw [HR.out, locksFault, if_neg (by omega), if_neg (by rw [HP1.out]; simp), if_neg (by rw [HP2.out]; simp), if_neg (by rw [HP3.out]; simp)])
              go_wp2
              go_ret
              exact ⟨by rw [HRz.out]; rfl, HE.out⟩
end Go.Proofs.Ytildfjlekplgjaa
