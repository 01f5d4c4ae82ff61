/- Holds: what is wrong with a list of holds; both packages. -/
import Derived.Test.YtildfjlekplgjaaFHold
import Derived.Test.YtildfjlekplgjaaB
namespace Go.Proofs.Ytildfjlekplgjaa
open Go.RowKit
set_option linter.unusedSimpArgs false
set_option linter.unusedVariables false
def inR (x a b : Int) : Bool := decide (x ≥ a) && decide (x ≤ b)
theorem specIn_calls (x a b : Int) (w : World) : Calls Try.prog 39 #[.int .i64 x, .int .i64 a, .int .i64 b] w fun e w' => e = .returned (.bool (inR x a b)) ∧ w = w' := by
  go_enter Try.func39, Try.ntmps39
  go_wp2
  all_goals (go_ret; exact ⟨ret_bool (by simp [inR, *] <;> omega), rfl⟩)
theorem implIn_calls (x a b : Int) (w : World) : Calls Try.prog 43 #[.int .i64 x, .int .i64 a, .int .i64 b] w fun e w' => e = .returned (.bool (inR x a b)) ∧ w = w' := by
  go_enter Try.func43, Try.ntmps43
  go_wp2
  all_goals (go_ret; exact ⟨ret_bool (by simp [inR, *] <;> omega), rfl⟩)
theorem inR_iff {x a b : Int} : inR x a b = true ↔ a ≤ x ∧ x ≤ b := by simp [inR]
theorem wp_region_ext {P : Program} {id : Nat} {Q : Exit → Act → World → Prop} {a : Act} {w : World} {l : List Oper} (hm : P.follows .mixedOrders = true) (hB : Region.lexB .any l.toArray = true)
    (h : wpQuiet P l.toArray (fun w' => Ext w w') (fun a' => ∀ w', Ext w w' → Q .normal a' w') l a) : (Code.region id l.toArray true).wp P Q a w :=
  wp_region_quiet (C := fun w' => Ext w w') hm hB (Only.drew (Only.refl [] w)) (by simpa using h)
theorem quiet_take {P : Program} {ops : Array Oper} {C : World → Prop} {Q : Act → Prop} {a : Act} {o : Oper} {rest : List Oper} (v : Value) (hw : Region.wanted o (yielded ops a.tmps) = true) (hv : ∀ w', C w' → o.quietAt P a C w' v) (h : wpQuiet P ops C Q rest (a.put o.dst v)) : wpQuiet P ops C Q (o :: rest) a :=
  BigFrame.wpQuiet_want hw fun K hK => ⟨v, hv, hK _ h⟩
def holdOK (h : DHold) : Bool := inR h.Id 0 511 && inR h.Txn 1 2147483647 && inR h.Most 0 1000
/-- The ids grow. -/
def ordL : List DHold → Bool
  | a :: b :: l => decide (a.Id < b.Id) && ordL (b :: l)
  | _ => true
theorem ordL_up : ∀ {xs : List DHold}, ordL xs = true → ∀ j (hj : j + 1 < xs.length), xs[j].Id < xs[j + 1].Id
  | a :: b :: l, h, 0, _ => by simp [ordL] at h; exact h.1
  | a :: b :: l, h, j + 1, hj => by
    simp [ordL] at h
    exact ordL_up (xs := b :: l) h.2 j (by simpa using hj)
  | [a], _, j, hj => by simp at hj
  | [], _, j, hj => by simp at hj
theorem ordL_of : ∀ {xs : List DHold}, (∀ j (hj : j + 1 < xs.length), xs[j].Id < xs[j + 1].Id) → ordL xs = true
  | a :: b :: l, h => by
    simp only [ordL, Bool.and_eq_true, decide_eq_true_eq]
    exact ⟨h 0 (by simp), ordL_of (xs := b :: l) fun j hj => h (j + 1) (by simpa using hj)⟩
  | [a], _ => rfl
  | [], _ => rfl
theorem ordL_bad {xs : List DHold} (k : Nat) (hk : k + 1 < xs.length) (h : ¬ xs[k].Id < xs[k + 1].Id) : ordL xs = false := by
  cases ho : ordL xs
  · rfl
  · exact absurd (ordL_up ho k hk) h
def holdsFault (xs : List DHold) : Int := if 512 < xs.length then 1 else if ordL xs = false then 1 else if xs.all holdOK = false then 2 else 0
set_option maxRecDepth 100000 in
set_option maxHeartbeats 1000000 in
theorem specHoldsFault_calls (A : Option Addr) (c : Nat) (xs : List DHold) (F : List Nat) (w : World) (h : Rep.Hold.sl w A c xs F) :
    Calls Try.prog 51 #[.slice A xs.length c] w fun e w' => e = .returned (.int .i64 (holdsFault xs)) ∧ Ext w w' := by
  have hu := Try.underlying75
  have hm := Nat.le_trans h.1 h.2.1
  unfold maxLen at hm
  obtain ⟨R, hR⟩ : ∃ R, R = holdsFault xs := ⟨_, rfl⟩
  rw [← hR]
  have HR := Lib.hid hR; have H := Lib.hid h
  clear hR h
  go_enter Try.func51, Try.ntmps51
  by_cases hl : xs.length ≤ 512
  rotate_left
  · have hb : decide ((512 : Int) < (xs.length : Int)) = true := by simp; omega
    have HRb := Lib.hid (show R = 1 by rw [HR.out, holdsFault, if_pos (by omega)])
    go_wp2
    go_ret
    exact ⟨by rw [HRb.out]; rfl, Only.refl _ _⟩
  have hb : decide ((512 : Int) < (xs.length : Int)) = false := by simp; omega
  go_wp2
  go_loopg [3] (xs.length) (fun m i wr => ∃ k : Nat, m = xs.length - k ∧ i = .int .i64 ((k + 1 : Nat) : Int) ∧ Ext w wr ∧ ∀ j (hj : j + 1 < xs.length), j < k → xs[j].Id < xs[j + 1].Id)
  case atStart => exact ⟨0, rfl, rfl, Only.refl _ _, fun j hj h => absurd h (Nat.not_lt_zero _)⟩
  case round =>
    obtain ⟨k, hmk, rfl, hE, hup⟩ := hrel
    have HE := Lib.hid hE; have HUP := Lib.hid hup
    clear hE hup
    by_cases hlt : k + 1 < xs.length
    · obtain ⟨g, off, rfl, hg, -, a0, -, -⟩ := sl_Hold (Rep.sl_ext H.out HE.out) k (by omega)
      obtain ⟨g', off', e', -, -, b0, -, -⟩ := sl_Hold (Rep.sl_ext H.out HE.out) (k + 1) hlt
      injection e' with e'
      injection e' with e1 e2
      subst e1; subst e2
      have i1 : (k : Int) < (xs.length : Int) := by omega
      have i2 : (k : Int) + 1 < (xs.length : Int) := by omega
      have i3 : ((k : Int) + 1).toNat = k + 1 := by omega
      have i4 : (0 : Int) ≤ (k : Int) + 1 := by omega
      have i5 : k < xs.length := by omega
      have i6 : IntKind.i64.wrap (k : Int) = (k : Int) := by simp [IntKind.wrap, IntKind.min, IntKind.max, IntKind.signed, IntKind.bits]; omega
      by_cases hc : xs[k + 1].Id ≤ xs[k].Id
      · have hcb : decide (xs[k + 1].Id ≤ xs[k].Id) = true := by simp [hc]
        have HRb := Lib.hid (show R = 1 by
          rw [HR.out, holdsFault, if_neg (by omega), if_pos (ordL_bad k hlt (by omega))])
        clear hc
        go_wp2_with fail
        refine wp_region_ext (by kernel_rfl) (by kernel_rfl) ?_
        repeat (first
          | (refine BigFrame.wpQuiet_skip (by rfl) ?_
             try simp only [Act.put, List.setIfInBounds_toArray, List.set_cons_zero, List.set_cons_succ])
          | (refine quiet_take ?_ (by rfl) (fun w' hw => ?_) ?_
             rotate_left
             · have c1 := hw.ecell a0
               have c2 := hw.ecell b0
               unfold Oper.quietAt
               go_simp
               first
                 | done
                 | exact ⟨rfl, rfl⟩
                 | exact rfl
             try simp only [Act.put, List.setIfInBounds_toArray, List.set_cons_zero, List.set_cons_succ]))
        refine wpQuiet_nil ?_
        intro w2 hw2
        have HE2 := Lib.hid (HE.out.ext hw2)
        clear hw2 a0 b0
        go_wp2
        go_ret
        exact ⟨by rw [HRb.out]; rfl, HE2.out⟩
      · have hcb : decide (xs[k + 1].Id ≤ xs[k].Id) = false := by simp; omega
        have HUP2 := Lib.hid (show ∀ j (hj : j + 1 < xs.length), j < k + 1 → xs[j].Id < xs[j + 1].Id by
          intro j hj hjk
          by_cases he : j = k
          · subst he; omega
          · exact HUP.out j hj (by omega))
        clear hc
        go_wp2_with fail
        refine wp_region_ext (by kernel_rfl) (by kernel_rfl) ?_
        repeat (first
          | (refine BigFrame.wpQuiet_skip (by rfl) ?_
             try simp only [Act.put, List.setIfInBounds_toArray, List.set_cons_zero, List.set_cons_succ])
          | (refine quiet_take ?_ (by rfl) (fun w' hw => ?_) ?_
             rotate_left
             · have c1 := hw.ecell a0
               have c2 := hw.ecell b0
               unfold Oper.quietAt
               go_simp
               first
                 | done
                 | exact ⟨rfl, rfl⟩
                 | exact rfl
             try simp only [Act.put, List.setIfInBounds_toArray, List.set_cons_zero, List.set_cons_succ]))
        refine wpQuiet_nil ?_
        intro w2 hw2
        have HE2 := Lib.hid (HE.out.ext hw2)
        clear hw2 a0 b0
        go_wp2
        go_roundg (xs.length - (k + 1))
        case measure => omega
        case rel => exact ⟨k + 1, rfl, by go_num, HE2.out, HUP2.out⟩
    · have hord : ordL xs = true := ordL_of fun j hj => HUP.out j hj (by omega)
      have HORD := Lib.hid hord
      clear hord
      go_wp2
      go_loopg [4] (xs.length) (fun m i wr => ∃ k : Nat, m + k = xs.length ∧ i = .int .i64 k ∧ Ext w wr ∧ ∀ j (hj : j < xs.length), j < k → holdOK xs[j] = true)
      case atStart => exact ⟨0, by simp, rfl, HE.out, fun j hj h => absurd h (Nat.not_lt_zero _)⟩
      case round =>
        obtain ⟨k, hmk, rfl, hE, hup⟩ := hrel
        have HE3 := Lib.hid hE; have HUP3 := Lib.hid hup; have HMK := Lib.hid hmk
        clear hE hup hmk
        by_cases hlt : k < xs.length
        · obtain ⟨g, off, rfl, hg, -, a0, a1, a2⟩ := sl_Hold (Rep.sl_ext H.out HE3.out) k hlt
          have HOKd := Lib.hid (show holdOK xs[k] = (inR xs[k].Id 0 511 && inR xs[k].Txn 1 2147483647 && inR xs[k].Most 0 1000) from rfl)
          have HALL := Lib.hid (show holdOK xs[k] = false → R = 2 by
            intro hf
            rw [HR.out, holdsFault, if_neg (by omega), if_neg (by rw [HORD.out]; simp), if_pos]
            rw [List.all_eq_false]
            exact ⟨xs[k], by simp, by rw [hf]; simp⟩)
          have HUP4 := Lib.hid (show holdOK xs[k] = true → ∀ j (hj : j < xs.length), j < k + 1 → holdOK xs[j] = true by
            intro hf j hj hjk
            by_cases he : j = k
            · subst he; exact hf
            · exact HUP3.out j hj (by omega))
          generalize holdOK xs[k] = ok at *
          generalize xs[k] = x at *
          have hcs : (inR x.Id 0 511 = false ∧ ok = false) ∨ (inR x.Id 0 511 = true ∧ inR x.Txn 1 2147483647 = false ∧ ok = false) ∨ (inR x.Id 0 511 = true ∧ inR x.Txn 1 2147483647 = true ∧ inR x.Most 0 1000 = false ∧ ok = false) ∨ (inR x.Id 0 511 = true ∧ inR x.Txn 1 2147483647 = true ∧ inR x.Most 0 1000 = true ∧ ok = true) := by
            rw [HOKd.out]
            cases inR x.Id 0 511 <;> cases inR x.Txn 1 2147483647 <;> cases inR x.Most 0 1000 <;> simp
          have hEA := alloc_ext wr (.cells #[.int .i64 x.Id, .int .i64 x.Txn, .int .i64 x.Most] 75)
          have mo := fun o => cell_of_row _ _ o _ _ _ (heap_alloc_new wr (.cells #[.int .i64 x.Id, .int .i64 x.Txn, .int .i64 x.Most] 75))
          have HEA := Lib.hid (HE3.out.ext hEA)
          clear hEA
          rcases hcs with ⟨h1, rfl⟩ | ⟨h1, h2, rfl⟩ | ⟨h1, h2, h3, rfl⟩ | ⟨h1, h2, h3, rfl⟩
          · have HRb := Lib.hid (HALL.out rfl)
            clear HALL HUP4
            go_wp2_with (go_at_call 39; refine (specIn_calls _ _ _ _).mono ?_; rintro e w9 ⟨rfl, rfl⟩)
            go_ret
            exact ⟨by rw [HRb.out]; rfl, HEA.out⟩
          · have HRb := Lib.hid (HALL.out rfl)
            clear HALL HUP4
            go_wp2_with (go_at_call 39; refine (specIn_calls _ _ _ _).mono ?_; rintro e w9 ⟨rfl, rfl⟩)
            go_ret
            exact ⟨by rw [HRb.out]; rfl, HEA.out⟩
          · have HRb := Lib.hid (HALL.out rfl)
            clear HALL HUP4
            go_wp2_with (go_at_call 39; refine (specIn_calls _ _ _ _).mono ?_; rintro e w9 ⟨rfl, rfl⟩)
            go_ret
            exact ⟨by rw [HRb.out]; rfl, HEA.out⟩
          · have HUP5 := Lib.hid (HUP4.out rfl)
            clear HALL HUP4
            go_wp2_with (go_at_call 39; refine (specIn_calls _ _ _ _).mono ?_; rintro e w9 ⟨rfl, rfl⟩)
            go_roundg (xs.length - (k + 1))
            case measure => have := HMK.out; omega
            case rel => exact ⟨k + 1, by have := HMK.out; omega, by go_num, HEA.out, HUP5.out⟩
        · have HRz := Lib.hid (show R = 0 by
            rw [HR.out, holdsFault, if_neg (by omega), if_neg (by rw [HORD.out]; simp), if_neg]
            rw [Bool.not_eq_false, List.all_eq_true]
            intro x hx
            obtain ⟨j, hj, rfl⟩ := List.getElem_of_mem hx
            exact HUP3.out j hj (by omega))
          go_wp2
          go_ret
          exact ⟨by rw [HRz.out]; rfl, HE3.out⟩
set_option maxRecDepth 100000 in
set_option maxHeartbeats 1000000 in
theorem implHoldsFault_calls (A : Option Addr) (c : Nat) (xs : List DHold) (F : List Nat) (w : World) (h : Rep.Hold.sl w A c xs F) :
    Calls Try.prog 34 #[.slice A xs.length c] w fun e w' => e = .returned (.int .i64 (holdsFault xs)) ∧ Ext w w' := by
  have hu := Try.underlying75
  have hm := Nat.le_trans h.1 h.2.1
  unfold maxLen at hm
  obtain ⟨R, hR⟩ : ∃ R, R = holdsFault xs := ⟨_, rfl⟩
  rw [← hR]
  have HR := Lib.hid hR; have H := Lib.hid h
  clear hR h
  go_enter Try.func34, Try.ntmps34
  by_cases hl : xs.length ≤ 512
  rotate_left
  · have hb : decide ((512 : Int) < (xs.length : Int)) = true := by simp; omega
    have HRb := Lib.hid (show R = 1 by rw [HR.out, holdsFault, if_pos (by omega)])
    go_wp2
    go_ret
    exact ⟨by rw [HRb.out]; rfl, Only.refl _ _⟩
  have hb : decide ((512 : Int) < (xs.length : Int)) = false := by simp; omega
  go_wp2
  go_loopg [3] (xs.length) (fun m i wr => ∃ k : Nat, m = xs.length - k ∧ i = .int .i64 ((k + 1 : Nat) : Int) ∧ Ext w wr ∧ ∀ j (hj : j + 1 < xs.length), j < k → xs[j].Id < xs[j + 1].Id)
  case atStart => exact ⟨0, rfl, rfl, Only.refl _ _, fun j hj h => absurd h (Nat.not_lt_zero _)⟩
  case round =>
    obtain ⟨k, hmk, rfl, hE, hup⟩ := hrel
    have HE := Lib.hid hE; have HUP := Lib.hid hup
    clear hE hup
    by_cases hlt : k + 1 < xs.length
    · obtain ⟨g, off, rfl, hg, -, a0, -, -⟩ := sl_Hold (Rep.sl_ext H.out HE.out) k (by omega)
      obtain ⟨g', off', e', -, -, b0, -, -⟩ := sl_Hold (Rep.sl_ext H.out HE.out) (k + 1) hlt
      injection e' with e'
      injection e' with e1 e2
      subst e1; subst e2
      have i1 : (k : Int) < (xs.length : Int) := by omega
      have i2 : (k : Int) + 1 < (xs.length : Int) := by omega
      have i3 : ((k : Int) + 1).toNat = k + 1 := by omega
      have i4 : (0 : Int) ≤ (k : Int) + 1 := by omega
      have i5 : k < xs.length := by omega
      have i6 : IntKind.i64.wrap (k : Int) = (k : Int) := by simp [IntKind.wrap, IntKind.min, IntKind.max, IntKind.signed, IntKind.bits]; omega
      by_cases hc : xs[k + 1].Id ≤ xs[k].Id
      · have hcb : decide (xs[k + 1].Id ≤ xs[k].Id) = true := by simp [hc]
        have HRb := Lib.hid (show R = 1 by
          rw [HR.out, holdsFault, if_neg (by omega), if_pos (ordL_bad k hlt (by omega))])
        clear hc
        go_wp2_with fail
        refine wp_region_ext (by kernel_rfl) (by kernel_rfl) ?_
        repeat (first
          | (refine BigFrame.wpQuiet_skip (by rfl) ?_
             try simp only [Act.put, List.setIfInBounds_toArray, List.set_cons_zero, List.set_cons_succ])
          | (refine quiet_take ?_ (by rfl) (fun w' hw => ?_) ?_
             rotate_left
             · have c1 := hw.ecell a0
               have c2 := hw.ecell b0
               unfold Oper.quietAt
               go_simp
               first
                 | done
                 | exact ⟨rfl, rfl⟩
                 | exact rfl
             try simp only [Act.put, List.setIfInBounds_toArray, List.set_cons_zero, List.set_cons_succ]))
        refine wpQuiet_nil ?_
        intro w2 hw2
        have HE2 := Lib.hid (HE.out.ext hw2)
        clear hw2 a0 b0
        go_wp2
        go_ret
        exact ⟨by rw [HRb.out]; rfl, HE2.out⟩
      · have hcb : decide (xs[k + 1].Id ≤ xs[k].Id) = false := by simp; omega
        have HUP2 := Lib.hid (show ∀ j (hj : j + 1 < xs.length), j < k + 1 → xs[j].Id < xs[j + 1].Id by
          intro j hj hjk
          by_cases he : j = k
          · subst he; omega
          · exact HUP.out j hj (by omega))
        clear hc
        go_wp2_with fail
        refine wp_region_ext (by kernel_rfl) (by kernel_rfl) ?_
        repeat (first
          | (refine BigFrame.wpQuiet_skip (by rfl) ?_
             try simp only [Act.put, List.setIfInBounds_toArray, List.set_cons_zero, List.set_cons_succ])
          | (refine quiet_take ?_ (by rfl) (fun w' hw => ?_) ?_
             rotate_left
             · have c1 := hw.ecell a0
               have c2 := hw.ecell b0
               unfold Oper.quietAt
               go_simp
               first
                 | done
                 | exact ⟨rfl, rfl⟩
                 | exact rfl
             try simp only [Act.put, List.setIfInBounds_toArray, List.set_cons_zero, List.set_cons_succ]))
        refine wpQuiet_nil ?_
        intro w2 hw2
        have HE2 := Lib.hid (HE.out.ext hw2)
        clear hw2 a0 b0
        go_wp2
        go_roundg (xs.length - (k + 1))
        case measure => omega
        case rel => exact ⟨k + 1, rfl, by go_num, HE2.out, HUP2.out⟩
    · have hord : ordL xs = true := ordL_of fun j hj => HUP.out j hj (by omega)
      have HORD := Lib.hid hord
      clear hord
      go_wp2
      go_loopg [29] (xs.length) (fun m i wr => ∃ k : Nat, m + k = xs.length ∧ i = .int .i64 k ∧ Ext w wr ∧ ∀ j (hj : j < xs.length), j < k → holdOK xs[j] = true)
      case atStart => exact ⟨0, by simp, rfl, HE.out, fun j hj h => absurd h (Nat.not_lt_zero _)⟩
      case round =>
        obtain ⟨k, hmk, rfl, hE, hup⟩ := hrel
        have HE3 := Lib.hid hE; have HUP3 := Lib.hid hup; have HMK := Lib.hid hmk
        clear hE hup hmk
        by_cases hlt : k < xs.length
        · obtain ⟨g, off, rfl, hg, -, a0, a1, a2⟩ := sl_Hold (Rep.sl_ext H.out HE3.out) k hlt
          have HOKd := Lib.hid (show holdOK xs[k] = (inR xs[k].Id 0 511 && inR xs[k].Txn 1 2147483647 && inR xs[k].Most 0 1000) from rfl)
          have HALL := Lib.hid (show holdOK xs[k] = false → R = 2 by
            intro hf
            rw [HR.out, holdsFault, if_neg (by omega), if_neg (by rw [HORD.out]; simp), if_pos]
            rw [List.all_eq_false]
            exact ⟨xs[k], by simp, by rw [hf]; simp⟩)
          have HUP4 := Lib.hid (show holdOK xs[k] = true → ∀ j (hj : j < xs.length), j < k + 1 → holdOK xs[j] = true by
            intro hf j hj hjk
            by_cases he : j = k
            · subst he; exact hf
            · exact HUP3.out j hj (by omega))
          generalize holdOK xs[k] = ok at *
          generalize xs[k] = x at *
          have hcs : (inR x.Id 0 511 = false ∧ ok = false) ∨ (inR x.Id 0 511 = true ∧ inR x.Txn 1 2147483647 = false ∧ ok = false) ∨ (inR x.Id 0 511 = true ∧ inR x.Txn 1 2147483647 = true ∧ inR x.Most 0 1000 = false ∧ ok = false) ∨ (inR x.Id 0 511 = true ∧ inR x.Txn 1 2147483647 = true ∧ inR x.Most 0 1000 = true ∧ ok = true) := by
            rw [HOKd.out]
            cases inR x.Id 0 511 <;> cases inR x.Txn 1 2147483647 <;> cases inR x.Most 0 1000 <;> simp
          have hEA := alloc_ext wr (.cells #[.int .i64 x.Id, .int .i64 x.Txn, .int .i64 x.Most] 75)
          have mo := fun o => cell_of_row _ _ o _ _ _ (heap_alloc_new wr (.cells #[.int .i64 x.Id, .int .i64 x.Txn, .int .i64 x.Most] 75))
          have HEA := Lib.hid (HE3.out.ext hEA)
          clear hEA
          rcases hcs with ⟨h1, rfl⟩ | ⟨h1, h2, rfl⟩ | ⟨h1, h2, h3, rfl⟩ | ⟨h1, h2, h3, rfl⟩
          · have HRb := Lib.hid (HALL.out rfl)
            clear HALL HUP4
            go_wp2_with (go_at_call 43; refine (implIn_calls _ _ _ _).mono ?_; rintro e w9 ⟨rfl, rfl⟩)
            go_ret
            exact ⟨by rw [HRb.out]; rfl, HEA.out⟩
          · have HRb := Lib.hid (HALL.out rfl)
            clear HALL HUP4
            go_wp2_with (go_at_call 43; refine (implIn_calls _ _ _ _).mono ?_; rintro e w9 ⟨rfl, rfl⟩)
            go_ret
            exact ⟨by rw [HRb.out]; rfl, HEA.out⟩
          · have HRb := Lib.hid (HALL.out rfl)
            clear HALL HUP4
            go_wp2_with (go_at_call 43; refine (implIn_calls _ _ _ _).mono ?_; rintro e w9 ⟨rfl, rfl⟩)
            go_ret
            exact ⟨by rw [HRb.out]; rfl, HEA.out⟩
          · have HUP5 := Lib.hid (HUP4.out rfl)
            clear HALL HUP4
            go_wp2_with (go_at_call 43; refine (implIn_calls _ _ _ _).mono ?_; rintro e w9 ⟨rfl, rfl⟩)
            go_roundg (xs.length - (k + 1))
            case measure => have := HMK.out; omega
            case rel => exact ⟨k + 1, by have := HMK.out; omega, by go_num, HEA.out, HUP5.out⟩
        · have HRz := Lib.hid (show R = 0 by
            rw [HR.out, holdsFault, if_neg (by omega), if_neg (by rw [HORD.out]; simp), if_neg]
            rw [Bool.not_eq_false, List.all_eq_true]
            intro x hx
            obtain ⟨j, hj, rfl⟩ := List.getElem_of_mem hx
            exact HUP3.out j hj (by omega))
          go_wp2
          go_ret
          exact ⟨by rw [HRz.out]; rfl, HE3.out⟩
end Go.Proofs.Ytildfjlekplgjaa
