/- One operation: the data law; the reference's. -/
import Derived.Test.YtdjcfcgkldokgaaD14
import Derived.Test.YtdjcfcgkldokgaaFOp
import Derived.Test.YtdjcfcgkldokgaaFOpsResult
namespace Go.Proofs.Ytdjcfcgkldokgaa
open Go.RowKit
set_option linter.unusedSimpArgs false
set_option linter.unusedVariables false
def doOp (d : DDisk) (x : DOp) : DDisk := if x.Kind = 2 then ⟨settleL d.Durable d.Pending, []⟩ else if x.Kind = 1 then diskWriteV d x.Sector x.Data else d
theorem valid_of {d d' : DDisk} (h : validDisk d = true) (hl : d'.Durable.length = d.Durable.length) (hp : d'.Pending.length ≤ 8192) (ha : ∀ x ∈ d'.Pending, okW (d.Durable.length / 512) x = true) : validDisk d' = true := by
  obtain ⟨v1, v2, v3, v4, v5⟩ := valid_facts h
  have hH : headOK d' = true := (headOK_iff _).2 ⟨by rw [hl]; exact v1, by rw [hl]; exact v2, by rw [hl]; exact v3, hp⟩
  rw [validDisk_is hH, hl, List.all_eq_true]
  exact ha
theorem settle_len {d : DDisk} (h : validDisk d = true) : (settleL d.Durable d.Pending).length = d.Durable.length := settleL_len d.Pending d.Durable (fun x hx => List.all_eq_true.1 (valid_facts h).2.2.2.2 x hx)
theorem valid_settle {d : DDisk} (h : validDisk d = true) : validDisk ⟨settleL d.Durable d.Pending, []⟩ = true := valid_of h (settle_len h) (by simp) (by simp)
theorem valid_writeV {d : DDisk} {s : Int} {data : List Int} (h : validDisk d = true) : validDisk (diskWriteV d s data) = true := by
  obtain ⟨v1, v2, v3, v4, v5⟩ := valid_facts h
  unfold diskWriteV
  split
  · rename_i hc
    have hok : okW (d.Durable.length / 512) ⟨s, data⟩ = true := by simp [okW]; omega
    refine valid_of h (put_len h) ?_ ?_
    · unfold diskPut; split
      · simp
      · simp; omega
    · unfold diskPut; split
      · intro x hx; simp at hx; subst hx; exact hok
      · intro x hx
        simp at hx
        rcases hx with hx | rfl
        · exact List.all_eq_true.1 v5 x hx
        · exact hok
  · exact h
theorem valid_doOp {d : DDisk} {x : DOp} (h : validDisk d = true) : validDisk (doOp d x) = true := by
  unfold doOp
  split
  · exact valid_settle h
  split
  · exact valid_writeV h
  · exact h
theorem writeV_len {d : DDisk} {s : Int} {data : List Int} (h : validDisk d = true) : (diskWriteV d s data).Durable.length = d.Durable.length := by
  unfold diskWriteV
  split
  · exact put_len h
  · rfl
theorem doOp_len {d : DDisk} {x : DOp} (h : validDisk d = true) : (doOp d x).Durable.length = d.Durable.length := by
  unfold doOp
  split
  · exact settle_len h
  split
  · exact writeV_len h
  · rfl
theorem doOp_wt {d : DDisk} {x : DOp} (h : validDisk d = true) : wtDisk (doOp d x) ≤ wtDisk d + 1 + wtOp x := by
  unfold doOp
  split
  · unfold wtDisk; rw [settle_len h]; simp [wtSectorWriteS]; omega
  split
  · unfold diskWriteV
    split
    · have := put_wt (s := x.Sector) (data := x.Data) h
      unfold wtOp; omega
    · omega
  · omega
theorem PutPost.hand {P : Nat → Prop} {b b2 : Nat} {d : DDisk} {w w1 w3 : World} {A : Option Addr} {c : Nat} {Ap : Option Addr} {cp n k m : Nat} {r : List Nat} {H : List Nat} (hD : DiskP (fun g => P g ∧ g ∉ r) b2 n w1 A c (.slice Ap m cp) d) (hb : b ≤ b2) (hbn : b2 ≤ n) (hO : Only r w1 w3) (hr : ∀ g ∈ r, w.heap.size ≤ g) (hO1 : Only H w w1) (hH : ∀ g ∈ H, g < w.heap.size → P g ∧ b ≤ g) (hk : k = d.Durable.length) (hm : m = d.Pending.length) :
    PutPost P b d w (.returned (.agg #[.slice A k c, .slice Ap m cp])) w3 := by
  subst hk; subst hm
  have hD2 := (hD.keep hO (fun g hg => .inl (fun hp => hp.2 hg)) hbn).imp (Q := P) (fun g hg _ => hg.1)
  refine ⟨A, c, Ap, cp, n, rfl, hD2.more hb, by omega, H.filter (fun g => decide (g < w.heap.size)), ?_, fun g hg => ?_⟩
  · exact (hO1.more (fun g hg hlt => by simp [hg, hlt])).then_ hO (fun g hg hlt => by have := hr g hg; omega)
  · simp at hg
    exact hH g hg.1 hg.2
theorem wp_region_ext {P : Program} {id : Nat} {Q : Exit → Act → World → Prop} {a : Act} {w : World} {l : List Oper} (hm : P.follows .mixedOrders = true) (hB : Region.lexB .any l.toArray = true)
    (h : wpQuiet P l.toArray (fun w' => Ext w w') (fun a' => ∀ w', Ext w w' → Q .normal a' w') l a) : (Code.region id l.toArray true).wp P Q a w :=
  wp_region_quiet (C := fun w' => Ext w w') hm hB (Only.drew (Only.refl [] w)) (by simpa using h)
theorem quiet_take {P : Program} {ops : Array Oper} {C : World → Prop} {Q : Act → Prop} {a : Act} {o : Oper} {rest : List Oper} (v : Value) (hw : Region.wanted o (yielded ops a.tmps) = true) (hv : ∀ w', C w' → o.quietAt P a C w' v) (h : wpQuiet P ops C Q rest (a.put o.dst v)) : wpQuiet P ops C Q (o :: rest) a :=
  BigFrame.wpQuiet_want hw fun K hK => ⟨v, hv, hK _ h⟩
set_option maxRecDepth 100000 in
set_option maxHeartbeats 2000000 in
theorem l1Do_calls (P : Nat → Prop) (b n : Nat) (w : World) (A : Option Addr) (c : Nat) (Ap : Option Addr) (cp : Nat) (d : DDisk) (hD : DiskP P b n w A c (.slice Ap d.Pending.length cp) d) (hb : b ≤ n) (hP : ∀ g, w.heap.size ≤ g → P g) (hv : validDisk d = true) (x : DOp) (hwf : wfOp x) (Ax : Option Addr) (cx : Nat) (Fx : List Nat) (hx : (Rep.int .u8).sl w Ax cx x.Data Fx) :
    Calls Try.prog 68 #[.agg #[.slice A d.Durable.length c, .slice Ap d.Pending.length cp], .agg #[.int .i64 x.Kind, .int .i64 x.Sector, .slice Ax x.Data.length cx]] w (PutPost P b (doOp d x) w) := by
  have hu := Try.underlying29
  have hu2 := Try.underlying90
  obtain ⟨v1, v2, v3, v4, v5⟩ := valid_facts hv
  have hmx := Nat.le_trans hx.1 hx.2.1
  unfold maxLen at hmx
  have hnl := hD.le
  obtain ⟨R, hR⟩ : ∃ R, R = doOp d x := ⟨_, rfl⟩
  rw [← hR]
  have HR := Lib.hid hR
  clear hR
  -- the three boxes
  have hE0 := ((alloc_ext w (.cells #[.slice A d.Durable.length c, .slice Ap d.Pending.length cp] 29)).alloc (.cells #[.int .i64 x.Kind, .int .i64 x.Sector, .slice Ax x.Data.length cx] 90)).alloc (.cells #[.slice none 0 0, .slice none 0 0] 29)
  have q1 : (((w.alloc (.cells #[.slice A d.Durable.length c, .slice Ap d.Pending.length cp] 29)).alloc (.cells #[.int .i64 x.Kind, .int .i64 x.Sector, .slice Ax x.Data.length cx] 90)).alloc (.cells #[.slice none 0 0, .slice none 0 0] 29)).heap[w.heap.size]? = some (.cells #[.slice A d.Durable.length c, .slice Ap d.Pending.length cp] 29 (0, 0)) :=
    Only.heap (F := []) (((Only.refl _ _).alloc _).alloc _) (heap_alloc_new _ _) (by simp)
  have q2 : (((w.alloc (.cells #[.slice A d.Durable.length c, .slice Ap d.Pending.length cp] 29)).alloc (.cells #[.int .i64 x.Kind, .int .i64 x.Sector, .slice Ax x.Data.length cx] 90)).alloc (.cells #[.slice none 0 0, .slice none 0 0] 29)).heap[w.heap.size + 1]? = some (.cells #[.int .i64 x.Kind, .int .i64 x.Sector, .slice Ax x.Data.length cx] 90 (0, 0)) :=
    Only.heap (F := []) ((Only.refl _ _).alloc _) (heap_at _ _ (by simp)) (by simp)
  have q3 : (((w.alloc (.cells #[.slice A d.Durable.length c, .slice Ap d.Pending.length cp] 29)).alloc (.cells #[.int .i64 x.Kind, .int .i64 x.Sector, .slice Ax x.Data.length cx] 90)).alloc (.cells #[.slice none 0 0, .slice none 0 0] 29)).heap[w.heap.size + 1 + 1]? = some (.cells #[.slice none 0 0, .slice none 0 0] 29 (0, 0)) := heap_at _ _ (by simp)
  have hz0 : (((w.alloc (.cells #[.slice A d.Durable.length c, .slice Ap d.Pending.length cp] 29)).alloc (.cells #[.int .i64 x.Kind, .int .i64 x.Sector, .slice Ax x.Data.length cx] 90)).alloc (.cells #[.slice none 0 0, .slice none 0 0] 29)).heap.size = w.heap.size + 3 := by simp
  have hD0 := (hD.imp (Q := fun g => P g ∧ g ∉ [w.heap.size, w.heap.size + 1, w.heap.size + 1 + 1]) (fun g hg hlt => ⟨hg, by simp; omega⟩)).ext hE0 hb
  have hPn : ∀ g, w.heap.size + 3 ≤ g → P g ∧ g ∉ [w.heap.size, w.heap.size + 1, w.heap.size + 1 + 1] := fun g hg => ⟨hP g (by omega), by simp; omega⟩
  go_enter Try.func68, Try.ntmps68
  by_cases h2 : x.Kind = 2
  · have h2b : (x.Kind == 2) = true := by simp [h2]
    have hRd : R = ⟨settleL d.Durable d.Pending, []⟩ := by rw [HR.out, doOp, if_pos h2]
    obtain ⟨Fv, hV⟩ := hD0.V
    clear h2
    go_wp2_with fail
    generalize (((w.alloc (.cells #[.slice A d.Durable.length c, .slice Ap d.Pending.length cp] 29)).alloc (.cells #[.int .i64 x.Kind, .int .i64 x.Sector, .slice Ax x.Data.length cx] 90)).alloc (.cells #[.slice none 0 0, .slice none 0 0] 29)) = W0 at hE0 q1 q2 q3 hz0 hD0 hV ⊢
    refine (l1Settle_calls _ d _ _ hV hv true none 0 [] [] (Rep.sl_nil (by simp))).mono ?_
    rw [selOf_true, kept_all, ← hRd]
    rintro e w1 ⟨B, dd, pv, n', rfl, hD1, hn1, hE⟩
    obtain ⟨Ap', cp', rfl, -⟩ := hD1.form
    have hb3 := hE.heap q3 (by simp)
    have m3 := fun o => cell_of_row _ _ o _ _ _ hb3
    have f3 := fun o => frozen_of_row _ _ o _ _ hb3
    have HD1 := Lib.hid (DiskP.of (P := fun g => P g ∧ g ∉ [w.heap.size, w.heap.size + 1, w.heap.size + 1 + 1]) hD1 (fun g hg _ => hPn g (by omega)) hn1)
    have HE1 := Lib.hid (hE0.ext hE)
    clear hD1 hE hb3 hRd hD0 hV q1 q2 q3
    go_wp2
    refine bodyPost_ret (v := .agg #[.slice B R.Durable.length dd, .slice Ap' R.Pending.length cp']) (by simp [results, Try.results68, go_sem, m3]) rfl ?_
    refine PutPost.hand HD1.out (by omega) (by omega) ?_ (by simp; omega) HE1.out (by simp) rfl rfl
    repeat (first | with_reducible exact Only.refl _ _ | ((with_reducible apply Only.set); · simp))
  have h2b : (x.Kind == 2) = false := by simp [h2]
  have hD8 := hD0
  by_cases hc : x.Kind = 1 ∧ 0 ≤ x.Sector ∧ x.Sector < (d.Durable.length / 512 : Nat) ∧ x.Data.length = 512
  rotate_left
  · have hRd : d = R := by
      symm
      rw [HR.out, doOp, if_neg h2]
      split
      · rename_i h1
        rw [diskWriteV, if_neg (fun h => hc ⟨h1, h⟩)]
      · rfl
    have hh : (x.Kind == 1) = false ∨ ((x.Kind == 1) = true ∧ decide (0 ≤ x.Sector) = false) ∨ ((x.Kind == 1) = true ∧ decide (0 ≤ x.Sector) = true ∧ decide (x.Sector < (d.Durable.length : Int) / 512) = false) ∨ ((x.Kind == 1) = true ∧ decide (0 ≤ x.Sector) = true ∧ decide (x.Sector < (d.Durable.length : Int) / 512) = true ∧ ((x.Data.length : Int) == 512) = false) := by
      by_cases hk : x.Kind = 1
      · by_cases h0 : x.Sector < 0
        · exact .inr (.inl ⟨by simp [hk], by simp; omega⟩)
        · by_cases h1 : (d.Durable.length : Int) / 512 ≤ x.Sector
          · exact .inr (.inr (.inl ⟨by simp [hk], by simp; omega, by simp; omega⟩))
          · refine .inr (.inr (.inr ⟨by simp [hk], by simp; omega, by simp; omega, ?_⟩))
            have : ¬ x.Data.length = 512 := fun h => hc ⟨hk, by omega, by omega, h⟩
            simp; omega
      · exact .inl (by simp [hk])
    clear hc h2
    have HRd := Lib.hid hRd
    clear hRd
    rcases hh with h3 | ⟨h3, h4⟩ | ⟨h3, h4, h5⟩ | ⟨h3, h4, h5, h6⟩
    all_goals
      go_wp2_with fail
      generalize (((w.alloc (.cells #[.slice A d.Durable.length c, .slice Ap d.Pending.length cp] 29)).alloc (.cells #[.int .i64 x.Kind, .int .i64 x.Sector, .slice Ax x.Data.length cx] 90)).alloc (.cells #[.slice none 0 0, .slice none 0 0] 29)) = W0 at hE0 q1 q2 q3 hz0 hD0 hD8 ⊢
      have e1 : W0.cell? ⟨w.heap.size + 1, 0, none⟩ = some (.int .i64 x.Kind) := cell_of_row _ _ 0 _ _ _ q2
      have e2 : W0.cell? ⟨w.heap.size + 1, 1, none⟩ = some (.int .i64 x.Sector) := cell_of_row _ _ 1 _ _ _ q2
      have e3 : W0.cell? ⟨w.heap.size + 1, 2, none⟩ = some (.slice Ax x.Data.length cx) := cell_of_row _ _ 2 _ _ _ q2
      have e4 : W0.cell? ⟨w.heap.size, 0, none⟩ = some (.slice A d.Durable.length c) := cell_of_row _ _ 0 _ _ _ q1
      have e5 : W0.cell? ⟨w.heap.size, 1, none⟩ = some (.slice Ap d.Pending.length cp) := cell_of_row _ _ 1 _ _ _ q1
      have Q1 := Lib.hid q1; have Q2 := Lib.hid q2; have Q3 := Lib.hid q3; have HE0 := Lib.hid hE0; have HD0 := Lib.hid hD0
      have hl9 : d.Durable.length ≤ 9223372036854775807 := by omega
      clear q1 q2 q3 hE0 hD0 hD8
      refine wp_region_ext (by kernel_rfl) (by kernel_rfl) ?_
      repeat (first
        | (refine BigFrame.wpQuiet_skip (by rfl) ?_
           try simp only [Act.put, List.setIfInBounds_toArray, List.set_cons_zero, List.set_cons_succ])
        | (refine quiet_take ?_ (by rfl) (fun w' hw => ?_) ?_
           rotate_left
           · have c1 := hw.ecell e1
             have c2 := hw.ecell e2
             have c3 := hw.ecell e3
             have c4 := hw.ecell e4
             have c5 := hw.ecell e5
             unfold Oper.quietAt
             go_simp
             first
               | done
               | exact ⟨rfl, rfl⟩
               | exact rfl
           try simp only [Act.put, List.setIfInBounds_toArray, List.set_cons_zero, List.set_cons_succ])
        | (refine quiet_take (.int .i64 ((d.Durable.length : Int) / 512)) (by rfl) (fun w' hw => ?_) ?_
           · unfold Oper.quietAt
             go_simp
             exact ((l1Sectors_calls _ _ _ _ _ _ _ hl9).mono (fun e w5 h5 => ⟨h5.1, by rw [h5.2]; exact Only.alloc hw _⟩))
           try simp only [Act.put, List.setIfInBounds_toArray, List.set_cons_zero, List.set_cons_succ]))
      refine wpQuiet_nil ?_
      intro w2 hw2
      have hr3 := hw2.heap Q3.out (by simp)
      have hr1 := hw2.heap Q1.out (by simp)
      have hr2 := hw2.heap Q2.out (by simp)
      have m1 := fun o => cell_of_row _ _ o _ _ _ hr1
      have m2 := fun o => cell_of_row _ _ o _ _ _ hr2
      have m3 := fun o => cell_of_row _ _ o _ _ _ hr3
      have f3 := fun o => frozen_of_row _ _ o _ _ hr3
      have HD2 := Lib.hid (HD0.out.ext hw2 hb)
      have HE2 := Lib.hid (HE0.out.ext hw2)
      have HR3 := Lib.hid hr3
      have hz2 := hw2.size
      clear hr1 hr2 hr3 e1 e2 e3 e4 e5 hw2 Q1 Q2 Q3 HD0 hl9
      go_wp2
      have hRd := HRd.out
      subst hRd
      refine bodyPost_ret (v := .agg #[.slice A d.Durable.length c, .slice Ap d.Pending.length cp]) (by simp [results, Try.results68, go_sem, m3]) rfl ?_
      refine PutPost.hand (H := []) HD2.out (Nat.le_refl _) hb ?_ (by simp; omega) HE2.out (by simp) rfl rfl
      repeat (first | with_reducible exact Only.refl _ _ | ((with_reducible apply Only.set); · simp))
  · obtain ⟨h1, h3, h4, h5⟩ := hc
    have hRd : R = diskPut d x.Sector x.Data := by rw [HR.out, doOp, if_neg h2, if_pos h1, diskWriteV, if_pos ⟨h3, h4, h5⟩]
    have hs5 : x.Data.length ≤ 70368744177664 := by omega
    have HS5 := Lib.hid hs5
    have h3b : (x.Kind == 1) = true := by simp [h1]
    have h4b : decide (0 ≤ x.Sector) = true := by simp; omega
    have h5b : decide (x.Sector < (d.Durable.length : Int) / 512) = true := by simp; omega
    have h6b : ((x.Data.length : Int) == 512) = true := by simp; omega
    clear h1 h2 h3 h4 h5 hs5
    have HRd := Lib.hid hRd
    clear hRd
    go_wp2_with fail
    generalize (((w.alloc (.cells #[.slice A d.Durable.length c, .slice Ap d.Pending.length cp] 29)).alloc (.cells #[.int .i64 x.Kind, .int .i64 x.Sector, .slice Ax x.Data.length cx] 90)).alloc (.cells #[.slice none 0 0, .slice none 0 0] 29)) = W0 at hE0 q1 q2 q3 hz0 hD0 hD8 ⊢
    have e1 : W0.cell? ⟨w.heap.size + 1, 0, none⟩ = some (.int .i64 x.Kind) := cell_of_row _ _ 0 _ _ _ q2
    have e2 : W0.cell? ⟨w.heap.size + 1, 1, none⟩ = some (.int .i64 x.Sector) := cell_of_row _ _ 1 _ _ _ q2
    have e3 : W0.cell? ⟨w.heap.size + 1, 2, none⟩ = some (.slice Ax x.Data.length cx) := cell_of_row _ _ 2 _ _ _ q2
    have e4 : W0.cell? ⟨w.heap.size, 0, none⟩ = some (.slice A d.Durable.length c) := cell_of_row _ _ 0 _ _ _ q1
    have e5 : W0.cell? ⟨w.heap.size, 1, none⟩ = some (.slice Ap d.Pending.length cp) := cell_of_row _ _ 1 _ _ _ q1
    have Q1 := Lib.hid q1; have Q2 := Lib.hid q2; have Q3 := Lib.hid q3; have HE0 := Lib.hid hE0; have HD0 := Lib.hid hD0
    have hl9 : d.Durable.length ≤ 9223372036854775807 := by omega
    clear q1 q2 q3 hE0 hD0 hD8
    refine wp_region_ext (by kernel_rfl) (by kernel_rfl) ?_
    repeat (first
      | (refine BigFrame.wpQuiet_skip (by rfl) ?_
         try simp only [Act.put, List.setIfInBounds_toArray, List.set_cons_zero, List.set_cons_succ])
      | (refine quiet_take ?_ (by rfl) (fun w' hw => ?_) ?_
         rotate_left
         · have c1 := hw.ecell e1
           have c2 := hw.ecell e2
           have c3 := hw.ecell e3
           have c4 := hw.ecell e4
           have c5 := hw.ecell e5
           unfold Oper.quietAt
           go_simp
           first
             | done
             | exact ⟨rfl, rfl⟩
             | exact rfl
         try simp only [Act.put, List.setIfInBounds_toArray, List.set_cons_zero, List.set_cons_succ])
      | (refine quiet_take (.int .i64 ((d.Durable.length : Int) / 512)) (by rfl) (fun w' hw => ?_) ?_
         · unfold Oper.quietAt
           go_simp
           exact ((l1Sectors_calls _ _ _ _ _ _ _ hl9).mono (fun e w5 h5 => ⟨h5.1, by rw [h5.2]; exact Only.alloc hw _⟩))
         try simp only [Act.put, List.setIfInBounds_toArray, List.set_cons_zero, List.set_cons_succ]))
    refine wpQuiet_nil ?_
    intro w2 hw2
    have hr3 := hw2.heap Q3.out (by simp)
    have hr1 := hw2.heap Q1.out (by simp)
    have hr2 := hw2.heap Q2.out (by simp)
    have m1 := fun o => cell_of_row _ _ o _ _ _ hr1
    have m2 := fun o => cell_of_row _ _ o _ _ _ hr2
    have m3 := fun o => cell_of_row _ _ o _ _ _ hr3
    have f3 := fun o => frozen_of_row _ _ o _ _ hr3
    have HD2 := Lib.hid (HD0.out.ext hw2 hb)
    have HE2 := Lib.hid (HE0.out.ext hw2)
    have HR3 := Lib.hid hr3
    have hz2 := hw2.size
    clear hr1 hr2 hr3 e1 e2 e3 e4 e5 hw2 Q1 Q2 Q3 HD0 hl9
    go_wp2_with fail
    have he : (Lit.int .i64 x.Sector).wf = true := hwf.2
    refine (l1Put_room _ b n w2 A c _ d HD2.out hb ?_ hv x.Sector he Ax cx x.Data Fx (Rep.sl_ext hx HE2.out) HS5.out).mono ?_
    · intro g hg; exact hPn g (by omega)
    rw [← HRd.out]
    rintro e w5 ⟨B, dd, Ap', cp', n', rfl, hD5, hn5, H5, hO5, hH5⟩
    have hr3 := Only.heap hO5 HR3.out (fun hg => (hH5 _ hg).1.2 (by simp))
    have m3' := fun o => cell_of_row _ _ o _ _ _ hr3
    have f3' := fun o => frozen_of_row _ _ o _ _ hr3
    have HD5 := Lib.hid hD5
    have HO5 := Lib.hid ((HE2.out.more (G := H5) (by simp)).then_ hO5 (fun g hg _ => hg))
    have hz5 := hO5.size
    clear hr3 hD5 hO5 m1 m2 m3 f3
    go_wp2
    refine bodyPost_ret (v := .agg #[.slice B R.Durable.length dd, .slice Ap' R.Pending.length cp']) (by simp [results, Try.results68, go_sem, m3']) rfl ?_
    refine PutPost.hand HD5.out (Nat.le_refl _) hn5 ?_ (by simp; omega) HO5.out (fun g hg _ => ⟨(hH5 g hg).1.1, (hH5 g hg).2⟩) rfl rfl
    repeat (first | with_reducible exact Only.refl _ _ | ((with_reducible apply Only.set); · simp))
end Go.Proofs.Ytdjcfcgkldokgaa
