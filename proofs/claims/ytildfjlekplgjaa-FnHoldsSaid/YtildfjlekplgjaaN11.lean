/- The laws' choice of a byte. -/
import Derived.Test.YtildfjlekplgjaaN10
namespace Go.Proofs.Ytildfjlekplgjaa
open Go.RowKit
set_option linter.unusedSimpArgs false
set_option linter.unusedVariables false
set_option maxRecDepth 100000 in
set_option maxHeartbeats 2000000 in
/-- A choice out of n: whatever it is, it is one of 0 .. n - 1. -/
theorem lwAt_calls (A : Option Addr) (c : Nat) (bs : List Int) (F : List Nat) (w : World) (h : (Rep.int .u8).sl w A c bs F) (hl : bs.length ≤ 1048576) (i n : Int) (hi : 0 ≤ i ∧ i ≤ 1000000) (hn : 2 ≤ n ∧ n ≤ 1048578) :
    Calls Try.prog 24 #[.slice A bs.length c, .int .i64 i, .int .i64 n] w fun e w' => ∃ r : Int, e = .returned (.int .i64 r) ∧ 0 ≤ r ∧ r < n ∧ Ext w w' := by
  obtain ⟨hi0, hi1⟩ := hi; obtain ⟨hn0, hn1⟩ := hn
  have b1 : decide (n ≤ 1) = false := by simp; omega
  have H := Lib.hid h
  have hn2 : ¬ n = 0 := by omega
  by_cases h0 : bs.length = 0
  · have b2 : (((bs.length : Int)) == 0) = true := by simp [h0]
    have hr : 0 ≤ (i * 7) % n ∧ (i * 7) % n < n := ⟨Int.emod_nonneg _ (by omega), Int.emod_lt_of_pos _ (by omega)⟩
    have ht : (i * 7).tmod n = (i * 7) % n := Int.tmod_eq_emod_of_nonneg (by omega)
    clear h h0
    go_enter Try.func24, Try.ntmps24
    go_wp2
    go_ret
    exact ⟨_, rfl, hr.1, hr.2, Only.refl _ _⟩
  have b2 : (((bs.length : Int)) == 0) = false := by simp [h0]
  have hne : ¬ bs = [] := fun e => h0 (by rw [e]; rfl)
  obtain ⟨L, hL⟩ : ∃ L : Int, L = bs.length := ⟨_, rfl⟩
  have hL0 : 0 < L := by omega
  obtain ⟨j, hj⟩ : ∃ j : Int, j = i % L := ⟨_, rfl⟩
  obtain ⟨q, hq⟩ : ∃ q : Int, q = i / L := ⟨_, rfl⟩
  obtain ⟨j', hj'⟩ : ∃ j : Int, j = (i + 1) % L := ⟨_, rfl⟩
  have hj0 : 0 ≤ j ∧ j < L := ⟨by rw [hj]; exact Int.emod_nonneg _ (by omega), by rw [hj]; exact Int.emod_lt_of_pos _ (by omega)⟩
  have hj0' : 0 ≤ j' ∧ j' < L := ⟨by rw [hj']; exact Int.emod_nonneg _ (by omega), by rw [hj']; exact Int.emod_lt_of_pos _ (by omega)⟩
  have hq0 : 0 ≤ q ∧ q ≤ 1000000 := ⟨by rw [hq]; exact Int.ediv_nonneg hi0 (by omega), by rw [hq]; exact Int.le_trans (Int.ediv_le_self _ hi0) hi1⟩
  have t1 : i.tmod bs.length = j := by rw [Int.tmod_eq_emod_of_nonneg hi0, ← hL, ← hj]
  have t2 : IntKind.i64.wrap (i.tdiv bs.length) = q := by rw [Int.tdiv_eq_ediv_of_nonneg hi0, ← hL, ← hq, IntKind.wrap_i64] <;> omega
  have t3 : (i + 1).tmod bs.length = j' := by rw [Int.tmod_eq_emod_of_nonneg (by omega), ← hL, ← hj']
  have p1 : j < (bs.length : Int) := by omega
  have p2 : j' < (bs.length : Int) := by omega
  obtain ⟨hj0, -⟩ := hj0; obtain ⟨hj0', -⟩ := hj0'; obtain ⟨hq0, hq1⟩ := hq0
  have k1 : j.toNat < bs.length := by omega
  have k2 : j'.toNat < bs.length := by omega
  obtain ⟨g, off, rfl, hg, -, a0, e0⟩ := Rep.sl_int h j.toNat k1
  obtain ⟨g', off', e', -, -, a1, e1⟩ := Rep.sl_int h j'.toNat k2
  injection e' with e'
  injection e' with u1 u2
  subst u1; subst u2
  generalize bs[j.toNat] = x at *
  generalize bs[j'.toNat] = y at *
  have hx : 0 ≤ x ∧ x ≤ 255 := by simpa [Lit.wf, IntKind.min, IntKind.max, IntKind.signed, IntKind.bits] using e0
  have hy : 0 ≤ y ∧ y ≤ 255 := by simpa [Lit.wf, IntKind.min, IntKind.max, IntKind.signed, IntKind.bits] using e1
  obtain ⟨hx0, hx1⟩ := hx; obtain ⟨hy0, hy1⟩ := hy
  have w1 : IntKind.i64.wrap x = x := by rw [IntKind.wrap_i64] <;> omega
  have w2 : IntKind.i64.wrap y = y := by rw [IntKind.wrap_i64] <;> omega
  have w3 : IntKind.i64.wrap (x + q) = x + q := by rw [IntKind.wrap_i64] <;> omega
  have w4 : IntKind.i64.wrap ((x + q) * 37) = (x + q) * 37 := by rw [IntKind.wrap_i64] <;> omega
  have w5 : IntKind.i64.wrap ((x + q) * 37 + y) = (x + q) * 37 + y := by rw [IntKind.wrap_i64] <;> omega
  clear hL hL0 hj hq hj' k1 k2 e0 e1 h h0
  by_cases hb : 200 < n
  · have b3 : decide (200 < n) = true := by simp [hb]
    obtain ⟨v, hv⟩ : ∃ v, v = (x + q) * 37 + y := ⟨_, rfl⟩
    have hr : 0 ≤ v % n ∧ v % n < n := ⟨Int.emod_nonneg _ (by omega), Int.emod_lt_of_pos _ (by omega)⟩
    have ht : v.tmod n = v % n := Int.tmod_eq_emod_of_nonneg (by omega)
    rw [hv] at ht
    have HR := Lib.hid hr; have HV := Lib.hid hv
    clear hr hb hv
    go_enter Try.func24, Try.ntmps24
    go_wp2_with fail
    refine region_ext (by kernel_rfl) (by kernel_rfl) ?_
    repeat (first
      | (refine WQ.skip (by rfl) ?_
         try simp only [Act.put, List.setIfInBounds_toArray, List.set_cons_zero, List.set_cons_succ])
      | (refine WQ.take ?_ (by rfl) (fun w' hw => ?_) ?_
         rotate_left
         · have cq0 := hw.ecell a0
           have cq1 := hw.ecell a1
           unfold Oper.quietAt
           go_simp
           first
             | done
             | exact ⟨rfl, rfl⟩
             | exact rfl
         try simp only [Act.put, List.setIfInBounds_toArray, List.set_cons_zero, List.set_cons_succ]))
    refine WQ.nil ?_
    intro wq hw2
    have c1 := hw2.ecell a1
    have HE := Lib.hid hw2
    clear hw2 a0 a1
    go_wp2
    go_ret
    exact ⟨_, rfl, by rw [← HV.out]; exact HR.out.1, by rw [← HV.out]; exact HR.out.2, HE.out⟩
  · have b3 : decide (200 < n) = false := by simp; omega
    have hr : 0 ≤ (x + q) % n ∧ (x + q) % n < n := ⟨Int.emod_nonneg _ (by omega), Int.emod_lt_of_pos _ (by omega)⟩
    have ht : (x + q).tmod n = (x + q) % n := Int.tmod_eq_emod_of_nonneg (by omega)
    have HR := Lib.hid hr
    clear hr hb
    go_enter Try.func24, Try.ntmps24
    go_wp2_with fail
    refine region_ext (by kernel_rfl) (by kernel_rfl) ?_
    repeat (first
      | (refine WQ.skip (by rfl) ?_
         try simp only [Act.put, List.setIfInBounds_toArray, List.set_cons_zero, List.set_cons_succ])
      | (refine WQ.take ?_ (by rfl) (fun w' hw => ?_) ?_
         rotate_left
         · have cq0 := hw.ecell a0
           have cq1 := hw.ecell a1
           unfold Oper.quietAt
           go_simp
           first
             | done
             | exact ⟨rfl, rfl⟩
             | exact rfl
         try simp only [Act.put, List.setIfInBounds_toArray, List.set_cons_zero, List.set_cons_succ]))
    refine WQ.nil ?_
    intro wq hw2
    have HE := Lib.hid hw2
    clear hw2 a0 a1
    go_wp2
    go_ret
    exact ⟨_, rfl, HR.out.1, HR.out.2, HE.out⟩
theorem lwN_calls (A : Option Addr) (c : Nat) (bs : List Int) (F : List Nat) (w : World) (h : (Rep.int .u8).sl w A c bs F) (hl : bs.length ≤ 1048576) (i : Int) (n : Nat) (nz : Int) (hnz : nz = n) (hi : 0 ≤ i ∧ i ≤ 1000000) (hn : 2 ≤ n ∧ n ≤ 1048578) :
    Calls Try.prog 24 #[.slice A bs.length c, .int .i64 i, .int .i64 nz] w fun e w' => ∃ r : Nat, e = .returned (.int .i64 r) ∧ r < n ∧ Ext w w' := by
  subst hnz
  refine (lwAt_calls A c bs F w h hl i n hi ⟨by omega, by omega⟩).mono ?_
  rintro e w' ⟨r, rfl, h1, h2, h3⟩
  exact ⟨r.toNat, by rw [Int.toNat_of_nonneg h1], by omega, h3⟩
end Go.Proofs.Ytildfjlekplgjaa
