/- The laws' choice of a byte; a crash's choices. -/
import Derived.Test.YtdjcfcgkldokgaaB
import Derived.Test.YtdjcfcgkldokgaaQT
import Derived.Deep.DeepCutAuto
import Derived.Deep.CutRange
namespace Go.Proofs.Ytdjcfcgkldokgaa
open Go.RowKit
set_option linter.unusedSimpArgs false
set_option linter.unusedVariables false
set_option maxRecDepth 100000 in
set_option maxHeartbeats 2000000 in
/-- A choice out of n: whatever it is, it is one of 0 .. n - 1. -/
theorem lwAt_calls (A : Option Addr) (c : Nat) (bs : List Int) (F : List Nat) (w : World) (h : (Rep.int .u8).sl w A c bs F) (hl : bs.length ≤ 1048576) (i n : Int) (hi : 0 ≤ i ∧ i ≤ 1000000) (hn : 2 ≤ n ∧ n ≤ 1048578) :
    Calls Try.prog 39 #[.slice A bs.length c, .int .i64 i, .int .i64 n] w fun e w' => ∃ r : Int, e = .returned (.int .i64 r) ∧ 0 ≤ r ∧ r < n ∧ Ext w w' := by
  obtain ⟨hi0, hi1⟩ := hi; obtain ⟨hn0, hn1⟩ := hn
  have b1 : decide (n ≤ 1) = false := by simp; omega
  have H := Lib.hid h
  have hn2 : ¬ n = 0 := by omega
  by_cases h0 : bs.length = 0
  · have b2 : (((bs.length : Int)) == 0) = true := by simp [h0]
    have hr : 0 ≤ (i * 7) % n ∧ (i * 7) % n < n := ⟨Int.emod_nonneg _ (by omega), Int.emod_lt_of_pos _ (by omega)⟩
    have ht : (i * 7).tmod n = (i * 7) % n := Int.tmod_eq_emod_of_nonneg (by omega)
    clear h h0
    go_enter Try.func39, Try.ntmps39
    go_wp2
    go_ret
    exact ⟨_, rfl, hr.1, hr.2, Only.refl _ _⟩
  have b2 : (((bs.length : Int)) == 0) = false := by simp [h0]
  have hne : ¬ bs = [] := fun e => h0 (by rw [e]; rfl)
  obtain ⟨L, hL⟩ : ∃ L : Int, L = bs.length := ⟨_, rfl⟩
  have hL0 : 0 < L := by omega
  obtain ⟨j, hj⟩ : ∃ j : Int, j = i % L := ⟨_, rfl⟩
  obtain ⟨q, hq⟩ : ∃ q : Int, q = i / L := ⟨_, rfl⟩
  obtain ⟨j', hj'⟩ : ∃ j : Int, j = (i + 1) % L := ⟨_, rfl⟩
  have hj0 : 0 ≤ j ∧ j < L := ⟨by rw [hj]; exact Int.emod_nonneg _ (by omega), by rw [hj]; exact Int.emod_lt_of_pos _ (by omega)⟩
  have hj0' : 0 ≤ j' ∧ j' < L := ⟨by rw [hj']; exact Int.emod_nonneg _ (by omega), by rw [hj']; exact Int.emod_lt_of_pos _ (by omega)⟩
  have hq0 : 0 ≤ q ∧ q ≤ 1000000 := ⟨by rw [hq]; exact Int.ediv_nonneg hi0 (by omega), by rw [hq]; exact Int.le_trans (Int.ediv_le_self _ hi0) hi1⟩
  have t1 : i.tmod bs.length = j := by rw [Int.tmod_eq_emod_of_nonneg hi0, ← hL, ← hj]
  have t2 : IntKind.i64.wrap (i.tdiv bs.length) = q := by rw [Int.tdiv_eq_ediv_of_nonneg hi0, ← hL, ← hq, IntKind.wrap_i64] <;> omega
  have t3 : (i + 1).tmod bs.length = j' := by rw [Int.tmod_eq_emod_of_nonneg (by omega), ← hL, ← hj']
  have p1 : j < (bs.length : Int) := by omega
  have p2 : j' < (bs.length : Int) := by omega
  obtain ⟨hj0, -⟩ := hj0; obtain ⟨hj0', -⟩ := hj0'; obtain ⟨hq0, hq1⟩ := hq0
  have k1 : j.toNat < bs.length := by omega
  have k2 : j'.toNat < bs.length := by omega
  obtain ⟨g, off, rfl, hg, -, a0, e0⟩ := Rep.sl_int h j.toNat k1
  obtain ⟨g', off', e', -, -, a1, e1⟩ := Rep.sl_int h j'.toNat k2
  injection e' with e'
  injection e' with u1 u2
  subst u1; subst u2
  generalize bs[j.toNat] = x at *
  generalize bs[j'.toNat] = y at *
  have hx : 0 ≤ x ∧ x ≤ 255 := by simpa [Lit.wf, IntKind.min, IntKind.max, IntKind.signed, IntKind.bits] using e0
  have hy : 0 ≤ y ∧ y ≤ 255 := by simpa [Lit.wf, IntKind.min, IntKind.max, IntKind.signed, IntKind.bits] using e1
  obtain ⟨hx0, hx1⟩ := hx; obtain ⟨hy0, hy1⟩ := hy
  have w1 : IntKind.i64.wrap x = x := by rw [IntKind.wrap_i64] <;> omega
  have w2 : IntKind.i64.wrap y = y := by rw [IntKind.wrap_i64] <;> omega
  have w3 : IntKind.i64.wrap (x + q) = x + q := by rw [IntKind.wrap_i64] <;> omega
  have w4 : IntKind.i64.wrap ((x + q) * 37) = (x + q) * 37 := by rw [IntKind.wrap_i64] <;> omega
  have w5 : IntKind.i64.wrap ((x + q) * 37 + y) = (x + q) * 37 + y := by rw [IntKind.wrap_i64] <;> omega
  clear hL hL0 hj hq hj' k1 k2 e0 e1 h h0
  by_cases hb : 200 < n
  · have b3 : decide (200 < n) = true := by simp [hb]
    obtain ⟨v, hv⟩ : ∃ v, v = (x + q) * 37 + y := ⟨_, rfl⟩
    have hr : 0 ≤ v % n ∧ v % n < n := ⟨Int.emod_nonneg _ (by omega), Int.emod_lt_of_pos _ (by omega)⟩
    have ht : v.tmod n = v % n := Int.tmod_eq_emod_of_nonneg (by omega)
    rw [hv] at ht
    have HR := Lib.hid hr; have HV := Lib.hid hv
    clear hr hb hv
    go_enter Try.func39, Try.ntmps39
    go_wp2_with fail
    refine region_ext (by kernel_rfl) (by kernel_rfl) ?_
    repeat (first
      | (refine WQ.skip (by rfl) ?_
         try simp only [Act.put, List.setIfInBounds_toArray, List.set_cons_zero, List.set_cons_succ])
      | (refine WQ.take ?_ (by rfl) (fun w' hw => ?_) ?_
         rotate_left
         · have cq0 := hw.ecell a0
           have cq1 := hw.ecell a1
           unfold Oper.quietAt
           go_simp
           first
             | done
             | exact ⟨rfl, rfl⟩
             | exact rfl
         try simp only [Act.put, List.setIfInBounds_toArray, List.set_cons_zero, List.set_cons_succ]))
    refine WQ.nil ?_
    intro wq hw2
    have c1 := hw2.ecell a1
    have HE := Lib.hid hw2
    clear hw2 a0 a1
    go_wp2
    go_ret
    exact ⟨_, rfl, by rw [← HV.out]; exact HR.out.1, by rw [← HV.out]; exact HR.out.2, HE.out⟩
  · have b3 : decide (200 < n) = false := by simp; omega
    have hr : 0 ≤ (x + q) % n ∧ (x + q) % n < n := ⟨Int.emod_nonneg _ (by omega), Int.emod_lt_of_pos _ (by omega)⟩
    have ht : (x + q).tmod n = (x + q) % n := Int.tmod_eq_emod_of_nonneg (by omega)
    have HR := Lib.hid hr
    clear hr hb
    go_enter Try.func39, Try.ntmps39
    go_wp2_with fail
    refine region_ext (by kernel_rfl) (by kernel_rfl) ?_
    repeat (first
      | (refine WQ.skip (by rfl) ?_
         try simp only [Act.put, List.setIfInBounds_toArray, List.set_cons_zero, List.set_cons_succ])
      | (refine WQ.take ?_ (by rfl) (fun w' hw => ?_) ?_
         rotate_left
         · have cq0 := hw.ecell a0
           have cq1 := hw.ecell a1
           unfold Oper.quietAt
           go_simp
           first
             | done
             | exact ⟨rfl, rfl⟩
             | exact rfl
         try simp only [Act.put, List.setIfInBounds_toArray, List.set_cons_zero, List.set_cons_succ]))
    refine WQ.nil ?_
    intro wq hw2
    have HE := Lib.hid hw2
    clear hw2 a0 a1
    go_wp2
    go_ret
    exact ⟨_, rfl, HR.out.1, HR.out.2, HE.out⟩
theorem lwN_calls (A : Option Addr) (c : Nat) (bs : List Int) (F : List Nat) (w : World) (h : (Rep.int .u8).sl w A c bs F) (hl : bs.length ≤ 1048576) (i : Int) (n : Nat) (nz : Int) (hnz : nz = n) (hi : 0 ≤ i ∧ i ≤ 1000000) (hn : 2 ≤ n ∧ n ≤ 1048578) :
    Calls Try.prog 39 #[.slice A bs.length c, .int .i64 i, .int .i64 nz] w fun e w' => ∃ r : Nat, e = .returned (.int .i64 r) ∧ r < n ∧ Ext w w' := by
  subst hnz
  refine (lwAt_calls A c bs F w h hl i n hi ⟨by omega, by omega⟩).mono ?_
  rintro e w' ⟨r, rfl, h1, h2, h3⟩
  exact ⟨r.toNat, by rw [Int.toNat_of_nonneg h1], by omega, h3⟩
theorem infoI64 : (Try.prog.info? 2).map (fun i => (i.zero, i.size, i.bytes)) = some (some (.int .i64 0), 1, 8) := by kernel_rfl
def KeepPost (w : World) (e : Ending) (w' : World) : Prop := ∃ (A : Option Addr) (c : Nat) (ks : List Int) (F : List Nat), e = .returned (.slice A ks.length c) ∧ Hid (ks.length = 60) ∧ Hid ((Rep.int .i64).sl w' A c ks F) ∧ Hid (∀ g ∈ F, w.heap.size ≤ g) ∧ Hid (Ext w w')
set_option maxRecDepth 100000 in
set_option maxHeartbeats 4000000 in
theorem lwKeep_calls (A : Option Addr) (c : Nat) (bs : List Int) (F : List Nat) (w : World) (h : (Rep.int .u8).sl w A c bs F) (hl : bs.length ≤ 1048576) :
    Calls Try.prog 41 #[.slice A bs.length c, .int .i64 1] w (KeepPost w) := by
  have H := Lib.hid h
  obtain ⟨i0, hi, hz0, hz1, hz2⟩ := info_parts infoI64
  clear h
  go_enter Try.func41, Try.ntmps41
  go_wp2_with (go_at_call 39; refine (lwN_calls A c bs F _ (Rep.sl_ext H.out (alloc_ext _ _)) hl 1 5 _ rfl (by decide) (by decide)).mono ?_; rintro e w1 ⟨ln, rfl, hln, hE1⟩; have HE1 := Lib.hid ((alloc_ext w (.cells #[] 2)).ext hE1); have HO0 := Lib.hid ((Own.made (r := Rep.int .i64) (e := 2) (Nat.le_refl w.heap.size) #[] 0 (by simp) rfl).ext hE1); clear hE1)
  go_loopg [7, 5] 60 (fun m i l wr => ∃ (k : Nat) (ks : List Int) (Al : Option Addr) (cl : Nat), m + k = 60 ∧ i = .int .i64 k ∧ l = .slice Al ks.length cl ∧ Hid (ks.length = k) ∧ Hid (Own (Rep.int .i64) 2 w.heap.size wr (.slice Al ks.length cl) ks) ∧ Hid (Ext w wr))
  case atStart => exact ⟨0, [], _, 0, by simp, rfl, rfl, Lib.hid rfl, HO0, HE1⟩
  case round =>
    obtain ⟨k, ks, Al, cl, hk, rfl, rfl, HL, HO, HX⟩ := hrel
    have HK := Lib.hid hk
    by_cases hlt : k < 60
    · have e1 : IntKind.i64.wrap (1 + (k : Int)) = 1 + (k : Int) := by rw [IntKind.wrap_i64] <;> omega
      clear hk
      go_wp2_with (go_at_call 39; refine (lwN_calls A c bs F _ (Rep.sl_ext H.out HX.out) hl _ 2 _ rfl (by omega) (by decide)).mono ?_; rintro e w2 ⟨v, rfl, hv, hE2⟩; have HE2 := Lib.hid hE2; clear hE2; refine Hid.out ?_)
      refine Lib.hid ?_
      go_upto_if 23 with fail
      obtain ⟨b0, hb0⟩ : ∃ b, b = ((ln : Int) == 0) := ⟨_, rfl⟩
      rw [← hb0]
      clear hb0
      go_cut [8] from 24 to 33 (fun s wx => ∃ q : Nat, s = .int .i64 (q : Int) ∧ q < 2 ∧ Hid (Ext wr wx))
      case first =>
        cases b0
        all_goals
          go_wp2
          go_meet
          first
            | exact ⟨1, rfl, by decide, HE2⟩
            | exact ⟨v, rfl, hv, HE2⟩
      case rest =>
      obtain ⟨q1, rfl, hq1, HE3⟩ := hcut
      clear HE2 hv
      go_upto_region 9 with fail
      go_cut [33] from 24 to 33 (fun s wx => ∃ b : Bool, s = .bool b ∧ Hid (Ext wr wx))
      case first =>
        by_cases h1 : ln = 1
        · subst h1
          go_wp2_with (go_at_call 39; refine (lwN_calls A c bs F _ (Rep.sl_ext H.out (HX.out.ext HE3.out)) hl _ 5 _ rfl (by omega) (by decide)).mono ?_; rintro e w3 ⟨u, rfl, hu, hE4⟩; have HE4 := Lib.hid (HE3.out.ext hE4); clear hE4)
          all_goals (go_meet; exact ⟨_, rfl, HE4⟩)
        · have b1 : ((ln : Int) == 1) = false := by simp; omega
          go_wp2
          all_goals (go_meet; exact ⟨_, rfl, HE3⟩)
      case rest =>
      obtain ⟨b2, rfl, HE4⟩ := hcut
      clear HE3
      go_upto_if 33 with fail
      go_cut [8] from 34 to 35 (fun s wx => ∃ q : Nat, s = .int .i64 (q : Int) ∧ q < 2 ∧ Hid (Ext wr wx))
      case first =>
        cases b2
        all_goals
          go_wp2
          go_meet
          first
            | exact ⟨1, rfl, by decide, HE4⟩
            | exact ⟨q1, rfl, hq1, HE4⟩
      case rest =>
      obtain ⟨q2, rfl, hq2, HE5⟩ := hcut
      clear HE4 hq1
      go_upto_if 35 with fail
      obtain ⟨b3, hb3⟩ : ∃ b, b = ((ln : Int) == 2) := ⟨_, rfl⟩
      rw [← hb3]
      clear hb3
      go_cut [8] from 36 to 39 (fun s wx => ∃ q : Nat, s = .int .i64 (q : Int) ∧ q < 2 ∧ Hid (Ext wr wx))
      case first =>
        cases b3
        all_goals
          go_wp2
          go_meet
          first
            | exact ⟨0, rfl, by decide, HE5⟩
            | exact ⟨q2, rfl, hq2, HE5⟩
      case rest =>
        obtain ⟨q, rfl, hq, HE4⟩ := hcut
        have HEW := Lib.hid (show Ext wr (wc.alloc (.cells #[.int .i64 (q : Int)] 2)) from HE4.out.alloc _)
        obtain ⟨cs, ho, hle, happ⟩ := Own.app HO.out HEW.out (by simp) (NewIn.nil _ _) (x := (q : Int)) (c := [.int .i64 (q : Int)]) ⟨rfl, rfl, by simp only [Lit.wf, IntKind.min, IntKind.max, IntKind.signed, IntKind.bits]; simp; omega⟩
        have HAPP := Lib.hid happ
        have HOWN := Lib.hid ho
        have hkl : ks.length ≤ 60 := by have := HL.out; omega
        clear happ ho
        go_wp2_with (at_builtin; go_must (refine wpList_append_own_at _ rfl _ _ 40 rfl w.heap.size 2 i0 _ 1 8 Try.underlying40 hi hz0 hz1 hz2 rfl (by decide) (.slice Al ks.length cl) ks.length cs rfl HOWN.out ⟨wc.heap.size, 0, none⟩ 1 1 [.int .i64 (q : Int)] rfl rfl (cells_new' _ _ _ rfl) (by intro u hu; simp at hu; subst hu; rfl) (by unfold maxLen; omega) (by omega) hle ?_); intro v' w' hown hgrow hnil hat; obtain ⟨Av, cv, rfl⟩ := ownsRow_form hown; have HR := Lib.hid (HAPP.out _ w' hown hgrow hat); clear hown hgrow hnil hat)
        go_roundg (60 - (k + 1))
        case measure => have := HK.out; omega
        case rel =>
          have hlq : (ks ++ [(q : Int)]).length = ks.length + 1 := by simp
          exact ⟨k + 1, ks ++ [(q : Int)], Av, cv, by have := HK.out; omega, by go_num, by rw [hlq], Lib.hid (by rw [hlq, HL.out]), by rw [hlq]; exact Lib.hid HR.out.1, Lib.hid (HR.out.2 [] w (HX.out.ext HEW.out) (Nat.le_refl _))⟩
    · obtain rfl : k = 60 := by omega
      obtain ⟨Fr, hV, hF⟩ := HO.out.done
      obtain ⟨A', c', he, q⟩ := Rep.slice_V hV
      injection he with e1 e2 e3
      subst e1; subst e3
      have HQ := Lib.hid q; have HF := Lib.hid hF
      clear hk hV q hF
      go_wp2
      go_ret
      exact ⟨Al, cl, ks, Fr, rfl, HL, HQ, Lib.hid HF.out.ge, HX⟩
end Go.Proofs.Ytdjcfcgkldokgaa
