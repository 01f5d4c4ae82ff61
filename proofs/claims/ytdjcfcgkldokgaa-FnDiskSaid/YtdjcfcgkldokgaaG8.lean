/- FnDisk: two disks of the same data are told to be the same. -/
import Derived.Test.YtdjcfcgkldokgaaG6
import Derived.Test.YtdjcfcgkldokgaaQX
namespace Go.Proofs.Ytdjcfcgkldokgaa
open Go.RowKit
set_option linter.unusedSimpArgs false
set_option linter.unusedVariables false
theorem sameBytes_same (w : World) (A : Option Addr) (c : Nat) (xs : List Int) (F : List Nat) (B : Option Addr) (d : Nat) (G : List Nat) (h : (Rep.int .u8).sl w A c xs F) (k : (Rep.int .u8).sl w B d xs G) (n : Nat) (hn : n = xs.length) :
    Calls Try.prog 42 #[.slice A n c, .slice B n d] w fun e w' => e = .returned (.bool true) ∧ Ext w w' := by
  subst hn
  refine (lwSameBytes_calls w A c xs F B d xs G h k).mono ?_
  rintro e w' ⟨rfl, hE⟩
  exact ⟨by simp, hE⟩
set_option maxRecDepth 100000 in
set_option maxHeartbeats 4000000 in
theorem lwSameDisk_calls (w : World) (A1 : Option Addr) (c1 : Nat) (A2 : Option Addr) (c2 : Nat) (B1 : Option Addr) (e1 : Nat) (B2 : Option Addr) (e2 : Nat) (d : DDisk) (F1 F2 G1 G2 : List Nat) (p1 : (Rep.int .u8).sl w A1 c1 d.Durable F1) (p2 : Rep.SectorWrite.sl w A2 c2 d.Pending F2)
    (q1 : (Rep.int .u8).sl w B1 e1 d.Durable G1) (q2 : Rep.SectorWrite.sl w B2 e2 d.Pending G2) :
    Calls Try.prog 40 #[.agg #[.slice A1 d.Durable.length c1, .slice A2 d.Pending.length c2], .agg #[.slice B1 d.Durable.length e1, .slice B2 d.Pending.length e2]] w fun e w' => e = .returned (.bool true) ∧ Hid (Ext w w') := by
  have hu := Try.underlying29
  have hu2 := Try.underlying64
  obtain ⟨L, hL⟩ : ∃ L, L = d.Durable.length := ⟨_, rfl⟩
  obtain ⟨N, hN⟩ : ∃ N, N = d.Pending.length := ⟨_, rfl⟩
  have hNm : N ≤ maxLen := by rw [hN]; exact Nat.le_trans p2.1 p2.2.1
  unfold maxLen at hNm
  rw [← hL, ← hN]
  have P1 := Lib.hid p1; have P2 := Lib.hid p2; have Q1 := Lib.hid q1; have Q2 := Lib.hid q2; have HL := Lib.hid hL; have HN := Lib.hid hN
  have hE := (alloc_ext w (.cells #[.slice A1 L c1, .slice A2 N c2] 29)).ext (alloc_ext _ (.cells #[.slice B1 L e1, .slice B2 N e2] 29))
  have HE := Lib.hid hE
  have HB1 := Lib.hid ((alloc_ext _ (.cells #[.slice B1 L e1, .slice B2 N e2] 29)).heap (heap_alloc_new w (.cells #[.slice A1 L c1, .slice A2 N c2] 29)) (by simp))
  have HB2 := Lib.hid (heap_at (w.alloc (.cells #[.slice A1 L c1, .slice A2 N c2] 29)) (.cells #[.slice B1 L e1, .slice B2 N e2] 29) (k := w.heap.size + 1) (by simp))
  have m1 := fun o => cell_of_row _ _ o _ _ _ HB1.out
  have m2 := fun o => cell_of_row _ _ o _ _ _ HB2.out
  clear p1 p2 q1 q2 hL hN hE
  go_enter Try.func40, Try.ntmps40
  go_wp2_with (go_at_call 42; refine (sameBytes_same _ A1 c1 d.Durable F1 B1 e1 G1 (Rep.sl_ext P1.out HE.out) (Rep.sl_ext Q1.out HE.out) L HL.out).mono ?_; rintro e w3 ⟨rfl, hE3⟩; have HE3 := Lib.hid hE3; have HW3 := Lib.hid (HE.out.ext hE3); clear hE3)
  have HC1 := Lib.hid (HE3.out.heap HB1.out (by simp))
  have HC2 := Lib.hid (HE3.out.heap HB2.out (by simp))
  clear m1 m2 HB1 HB2 HE3 HE
  go_loopg [5] N (fun m i wr => ∃ j : Nat, m + j = N ∧ i = .int .i64 j ∧ Hid (Ext w3 wr))
  case atStart => exact ⟨0, by simp, rfl, Lib.hid (Only.refl _ _)⟩
  case round =>
    obtain ⟨j, hj, rfl, HX⟩ := hrel
    have HD1 := Lib.hid (HX.out.heap HC1.out (by simp))
    have HD2 := Lib.hid (HX.out.heap HC2.out (by simp))
    have m1 := fun o => cell_of_row _ _ o _ _ _ HD1.out
    have m2 := fun o => cell_of_row _ _ o _ _ _ HD2.out
    by_cases hlt : j < N
    · have HJ := Lib.hid hj
      clear hj
      obtain ⟨g, off, Aj, cj, Fj, rfl, hg, hwf, t1, k0, k1⟩ := sl_SectorWrite (Rep.sl_ext P2.out (HW3.out.ext HX.out)) j (by have := HN.out; omega)
      obtain ⟨g', off', Bj, dj, Gj, rfl, hg', hwf', t1', k0', k1'⟩ := sl_SectorWrite (Rep.sl_ext Q2.out (HW3.out.ext HX.out)) j (by have := HN.out; omega)
      have HT := Lib.hid t1; have HT' := Lib.hid t1'
      have hltI : (j : Int) < (N : Int) := by omega
      have hlti' : ¬ (N : Int) ≤ (j : Int) := by omega
      generalize d.Pending[j] = x at *
      obtain ⟨xl, hxl⟩ : ∃ n, n = x.Data.length := ⟨_, rfl⟩
      rw [← hxl] at k1 k1'
      have HXL := Lib.hid hxl
      clear t1 t1' hwf hwf' hxl
      go_wp2_with fail
      refine region_ext (by kernel_rfl) (by kernel_rfl) ?_
      repeat (first
        | (refine WQ.skip (by rfl) ?_
           try simp only [Act.put, List.setIfInBounds_toArray, List.set_cons_zero, List.set_cons_succ])
        | (refine WQ.take ?_ (by rfl) (fun w' hw => ?_) ?_
           rotate_left
           · have n1 := fun o => cell_of_row _ _ o _ _ _ (hw.heap HD1.out (by simp))
             have n2 := fun o => cell_of_row _ _ o _ _ _ (hw.heap HD2.out (by simp))
             have q0 := hw.ecell k0
             have q1 := hw.ecell k1
             have q0' := hw.ecell k0'
             have q1' := hw.ecell k1'
             unfold Oper.quietAt
             go_simp
             first
               | done
               | exact ⟨rfl, rfl⟩
               | exact rfl
           try simp only [Act.put, List.setIfInBounds_toArray, List.set_cons_zero, List.set_cons_succ])
        | (refine WQ.take (.bool true) (by rfl) (fun w' hw => ?_) ?_
           · unfold Oper.quietAt
             go_simp
             go_at_call 42
             exact ((sameBytes_same w' Aj cj x.Data Fj Bj dj Gj (Rep.sl_ext HT.out hw) (Rep.sl_ext HT'.out hw) xl HXL.out).mono (fun e w5 h5 => ⟨h5.1, hw.ext h5.2⟩))
           try simp only [Act.put, List.setIfInBounds_toArray, List.set_cons_zero, List.set_cons_succ]))
      refine WQ.nil ?_
      intro w9 hw9
      have HE9 := Lib.hid (HX.out.ext hw9)
      clear hw9 k0 k1 k0' k1' m1 m2
      go_wp2
      go_roundg (N - (j + 1))
      case measure => have := HJ.out; omega
      case rel => exact ⟨j + 1, by have := HJ.out; omega, by go_num, HE9⟩
    · obtain rfl : j = N := by omega
      clear hj hlt
      go_wp2
      go_ret
      exact ⟨rfl, Lib.hid (HW3.out.ext HX.out)⟩
end Go.Proofs.Ytdjcfcgkldokgaa
