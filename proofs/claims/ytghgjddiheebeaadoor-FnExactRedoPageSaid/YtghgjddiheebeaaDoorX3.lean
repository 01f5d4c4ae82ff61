/- Is a page in order: the model; the program's PageFault. -/
import Derived.Test.YtghgjddiheebeaaDoorX2
namespace Go.Proofs.YtghgjddiheebeaaDoor
open Go.RowKit
set_option linter.unusedSimpArgs false
set_option linter.unusedVariables false
open Classical in
/-- What is wrong with a slot. -/
noncomputable def slBad (p : List Int) (bt : Int) (i : Nat) : Bool := decide ((slO p i = 0 ∧ slN p i ≠ 0) ∨ (slO p i ≠ 0 ∧ (slN p i > 1000 ∨ slO p i < bt ∨ slO p i + slN p i > 4096)))
def cov (p : List Int) (i : Nat) (k : Int) : Prop := slO p i ≤ k ∧ k < slO p i + slN p i
open Classical in
noncomputable def pageFault (p : List Int) (num : Int) : Int :=
  if p.length ≠ 4096 then 1 else if beAt p 12 4 ≠ num then 2 else if beAt p 4 8 > 1099511627776 ∨ beAt p 18 2 ≠ 0 then 3
  else if beAt p 16 2 < 148 ∨ beAt p 16 2 > 4096 then 4 else if ∃ i, i < 32 ∧ slBad p (beAt p 16 2) i = true then 5
  else if ∃ i j k, i < 32 ∧ j < i ∧ cov p i k ∧ cov p j k then 6 else 0
theorem beAt_u64 {p : List Int} (hw : ∀ z ∈ p, 0 ≤ z ∧ z ≤ 255) (i : Nat) : 0 ≤ beAt p i 8 ∧ beAt p i 8 ≤ 18446744073709551615 := by
  obtain ⟨h1, h2⟩ := beAt_range2 hw i 8
  have h3 := pow256_mono (a := ((p.drop i).take 8).length) (b := 8) (by simp; omega)
  have h4 : (256 : Int) ^ 8 = 18446744073709551616 := by decide
  omega
theorem sl_some {w : World} {A : Option Addr} {c : Nat} {p : List Int} {F : List Nat} (h : (Rep.int .u8).sl w A c p F) (hp : 0 < p.length) : ∃ g off, A = some ⟨g, off, none⟩ := by
  obtain ⟨g, off, rfl, -⟩ := Rep.sl_int h 0 hp
  exact ⟨g, off, rfl⟩
theorem implFault_len (w : World) (A : Option Addr) (n c : Nat) (num : Int) (hp : ¬ n = 4096) :
    Calls Tryd.prog 81 #[.slice A n c, .int .i64 num] w fun e w' => e = .returned (.int .i64 1) ∧ Ext w w' := by
  have hp' : ¬ (n : Int) = 4096 := by omega
  go_enter Tryd.func81, Tryd.ntmps81
  go_wp2
  go_ret
  exact ⟨rfl, Only.refl _ _⟩
set_option maxRecDepth 100000 in
set_option maxHeartbeats 8000000 in
theorem implFault_head (w : World) (g off c : Nat) (p : List Int) (F : List Nat) (h : (Rep.int .u8).sl w (some ⟨g, off, none⟩) c p F) (hp : p.length = 4096) (num : Int) (R : Int)
    (hR : R = if beAt p 12 4 ≠ num then 2 else if beAt p 4 8 > 1099511627776 ∨ beAt p 18 2 ≠ 0 then 3 else 4)
    (hx : beAt p 12 4 ≠ num ∨ beAt p 4 8 > 1099511627776 ∨ beAt p 18 2 ≠ 0 ∨ beAt p 16 2 < 148 ∨ beAt p 16 2 > 4096) :
    Calls Tryd.prog 81 #[.slice (some ⟨g, off, none⟩) 4096 c, .int .i64 num] w fun e w' => e = .returned (.int .i64 R) ∧ Ext w w' := by
  have hw : ∀ z ∈ p, 0 ≤ z ∧ z ≤ 255 := fun z hz => Lib.byte_of_wf (sl_wf h z hz)
  have HS := Lib.hid h; have HP := Lib.hid hp
  have hpc := h.1
  rw [hp] at hpc
  obtain ⟨r1, r2⟩ := beAt_u32 hw 12
  obtain ⟨r3, r4⟩ := beAt_u64 hw 4
  obtain ⟨r5, r6⟩ := beAt_u16 hw 18
  obtain ⟨r7, r8⟩ := beAt_u16 hw 16
  obtain ⟨x, hx1⟩ : ∃ x, x = beAt p 12 4 := ⟨_, rfl⟩
  obtain ⟨l, hx2⟩ : ∃ x, x = beAt p 4 8 := ⟨_, rfl⟩
  obtain ⟨z, hx3⟩ : ∃ x, x = beAt p 18 2 := ⟨_, rfl⟩
  obtain ⟨b, hx4⟩ : ∃ x, x = beAt p 16 2 := ⟨_, rfl⟩
  rw [← hx1] at r1 r2 hR hx
  rw [← hx2] at r3 r4 hR hx
  rw [← hx3] at r5 r6 hR hx
  rw [← hx4] at r7 r8 hx
  have HX1 := Lib.hid hx1; have HX2 := Lib.hid hx2; have HX3 := Lib.hid hx3; have HX4 := Lib.hid hx4
  clear hx1 hx2 hx3 hx4
  have e1 : IntKind.i64.wrap x = x := by rw [IntKind.wrap_i64]; omega
  have e2 : IntKind.i64.wrap b = b := by rw [IntKind.wrap_i64]; omega
  have f1 : ¬ c = 12 := by omega
  have f2 : ¬ c = 4 := by omega
  have f3 : ¬ c = 18 := by omega
  have f4 : ¬ c = 16 := by omega
  clear h hp hw
  by_cases h1 : x = num
  case neg =>
    rw [if_pos h1] at hR
    subst hR
    have h1' : (x == num) = false := by simpa using h1
    go_enter Tryd.func81, Tryd.ntmps81
    go_wp2_with fail
    refine region_ext (by kernel_rfl) (by kernel_rfl) ?_
    repeat (first
      | (refine WQ.skip (by rfl) ?_
         try simp only [Act.put, List.setIfInBounds_toArray, List.set_cons_zero, List.set_cons_succ])
      | (refine WQ.take ?_ (by rfl) (fun w' hw => ?_) ?_
         rotate_left
         · unfold Oper.quietAt
           go_simp
           first
             | done
             | exact ⟨rfl, rfl⟩
             | exact rfl
         try simp only [Act.put, List.setIfInBounds_toArray, List.set_cons_zero, List.set_cons_succ])
      | (refine WQ.take (.int .u32 x) (by rfl) (fun w' hw => ?_) ?_
         · unfold Oper.quietAt
           go_simp
           go_at_call 109
           exact ((beU32_calls _ _ _ _ _ _ _ _ (Rep.sl_ext HS.out hw) 12 (by have := HP.out; omega) (by omega)).mono (fun e w5 h5 => ⟨by rw [h5.1, HX1.out], hw.ext h5.2⟩))
         try simp only [Act.put, List.setIfInBounds_toArray, List.set_cons_zero, List.set_cons_succ]))
    refine WQ.nil ?_
    intro w2 hw2
    have HE2 := Lib.hid hw2
    clear hw2
    go_wp2
    go_ret
    exact ⟨rfl, HE2.out⟩
  rw [if_neg (by simpa using h1)] at hR
  replace hx := hx.resolve_left (fun h => h h1)
  subst h1
  by_cases h2 : l > 1099511627776
  · rw [if_pos (.inl h2)] at hR
    subst hR
    go_enter Tryd.func81, Tryd.ntmps81
    go_wp2_with fail
    refine region_ext (by kernel_rfl) (by kernel_rfl) ?_
    repeat (first
      | (refine WQ.skip (by rfl) ?_
         try simp only [Act.put, List.setIfInBounds_toArray, List.set_cons_zero, List.set_cons_succ])
      | (refine WQ.take ?_ (by rfl) (fun w' hw => ?_) ?_
         rotate_left
         · unfold Oper.quietAt
           go_simp
           first
             | done
             | exact ⟨rfl, rfl⟩
             | exact rfl
         try simp only [Act.put, List.setIfInBounds_toArray, List.set_cons_zero, List.set_cons_succ])
      | (refine WQ.take (.int .u32 x) (by rfl) (fun w' hw => ?_) ?_
         · unfold Oper.quietAt
           go_simp
           go_at_call 109
           exact ((beU32_calls _ _ _ _ _ _ _ _ (Rep.sl_ext HS.out hw) 12 (by have := HP.out; omega) (by omega)).mono (fun e w5 h5 => ⟨by rw [h5.1, HX1.out], hw.ext h5.2⟩))
         try simp only [Act.put, List.setIfInBounds_toArray, List.set_cons_zero, List.set_cons_succ]))
    refine WQ.nil ?_
    intro w2 hw2
    have HE2 := Lib.hid hw2
    clear hw2
    go_wp2_with fail
    refine region_ext (by kernel_rfl) (by kernel_rfl) ?_
    repeat (first
      | (refine WQ.skip (by rfl) ?_
         try simp only [Act.put, List.setIfInBounds_toArray, List.set_cons_zero, List.set_cons_succ])
      | (refine WQ.take ?_ (by rfl) (fun w' hw => ?_) ?_
         rotate_left
         · unfold Oper.quietAt
           go_simp
           first
             | done
             | exact ⟨rfl, rfl⟩
             | exact rfl
         try simp only [Act.put, List.setIfInBounds_toArray, List.set_cons_zero, List.set_cons_succ])
      | (refine WQ.take (.int .u64 l) (by rfl) (fun w' hw => ?_) ?_
         · unfold Oper.quietAt
           go_simp
           go_at_call 113
           exact ((beU64_calls _ _ _ _ _ _ _ _ (Rep.sl_ext HS.out (HE2.out.ext hw)) 4 (by have := HP.out; omega) (by omega)).mono (fun e w5 h5 => ⟨by rw [h5.1, HX2.out], hw.ext h5.2⟩))
         try simp only [Act.put, List.setIfInBounds_toArray, List.set_cons_zero, List.set_cons_succ])
      | (refine WQ.take (.int .u16 z) (by rfl) (fun w' hw => ?_) ?_
         · unfold Oper.quietAt
           go_simp
           go_at_call 65
           exact ((beU16_calls _ _ _ _ _ _ _ _ (Rep.sl_ext HS.out (HE2.out.ext hw)) 18 (by have := HP.out; omega) (by omega)).mono (fun e w5 h5 => ⟨by rw [h5.1, HX3.out], hw.ext h5.2⟩))
         try simp only [Act.put, List.setIfInBounds_toArray, List.set_cons_zero, List.set_cons_succ])
      | (refine WQ.take (.int .u16 0) (by rfl) (fun w' hw => ?_) ?_
         · unfold Oper.quietAt
           go_simp
           go_at_call 65
           exact ((beU16_calls _ _ _ _ _ _ _ _ (Rep.sl_ext HS.out (HE2.out.ext hw)) 18 (by have := HP.out; omega) (by omega)).mono (fun e w5 h5 => ⟨by rw [h5.1, HX3.out], hw.ext h5.2⟩))
         try simp only [Act.put, List.setIfInBounds_toArray, List.set_cons_zero, List.set_cons_succ]))
    refine WQ.nil ?_
    intro w3 hw3
    have HE3 := Lib.hid (HE2.out.ext hw3)
    clear hw3
    go_wp2
    go_ret
    exact ⟨rfl, HE3.out⟩
  have h2' : ¬ 1099511627776 < l := by omega
  have h2d : decide (1099511627776 < l) = false := by simp; omega
  by_cases h3 : z = 0
  case neg =>
    rw [if_pos (.inr h3)] at hR
    subst hR
    have h3' : (z == 0) = false := by simpa using h3
    go_enter Tryd.func81, Tryd.ntmps81
    go_wp2_with fail
    refine region_ext (by kernel_rfl) (by kernel_rfl) ?_
    repeat (first
      | (refine WQ.skip (by rfl) ?_
         try simp only [Act.put, List.setIfInBounds_toArray, List.set_cons_zero, List.set_cons_succ])
      | (refine WQ.take ?_ (by rfl) (fun w' hw => ?_) ?_
         rotate_left
         · unfold Oper.quietAt
           go_simp
           first
             | done
             | exact ⟨rfl, rfl⟩
             | exact rfl
         try simp only [Act.put, List.setIfInBounds_toArray, List.set_cons_zero, List.set_cons_succ])
      | (refine WQ.take (.int .u32 x) (by rfl) (fun w' hw => ?_) ?_
         · unfold Oper.quietAt
           go_simp
           go_at_call 109
           exact ((beU32_calls _ _ _ _ _ _ _ _ (Rep.sl_ext HS.out hw) 12 (by have := HP.out; omega) (by omega)).mono (fun e w5 h5 => ⟨by rw [h5.1, HX1.out], hw.ext h5.2⟩))
         try simp only [Act.put, List.setIfInBounds_toArray, List.set_cons_zero, List.set_cons_succ]))
    refine WQ.nil ?_
    intro w2 hw2
    have HE2 := Lib.hid hw2
    clear hw2
    go_wp2_with fail
    refine region_ext (by kernel_rfl) (by kernel_rfl) ?_
    repeat (first
      | (refine WQ.skip (by rfl) ?_
         try simp only [Act.put, List.setIfInBounds_toArray, List.set_cons_zero, List.set_cons_succ])
      | (refine WQ.take ?_ (by rfl) (fun w' hw => ?_) ?_
         rotate_left
         · unfold Oper.quietAt
           go_simp
           first
             | done
             | exact ⟨rfl, rfl⟩
             | exact rfl
         try simp only [Act.put, List.setIfInBounds_toArray, List.set_cons_zero, List.set_cons_succ])
      | (refine WQ.take (.int .u64 l) (by rfl) (fun w' hw => ?_) ?_
         · unfold Oper.quietAt
           go_simp
           go_at_call 113
           exact ((beU64_calls _ _ _ _ _ _ _ _ (Rep.sl_ext HS.out (HE2.out.ext hw)) 4 (by have := HP.out; omega) (by omega)).mono (fun e w5 h5 => ⟨by rw [h5.1, HX2.out], hw.ext h5.2⟩))
         try simp only [Act.put, List.setIfInBounds_toArray, List.set_cons_zero, List.set_cons_succ])
      | (refine WQ.take (.int .u16 z) (by rfl) (fun w' hw => ?_) ?_
         · unfold Oper.quietAt
           go_simp
           go_at_call 65
           exact ((beU16_calls _ _ _ _ _ _ _ _ (Rep.sl_ext HS.out (HE2.out.ext hw)) 18 (by have := HP.out; omega) (by omega)).mono (fun e w5 h5 => ⟨by rw [h5.1, HX3.out], hw.ext h5.2⟩))
         try simp only [Act.put, List.setIfInBounds_toArray, List.set_cons_zero, List.set_cons_succ])
      | (refine WQ.take (.int .u16 0) (by rfl) (fun w' hw => ?_) ?_
         · unfold Oper.quietAt
           go_simp
           go_at_call 65
           exact ((beU16_calls _ _ _ _ _ _ _ _ (Rep.sl_ext HS.out (HE2.out.ext hw)) 18 (by have := HP.out; omega) (by omega)).mono (fun e w5 h5 => ⟨by rw [h5.1, HX3.out], hw.ext h5.2⟩))
         try simp only [Act.put, List.setIfInBounds_toArray, List.set_cons_zero, List.set_cons_succ]))
    refine WQ.nil ?_
    intro w3 hw3
    have HE3 := Lib.hid (HE2.out.ext hw3)
    clear hw3
    go_wp2
    go_ret
    exact ⟨rfl, HE3.out⟩
  rw [if_neg (fun h => h.elim h2 (fun h => h h3))] at hR
  replace hx := (hx.resolve_left h2).resolve_left (fun h => h h3)
  subst h3; subst hR
  rcases hx with h4 | h4
  all_goals
    go_enter Tryd.func81, Tryd.ntmps81
    go_wp2_with fail
    refine region_ext (by kernel_rfl) (by kernel_rfl) ?_
    repeat (first
      | (refine WQ.skip (by rfl) ?_
         try simp only [Act.put, List.setIfInBounds_toArray, List.set_cons_zero, List.set_cons_succ])
      | (refine WQ.take ?_ (by rfl) (fun w' hw => ?_) ?_
         rotate_left
         · unfold Oper.quietAt
           go_simp
           first
             | done
             | exact ⟨rfl, rfl⟩
             | exact rfl
         try simp only [Act.put, List.setIfInBounds_toArray, List.set_cons_zero, List.set_cons_succ])
      | (refine WQ.take (.int .u32 x) (by rfl) (fun w' hw => ?_) ?_
         · unfold Oper.quietAt
           go_simp
           go_at_call 109
           exact ((beU32_calls _ _ _ _ _ _ _ _ (Rep.sl_ext HS.out hw) 12 (by have := HP.out; omega) (by omega)).mono (fun e w5 h5 => ⟨by rw [h5.1, HX1.out], hw.ext h5.2⟩))
         try simp only [Act.put, List.setIfInBounds_toArray, List.set_cons_zero, List.set_cons_succ]))
    refine WQ.nil ?_
    intro w2 hw2
    have HE2 := Lib.hid hw2
    clear hw2
    go_wp2_with fail
    refine region_ext (by kernel_rfl) (by kernel_rfl) ?_
    repeat (first
      | (refine WQ.skip (by rfl) ?_
         try simp only [Act.put, List.setIfInBounds_toArray, List.set_cons_zero, List.set_cons_succ])
      | (refine WQ.take ?_ (by rfl) (fun w' hw => ?_) ?_
         rotate_left
         · unfold Oper.quietAt
           go_simp
           first
             | done
             | exact ⟨rfl, rfl⟩
             | exact rfl
         try simp only [Act.put, List.setIfInBounds_toArray, List.set_cons_zero, List.set_cons_succ])
      | (refine WQ.take (.int .u64 l) (by rfl) (fun w' hw => ?_) ?_
         · unfold Oper.quietAt
           go_simp
           go_at_call 113
           exact ((beU64_calls _ _ _ _ _ _ _ _ (Rep.sl_ext HS.out (HE2.out.ext hw)) 4 (by have := HP.out; omega) (by omega)).mono (fun e w5 h5 => ⟨by rw [h5.1, HX2.out], hw.ext h5.2⟩))
         try simp only [Act.put, List.setIfInBounds_toArray, List.set_cons_zero, List.set_cons_succ])
      | (refine WQ.take (.int .u16 z) (by rfl) (fun w' hw => ?_) ?_
         · unfold Oper.quietAt
           go_simp
           go_at_call 65
           exact ((beU16_calls _ _ _ _ _ _ _ _ (Rep.sl_ext HS.out (HE2.out.ext hw)) 18 (by have := HP.out; omega) (by omega)).mono (fun e w5 h5 => ⟨by rw [h5.1, HX3.out], hw.ext h5.2⟩))
         try simp only [Act.put, List.setIfInBounds_toArray, List.set_cons_zero, List.set_cons_succ])
      | (refine WQ.take (.int .u16 0) (by rfl) (fun w' hw => ?_) ?_
         · unfold Oper.quietAt
           go_simp
           go_at_call 65
           exact ((beU16_calls _ _ _ _ _ _ _ _ (Rep.sl_ext HS.out (HE2.out.ext hw)) 18 (by have := HP.out; omega) (by omega)).mono (fun e w5 h5 => ⟨by rw [h5.1, HX3.out], hw.ext h5.2⟩))
         try simp only [Act.put, List.setIfInBounds_toArray, List.set_cons_zero, List.set_cons_succ]))
    refine WQ.nil ?_
    intro w3 hw3
    have HE3 := Lib.hid (HE2.out.ext hw3)
    clear hw3
    go_wp2_with fail
    refine region_ext (by kernel_rfl) (by kernel_rfl) ?_
    repeat (first
      | (refine WQ.skip (by rfl) ?_
         try simp only [Act.put, List.setIfInBounds_toArray, List.set_cons_zero, List.set_cons_succ])
      | (refine WQ.take ?_ (by rfl) (fun w' hw => ?_) ?_
         rotate_left
         · unfold Oper.quietAt
           go_simp
           first
             | done
             | exact ⟨rfl, rfl⟩
             | exact rfl
         try simp only [Act.put, List.setIfInBounds_toArray, List.set_cons_zero, List.set_cons_succ])
      | (refine WQ.take (.int .u16 b) (by rfl) (fun w' hw => ?_) ?_
         · unfold Oper.quietAt
           go_simp
           go_at_call 65
           exact ((beU16_calls _ _ _ _ _ _ _ _ (Rep.sl_ext HS.out (HE3.out.ext hw)) 16 (by have := HP.out; omega) (by omega)).mono (fun e w5 h5 => ⟨by rw [h5.1, HX4.out], hw.ext h5.2⟩))
         try simp only [Act.put, List.setIfInBounds_toArray, List.set_cons_zero, List.set_cons_succ]))
    refine WQ.nil ?_
    intro w4 hw4
    have HE4 := Lib.hid (HE3.out.ext hw4)
    clear hw4
    go_wp2
    go_ret
    exact ⟨rfl, HE4.out⟩
end Go.Proofs.YtghgjddiheebeaaDoor
