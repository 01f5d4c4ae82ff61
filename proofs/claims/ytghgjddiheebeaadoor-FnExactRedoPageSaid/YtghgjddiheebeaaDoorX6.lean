/- Well-formedness: the program's. -/
import Derived.Test.YtghgjddiheebeaaDoorX5
namespace Go.Proofs.YtghgjddiheebeaaDoor
open Go.RowKit
set_option linter.unusedSimpArgs false
set_option linter.unusedVariables false
noncomputable def wellF (p : List Int) : Bool := decide (p.length = 4096) && decide (pageFault p (beAt p 12 4) = 0)
set_option maxRecDepth 100000 in
set_option maxHeartbeats 4000000 in
theorem wellFormed_calls (w : World) (A : Option Addr) (c : Nat) (p : List Int) (F : List Nat) (h : (Rep.int .u8).sl w A c p F) :
    Calls Tryd.prog 55 #[.slice A p.length c] w fun e w' => e = .returned (.bool (wellF p)) ∧ Ext w w' := by
  by_cases hp : p.length = 4096
  case neg =>
    have hR : wellF p = false := by simp [wellF, hp]
    rw [hR]
    have hp' : ¬ (p.length : Int) = 4096 := by omega
    have hp2 : ((p.length : Int) == 4096) = false := by simpa using hp'
    clear hp hR h
    go_enter Tryd.func55, Tryd.ntmps55
    go_wp2_with fail
    refine region_ext (by kernel_rfl) (by kernel_rfl) ?_
    repeat (first
      | (refine WQ.skip (by rfl) ?_
         try simp only [Act.put, List.setIfInBounds_toArray, List.set_cons_zero, List.set_cons_succ])
      | (refine WQ.take ?_ (by rfl) (fun w' hw => ?_) ?_
         rotate_left
         · unfold Oper.quietAt
           go_simp
           first
             | done
             | exact ⟨rfl, rfl⟩
             | exact rfl
         try simp only [Act.put, List.setIfInBounds_toArray, List.set_cons_zero, List.set_cons_succ]))
    refine WQ.nil ?_
    intro w2 hw2
    have HE2 := Lib.hid hw2
    clear hw2
    go_wp2
    go_ret
    exact ⟨rfl, HE2.out⟩
  obtain ⟨g, off, rfl⟩ := sl_some h (by omega)
  have hw : ∀ z ∈ p, 0 ≤ z ∧ z ≤ 255 := fun z hz => Lib.byte_of_wf (sl_wf h z hz)
  obtain ⟨r1, r2⟩ := beAt_u32 hw 12
  have hpc := h.1
  rw [hp] at hpc
  have hPF := fun w' (hE : Ext w w') => implPageFault_calls w' _ c p F (Rep.sl_ext h hE) (beAt p 12 4)
  obtain ⟨x, hx1⟩ : ∃ x, x = beAt p 12 4 := ⟨_, rfl⟩
  obtain ⟨f, hf⟩ : ∃ x, x = pageFault p (beAt p 12 4) := ⟨_, rfl⟩
  have hR : wellF p = (f == 0) := by
    rw [wellF, ← hf, decide_eq_true hp, Bool.true_and]
    by_cases h0 : f = 0 <;> simp [h0]
  rw [hR, hp]
  rw [hp, ← hf, ← hx1] at hPF
  have HPF := Lib.hid hPF
  rw [← hx1] at r1 r2
  have HS := Lib.hid h; have HP := Lib.hid hp; have HX1 := Lib.hid hx1
  have e1 : IntKind.i64.wrap x = x := by rw [IntKind.wrap_i64]; omega
  have f1 : ¬ c = 12 := by omega
  clear h hp hw hPF hx1 hf hR
  go_enter Tryd.func55, Tryd.ntmps55
  go_wp2_with fail
  refine region_ext (by kernel_rfl) (by kernel_rfl) ?_
  repeat (first
    | (refine WQ.skip (by rfl) ?_
       try simp only [Act.put, List.setIfInBounds_toArray, List.set_cons_zero, List.set_cons_succ])
    | (refine WQ.take ?_ (by rfl) (fun w' hw => ?_) ?_
       rotate_left
       · unfold Oper.quietAt
         go_simp
         first
           | done
           | exact ⟨rfl, rfl⟩
           | exact rfl
       try simp only [Act.put, List.setIfInBounds_toArray, List.set_cons_zero, List.set_cons_succ])
    | (refine WQ.take (.int .u32 x) (by rfl) (fun w' hw => ?_) ?_
       · unfold Oper.quietAt
         go_simp
         go_at_call 109
         exact ((beU32_calls _ _ _ _ _ _ _ _ (Rep.sl_ext HS.out hw) 12 (by have := HP.out; omega) (by omega)).mono (fun e w5 h5 => ⟨by rw [h5.1, HX1.out], hw.ext h5.2⟩))
       try simp only [Act.put, List.setIfInBounds_toArray, List.set_cons_zero, List.set_cons_succ])
    | (refine WQ.take (.int .i64 f) (by rfl) (fun w' hw => ?_) ?_
       · unfold Oper.quietAt
         go_simp
         go_at_call 81
         exact ((HPF.out _ hw).mono (fun e w5 h5 => ⟨h5.1, hw.ext h5.2⟩))
       try simp only [Act.put, List.setIfInBounds_toArray, List.set_cons_zero, List.set_cons_succ]))
  refine WQ.nil ?_
  intro w2 hw2
  have HE2 := Lib.hid hw2
  clear hw2
  go_wp2
  go_ret
  exact ⟨rfl, HE2.out⟩
end Go.Proofs.YtghgjddiheebeaaDoor
