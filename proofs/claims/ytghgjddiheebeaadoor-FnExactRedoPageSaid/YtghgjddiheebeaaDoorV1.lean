/- RedoPage: the model; PageLSN of both packages. -/
import Derived.Test.YtghgjddiheebeaaDoorZ5
import Derived.Test.YtghgjddiheebeaaDoorFLogFrame
namespace Go.Proofs.YtghgjddiheebeaaDoor
open Go.RowKit
set_option linter.unusedSimpArgs false
set_option linter.unusedVariables false
noncomputable def pageLsn (p : List Int) : Int := if wellF p = true then beAt p 4 8 else -1
/-- One frame redone; none: PageSet refuses. -/
noncomputable def redoStep (num fr : Int) (P : List Int) (f : DLogFrame) : Option (List Int) :=
  if (f.Record.Kind = 1 ∨ f.Record.Kind = 2) ∧ f.Record.Page = num ∧ fr ≤ f.LSN ∧ pageLsn P < f.LSN then
    (if (pageSet P f.Record.Slot f.Record.After f.LSN).Code = 0 then some (pageSet P f.Record.Slot f.Record.After f.LSN).Page else none)
  else some P
noncomputable def redoUp (fs : List DLogFrame) (num fr : Int) (P : List Int) : Nat → Option (List Int)
  | 0 => some P
  | k + 1 => (redoUp fs num fr P k).bind fun Q => match fs[k]? with
    | some f => redoStep num fr Q f
    | none => some Q
theorem redoUp_at {fs : List DLogFrame} {num fr : Int} {P : List Int} (k : Nat) (hk : k < fs.length) : redoUp fs num fr P (k + 1) = (redoUp fs num fr P k).bind fun Q => redoStep num fr Q fs[k] := by
  rw [redoUp, List.getElem?_eq_getElem hk]
theorem redoUp_none {fs : List DLogFrame} {num fr : Int} {P : List Int} {k : Nat} (h : redoUp fs num fr P k = none) : ∀ m, k ≤ m → redoUp fs num fr P m = none := by
  intro m hm
  induction m with
  | zero => have : k = 0 := by omega
            subst this; exact h
  | succ m ih =>
    rcases Nat.lt_or_ge k (m + 1) with h1 | h1
    · rw [redoUp, ih (by omega)]; rfl
    · have : k = m + 1 := by omega
      subst this; exact h
theorem pageSet_len {p : List Int} {sl : Int} {r : DPageRecord} {lsn : Int} (h : (pageSet p sl r lsn).Code = 0) : (pageSet p sl r lsn).Page.length = 4096 := by
  revert h
  unfold pageSet
  split
  · intro h; cases h
  · split
    · intro h; cases h
    · split
      · rename_i h1; exact fun _ => h1
      · intro h; cases h
theorem redoUp_len {fs : List DLogFrame} {num fr : Int} {P : List Int} (hP : P.length = 4096) : ∀ k Q, redoUp fs num fr P k = some Q → Q.length = 4096
  | 0, Q, h => by
    injection h with h
    subst h; exact hP
  | k + 1, Q, h => by
    rw [redoUp] at h
    cases h1 : redoUp fs num fr P k with
    | none => rw [h1] at h; cases h
    | some Q1 =>
      rw [h1] at h
      have ih := redoUp_len hP k Q1 h1
      simp only [Option.bind_some] at h
      split at h
      · unfold redoStep at h
        split at h
        · split at h
          · rename_i hc
            injection h with h
            subst h
            exact pageSet_len hc
          · cases h
        · injection h with h
          subst h; exact ih
      · injection h with h
        subst h; exact ih
noncomputable def redoPage (p : List Int) (num : Int) (fs : List DLogFrame) (fr : Int) : DPageResult :=
  if pageFault p num ≠ 0 then ⟨1, []⟩ else match redoUp fs num fr p fs.length with
    | none => ⟨2, []⟩
    | some P => if P.length = 4096 then ⟨0, P⟩ else ⟨3, []⟩
theorem redoPage_ct (p : List Int) (num : Int) (fs : List DLogFrame) (fr : Int) : ctTopPageResult (redoPage p num fs fr) ≤ 1152921504606846976 := by
  have h1 := ctTopPageResult_wt (redoPage p num fs fr)
  have h2 : (redoPage p num fs fr).Page.length ≤ 4096 := by
    unfold redoPage
    split
    · simp
    · split
      · simp
      · split
        · rename_i h; exact Nat.le_of_eq h
        · simp
  simp only [wtPageResult] at h1
  omega
theorem numAt_ok {p : List Int} (hw : ∀ z ∈ p, 0 ≤ z ∧ z ≤ 255) (i : Nat) (h : beAt p i 8 ≤ 1099511627776) : numAt p i 8 = beAt p i 8 := by
  have h1 := numAt_lsn hw i
  have h2 : ¬ numAt p i 8 < 0 := fun hn => by have := h1.1 (.inl hn); omega
  revert h2
  show ¬ getNum ((p.drop i).take 8) < 0 → getNum ((p.drop i).take 8) = Lib.beZ ((p.drop i).take 8)
  unfold getNum
  split
  · intro h; exact absurd (by decide) h
  · intro _; rfl
theorem specPageLSN_calls (w : World) (A : Option Addr) (c : Nat) (p : List Int) (F : List Nat) (h : (Rep.int .u8).sl w A c p F) :
    Calls Tryd.prog 97 #[.slice A p.length c] w fun e w' => e = .returned (.int .i64 (pageLsn p)) ∧ Ext w w' := by
  have HOW := Lib.hid (fun W (hW : Ext w W) => l3Own_calls W A c p F (Rep.sl_ext h hW))
  by_cases hw : wellF p = true
  · have hW := Wf.of h hw
    obtain ⟨g, off, rfl⟩ := sl_some h (by rw [hW.len]; omega)
    rw [show pageLsn p = beAt p 4 8 from if_pos hw]
    have HC8 := Lib.hid (fun W (hE : Ext w W) => by
      have h := l3Number_calls W g off c p F (Rep.sl_ext h hE) 4 8 (by decide) (by decide) (by rw [hW.len]; omega) 4 8 rfl rfl (by rw [hW.len]; omega)
      rw [numAt_ok hW.byte 4 (fault_zero hW.zero).2.2.1] at h
      exact h)
    rw [hw] at HOW
    clear h hw hW
    go_enter Tryd.func97, Tryd.ntmps97
    go_wp2_with (first
      | (go_at_call 50; refine (HOW.out _ (Only.refl _ _)).mono ?_; rintro e w1 ⟨rfl, hE⟩; have HE1 := Lib.hid hE; clear hE)
      | (go_at_call 108; refine (HC8.out _ HE1.out).mono ?_; rintro e w2 ⟨rfl, hE⟩; have HE2 := Lib.hid (HE1.out.ext hE); clear hE))
    go_ret
    exact ⟨rfl, HE2.out⟩
  · rw [show pageLsn p = -1 from if_neg hw]
    rw [show wellF p = false by simpa using hw] at HOW
    clear h hw
    go_enter Tryd.func97, Tryd.ntmps97
    go_wp2_with (go_at_call 50; refine (HOW.out _ (Only.refl _ _)).mono ?_; rintro e w1 ⟨rfl, hE⟩; have HE1 := Lib.hid hE; clear hE)
    go_ret
    exact ⟨rfl, HE1.out⟩
theorem implPageLSN_calls (w : World) (A : Option Addr) (c : Nat) (p : List Int) (F : List Nat) (h : (Rep.int .u8).sl w A c p F) :
    Calls Tryd.prog 99 #[.slice A p.length c] w fun e w' => e = .returned (.int .i64 (pageLsn p)) ∧ Ext w w' := by
  have HOW := Lib.hid (fun W (hW : Ext w W) => wellFormed_calls W A c p F (Rep.sl_ext h hW))
  by_cases hw : wellF p = true
  · have hW := Wf.of h hw
    obtain ⟨g, off, rfl⟩ := sl_some h (by rw [hW.len]; omega)
    rw [show pageLsn p = beAt p 4 8 from if_pos hw]
    have hpc := h.1
    rw [hW.len] at hpc HOW ⊢
    obtain ⟨l, hl⟩ : ∃ l, l = beAt p 4 8 := ⟨_, rfl⟩
    have hl2 := (fault_zero hW.zero).2.2.1
    have hl1 := (beAt_u64 hW.byte 4).1
    rw [← hl] at hl1 hl2 ⊢
    have HBT := Lib.hid (show (Ending.returned (.int .u64 (beAt p 4 8)) = Ending.returned (.int .u64 l)) by rw [hl])
    have HL16 := Lib.hid (show 4 + 8 ≤ p.length ∧ 8 ≤ 4096 - 4 by rw [hW.len]; omega)
    have HS := Lib.hid h
    have e1 : IntKind.i64.wrap l = l := by rw [IntKind.wrap_i64]; omega
    have f1 : ¬ c = 4 := by omega
    rw [hw] at HOW
    clear h hw hW hl
    go_enter Tryd.func99, Tryd.ntmps99
    go_wp2_with (go_at_call 55; refine (HOW.out _ (Only.refl _ _)).mono ?_; rintro e w1 ⟨rfl, hE⟩; have HE1 := Lib.hid hE; clear hE)
    refine region_ext (by kernel_rfl) (by kernel_rfl) ?_
    repeat (first
      | (refine WQ.skip (by rfl) ?_
         try simp only [Act.put, List.setIfInBounds_toArray, List.set_cons_zero, List.set_cons_succ])
      | (refine WQ.take ?_ (by rfl) (fun w' hw => ?_) ?_
         rotate_left
         · unfold Oper.quietAt
           go_simp
           first
             | done
             | exact ⟨rfl, rfl⟩
             | exact rfl
         try simp only [Act.put, List.setIfInBounds_toArray, List.set_cons_zero, List.set_cons_succ])
      | (refine WQ.take ((.int .u64 l)) (by rfl) (fun w' hw => ?_) ?_
         · unfold Oper.quietAt
           go_simp
           go_at_call 113
           exact ((beU64_calls _ _ _ _ _ _ _ _ (Rep.sl_ext HS.out (HE1.out.ext hw)) 4 HL16.out.1 HL16.out.2).mono (fun e w5 h5 => ⟨h5.1.trans HBT.out, hw.ext h5.2⟩))
         try simp only [Act.put, List.setIfInBounds_toArray, List.set_cons_zero, List.set_cons_succ]))
    refine WQ.nil ?_
    intro w2 hw2
    have HE2 := Lib.hid (HE1.out.ext hw2)
    clear hw2
    go_wp2
    go_ret
    exact ⟨rfl, HE2.out⟩
  · rw [show pageLsn p = -1 from if_neg hw]
    rw [show wellF p = false by simpa using hw] at HOW
    clear h hw
    go_enter Tryd.func99, Tryd.ntmps99
    go_wp2_with (go_at_call 55; refine (HOW.out _ (Only.refl _ _)).mono ?_; rintro e w1 ⟨rfl, hE⟩; have HE1 := Lib.hid hE; clear hE)
    go_ret
    exact ⟨rfl, HE1.out⟩
end Go.Proofs.YtghgjddiheebeaaDoor
