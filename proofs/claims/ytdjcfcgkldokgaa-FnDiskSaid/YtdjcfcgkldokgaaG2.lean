/- The draws: an operation. -/
import Derived.Test.YtdjcfcgkldokgaaG1
import Derived.Test.YtdjcfcgkldokgaaFOp
namespace Go.Proofs.Ytdjcfcgkldokgaa
open Go.RowKit
set_option linter.unusedSimpArgs false
set_option linter.unusedVariables false
def OpP (sb N : Nat) (w : World) (e : Ending) (w' : World) : Prop := ∃ (k s : Int) (A : Option Addr) (c : Nat) (xs : List Int) (F : List Nat), e = .returned (.agg #[.int .i64 k, .int .i64 s, .slice A xs.length c]) ∧
  Hid ((Lit.int .i64 k).wf = true ∧ (Lit.int .i64 s).wf = true ∧ xs.length ≤ 512) ∧ Hid ((Rep.int .u8).sl w' A c xs F) ∧ Hid (NewIn w.heap.size w' F) ∧ Hid (Src sb N w') ∧ Hid (Only [sb] w w')
theorem small64 {v : Int} (h1 : -1048576 ≤ v) (h2 : v ≤ 1048576) : (Lit.int .i64 v).wf = true := by
  simp only [Lit.wf, IntKind.min, IntKind.max, IntKind.signed, IntKind.bits]
  simp
  omega
theorem OpP.none_ {sb N : Nat} {w w' : World} (k s : Int) (hk : (Lit.int .i64 k).wf = true) (hs : (Lit.int .i64 s).wf = true) (h : Src sb N w') (hO : Only [sb] w w') : OpP sb N w (.returned (.agg #[.int .i64 k, .int .i64 s, .slice none 0 0])) w' :=
  ⟨k, s, none, 0, [], [], rfl, Lib.hid ⟨hk, hs, by simp⟩, Lib.hid (Rep.sl_nil (by simp)), Lib.hid (NewIn.nil _ _), Lib.hid h, Lib.hid hO⟩
theorem OpP.some_ {sb N n g : Nat} {w w' : World} {xs : List Int} (k s : Int) (hk : (Lit.int .i64 k).wf = true) (hs : (Lit.int .i64 s).wf = true) (hl : xs.length = n) (hn : n ≤ 512) (hB : BB g xs w') (hg : w.heap.size ≤ g) (h : Src sb N w') (hO : Only [sb] w w') : OpP sb N w (.returned (.agg #[.int .i64 k, .int .i64 s, .slice (some ⟨g, 0, none⟩) n n])) w' := by
  subst hl
  exact ⟨k, s, _, _, xs, [g], rfl, Lib.hid ⟨hk, hs, hn⟩, Lib.hid (hB.sl (by unfold maxLen; omega)), Lib.hid ⟨fun x hx => by simp at hx; omega, fun x hx => by simp at hx; subst hx; exact (Array.getElem?_eq_some_iff.1 hB.1).1, by simp, hB.unfr⟩, Lib.hid h, Lib.hid hO⟩
set_option maxRecDepth 100000 in
set_option maxHeartbeats 4000000 in
theorem l1DrawOp_calls (sb N : Nat) (w : World) (h : Src sb N w) (hN : N ≤ 800000) (n : Int) (hn : n ≤ 1048576) (hn0 : -1048576 ≤ n) :
    Calls Try.prog 75 #[.pointer (some ⟨sb, 0, none⟩), .int .i64 n] w (OpP sb (N + 9) w) := by
  have hu := Try.underlying90
  have hlt := h.lt
  have H := Lib.hid (h.ext (alloc_ext w (.cells #[.int .i64 0, .int .i64 0, .slice none 0 0] 90)))
  have HB := Lib.hid (heap_alloc_new w (.cells #[.int .i64 0, .int .i64 0, .slice none 0 0] 90))
  have HE := Lib.hid (alloc_ext w (.cells #[.int .i64 0, .int .i64 0, .slice none 0 0] 90))
  have hwn := small64 hn0 hn
  have HWN := Lib.hid hwn
  clear h hwn
  go_enter Try.func75, Try.ntmps75
  go_wp2_with (go_at_call 74; refine (l1Next_calls sb N _ H.out (by omega) 10 (by decide)).mono ?_; rintro e w1 ⟨r, rfl, hr, HS1, HO1⟩; refine Hid.out ?_)
  refine Lib.hid ?_
  have HB1 := Lib.hid (HO1.out.heap HB.out (by simp; omega))
  have HOW := Lib.hid (show Only [sb] w w1 from (HE.out.more (by simp)).trans HO1.out)
  have hsz : w.heap.size < w1.heap.size := (Array.getElem?_eq_some_iff.1 HB1.out).1
  clear H HB HE HO1 hr
  by_cases hr2 : r < 2
  · have b1 : ((r : Int)) < 2 := by omega
    have m := fun o => cell_of_row _ _ o _ _ _ HB1.out
    have f := fun o => frozen_of_row _ _ o _ _ HB1.out
    clear hr2
    go_wp2
    refine bodyPost_ret (v := .agg #[.int .i64 2, .int .i64 0, .slice none 0 0]) (by simp [results, Try.results75, go_sem, m]) rfl ?_
    have hO2 : Only [w.heap.size] w1 (((w1.setCell ⟨w.heap.size, 0, none⟩ (.int .i64 2)).setCell ⟨w.heap.size, 1, none⟩ (.int .i64 0)).setCell ⟨w.heap.size, 2, none⟩ (.slice none 0 0)) := by repeat (first | with_reducible exact Only.refl _ _ | ((with_reducible apply Only.set); · simp))
    exact OpP.none_ 2 0 rfl rfl ((HS1.out.only hO2 (by simp; exact hlt)).mono (by omega)) (HOW.out.then_ hO2 (fun g hg hl => by simp at hg; omega))
  have b1 : ¬ ((r : Int)) < 2 := by omega
  have key : ∀ w2, Hid (Src sb (N + 3) w2) → Hid (Only [sb] w1 w2) → True := fun _ _ _ => trivial
  clear key
  by_cases hr3 : r = 2
  · subst hr3
    go_wp2_with (go_at_call 96; refine (l1Chance_calls sb (N + 1) w1 HS1.out (by omega) 3 (by decide)).mono ?_; rintro e w2 ⟨b, rfl, HS2, HO2⟩; refine Hid.out ?_)
    refine Lib.hid ?_
    have HB2 := Lib.hid (HO2.out.heap HB1.out (by simp; omega))
    have HO2w := Lib.hid (HOW.out.trans HO2.out)
    have hs2 := HO2.out.size
    cases b
    case true =>
      go_wp2_with (first
        | (go_at_call 95; refine (l1Fill_calls sb (N + 3) _ HS3.out (by omega) 3 _ rfl (by decide)).mono ?_; rintro e w4 ⟨xs, g, rfl, HL, HG, HBB, HS4, HO4⟩; have HB4 := Lib.hid (HO4.out.heap HB3.out (by simp; omega)); have m := fun o => cell_of_row _ _ o _ _ _ HB4.out; have f := fun o => frozen_of_row _ _ o _ _ HB4.out)
        | (go_at_call 74; refine (l1Next_calls sb (N + 2) _ HS2.out (by omega) 5 (by decide)).mono ?_; rintro e w3 ⟨k, rfl, hk, HS3, HO3⟩; have HB3 := Lib.hid (HO3.out.heap HB2.out (by simp; omega)); have hs3 := HO3.out.size))
      refine bodyPost_ret (v := .agg #[.int .i64 (k : Int), .int .i64 n, .slice (some ⟨g, 0, none⟩) 3 3]) (by simp [results, Try.results75, go_sem, m]) rfl ?_
      have hO5 : Only [w.heap.size] w4 (((w4.setCell ⟨w.heap.size, 0, none⟩ (.int .i64 (k : Int))).setCell ⟨w.heap.size, 1, none⟩ (.int .i64 n)).setCell ⟨w.heap.size, 2, none⟩ (.slice (some ⟨g, 0, none⟩) 3 3)) := by repeat (first | with_reducible exact Only.refl _ _ | ((with_reducible apply Only.set); · simp))
      have hgw := HG.out
      exact OpP.some_ (k : Int) n (small64 (by omega) (by omega)) HWN.out HL.out (by decide) (HBB.out.only hO5 (by simp; omega)) (by omega) ((HS4.out.only hO5 (by simp; exact hlt)).mono (by omega)) (((HO2w.out.trans HO3.out).trans HO4.out).then_ hO5 (fun g hg hl => by simp at hg; omega))
    case false =>
      go_wp2_with (first
        | (go_at_call 95; refine (l1Fill_calls sb (N + 3) _ HS3.out (by omega) 512 _ rfl (by decide)).mono ?_; rintro e w4 ⟨xs, g, rfl, HL, HG, HBB, HS4, HO4⟩; have HB4 := Lib.hid (HO4.out.heap HB3.out (by simp; omega)); have m := fun o => cell_of_row _ _ o _ _ _ HB4.out; have f := fun o => frozen_of_row _ _ o _ _ HB4.out)
        | (go_at_call 74; refine (l1Next_calls sb (N + 2) _ HS2.out (by omega) n hn).mono ?_; rintro e w3 ⟨k, rfl, hk, HS3, HO3⟩; have HB3 := Lib.hid (HO3.out.heap HB2.out (by simp; omega)); have hs3 := HO3.out.size))
      refine bodyPost_ret (v := .agg #[.int .i64 1, .int .i64 (k : Int), .slice (some ⟨g, 0, none⟩) 512 512]) (by simp [results, Try.results75, go_sem, m]) rfl ?_
      have hO5 : Only [w.heap.size] w4 (((w4.setCell ⟨w.heap.size, 0, none⟩ (.int .i64 1)).setCell ⟨w.heap.size, 1, none⟩ (.int .i64 (k : Int))).setCell ⟨w.heap.size, 2, none⟩ (.slice (some ⟨g, 0, none⟩) 512 512)) := by repeat (first | with_reducible exact Only.refl _ _ | ((with_reducible apply Only.set); · simp))
      have hgw := HG.out
      exact OpP.some_ 1 (k : Int) rfl (small64 (by omega) (by omega)) HL.out (by decide) (HBB.out.only hO5 (by simp; omega)) (by omega) ((HS4.out.only hO5 (by simp; exact hlt)).mono (by omega)) (((HO2w.out.trans HO3.out).trans HO4.out).then_ hO5 (fun g hg hl => by simp at hg; omega))
  · have b2 : ((r : Int) == 2) = false := by simp; omega
    clear hr2 hr3
    go_wp2_with (first
      | (go_at_call 95; refine (l1Fill_calls sb (N + 2) _ HS3.out (by omega) 512 _ rfl (by decide)).mono ?_; rintro e w4 ⟨xs, g, rfl, HL, HG, HBB, HS4, HO4⟩; have HB4 := Lib.hid (HO4.out.heap HB3.out (by simp; omega)); have m := fun o => cell_of_row _ _ o _ _ _ HB4.out; have f := fun o => frozen_of_row _ _ o _ _ HB4.out)
      | (go_at_call 74; refine (l1Next_calls sb (N + 1) _ HS1.out (by omega) n hn).mono ?_; rintro e w3 ⟨k, rfl, hk, HS3, HO3⟩; have HB3 := Lib.hid (HO3.out.heap HB1.out (by simp; omega)); have hs3 := HO3.out.size))
    refine bodyPost_ret (v := .agg #[.int .i64 1, .int .i64 (k : Int), .slice (some ⟨g, 0, none⟩) 512 512]) (by simp [results, Try.results75, go_sem, m]) rfl ?_
    have hO5 : Only [w.heap.size] w4 (((w4.setCell ⟨w.heap.size, 0, none⟩ (.int .i64 1)).setCell ⟨w.heap.size, 1, none⟩ (.int .i64 (k : Int))).setCell ⟨w.heap.size, 2, none⟩ (.slice (some ⟨g, 0, none⟩) 512 512)) := by repeat (first | with_reducible exact Only.refl _ _ | ((with_reducible apply Only.set); · simp))
    have hgw := HG.out
    exact OpP.some_ 1 (k : Int) rfl (small64 (by omega) (by omega)) HL.out (by decide) (HBB.out.only hO5 (by simp; omega)) (by omega) ((HS4.out.only hO5 (by simp; exact hlt)).mono (by omega)) (((HOW.out.trans HO3.out).trans HO4.out).then_ hO5 (fun g hg hl => by simp at hg; omega))
end Go.Proofs.Ytdjcfcgkldokgaa
