/- One operation: the program's. -/
import Derived.Test.YtdjcfcgkldokgaaD15
namespace Go.Proofs.Ytdjcfcgkldokgaa
open Go.RowKit
set_option linter.unusedSimpArgs false
set_option linter.unusedVariables false
theorem BoxPost.from_ext {P : Nat → Prop} {b n0 o : Nat} {A : Option Addr} {c : Nat} {bs : Array Value} {t : TypeId} {d : DDisk} {w W w' : World} {e : Ending} (hE : Ext w W) (h : BoxPost P b n0 o A c bs t d W e w') : BoxPost P b n0 o A c bs t d w e w' := by
  obtain ⟨rfl, Ap, cp, n, h1, h2, h3, H, hO, hH⟩ := h
  refine ⟨rfl, Ap, cp, n, h1, h2, h3, H, ?_, hH⟩
  exact (hE.more (G := n0 :: H) (by simp)).then_ hO (fun g hg _ => hg)
set_option maxRecDepth 100000 in
set_option maxHeartbeats 2000000 in
theorem do_calls (P : Nat → Prop) (b n n0 o : Nat) (w : World) (A : Option Addr) (c : Nat) (Ap : Option Addr) (cp : Nat) (d : DDisk) (bs : Array Value) (t : TypeId) (hbs : w.heap[n0]? = some (.cells bs t (0, 0))) (hb0 : bs[o]? = some (.slice A d.Durable.length c)) (hb1 : bs[o + 1]? = some (.slice Ap d.Pending.length cp))
    (hD : DiskP P b n w A c (.slice Ap d.Pending.length cp) d) (hb : b ≤ n) (hn0 : ¬ P n0) (hP : ∀ g, w.heap.size ≤ g → P g) (hv : validDisk d = true) (x : DOp) (hwf : wfOp x) (Ax : Option Addr) (cx : Nat) (Fx : List Nat) (hx : (Rep.int .u8).sl w Ax cx x.Data Fx) (hdj : ∀ g ∈ Fx, g ≠ n0 ∧ ¬ (P g ∧ b ≤ g)) :
    Calls Try.prog 70 #[.pointer (some ⟨n0, o, none⟩), .agg #[.int .i64 x.Kind, .int .i64 x.Sector, .slice Ax x.Data.length cx]] w (BoxPost P b n0 o A c bs t (doOp d x) w) := by
  have hu := Try.underlying29
  have hu2 := Try.underlying90
  obtain ⟨v1, v2, v3, v4, v5⟩ := valid_facts hv
  have hnl := hD.le
  have hn0w : n0 < w.heap.size := (Array.getElem?_eq_some_iff.1 hbs).1
  obtain ⟨R, hR⟩ : ∃ R, R = doOp d x := ⟨_, rfl⟩
  rw [← hR]
  have HR := Lib.hid hR
  have hE0 := alloc_ext w (.cells #[.int .i64 x.Kind, .int .i64 x.Sector, .slice Ax x.Data.length cx] 90)
  have q1 := heap_alloc_new w (.cells #[.int .i64 x.Kind, .int .i64 x.Sector, .slice Ax x.Data.length cx] 90)
  have hz0 : (w.alloc (.cells #[.int .i64 x.Kind, .int .i64 x.Sector, .slice Ax x.Data.length cx] 90)).heap.size = w.heap.size + 1 := by simp
  have hbs0 := hE0.heap hbs (by simp)
  have hD0 := hD.ext hE0 hb
  have HB1 := Lib.hid hb1; have HB0 := Lib.hid hb0
  clear hR hb1 hb0 hbs
  go_enter Try.func70, Try.ntmps70
  by_cases h1 : x.Kind = 1
  · have h1b : (x.Kind == 1) = true := by simp [h1]
    have HRd := Lib.hid (show R = diskWriteV d x.Sector x.Data by rw [HR.out, doOp, if_neg (by omega), if_pos h1])
    clear h1
    go_wp2_with fail
    generalize (w.alloc (.cells #[.int .i64 x.Kind, .int .i64 x.Sector, .slice Ax x.Data.length cx] 90)) = W0 at hE0 q1 hz0 hD0 hbs0 ⊢
    refine (write_calls P b n n0 o W0 A c Ap cp d bs t hbs0 HB0.out HB1.out hD0 hb hn0 (fun g hg => hP g (by omega)) hv x.Sector hwf.2 Ax cx x.Data Fx (Rep.sl_ext hx hE0) hdj).mono ?_
    rw [← HRd.out]
    intro e w3 h3
    obtain rfl := h3.1
    have H3 := Lib.hid (BoxPost.from_ext hE0 h3)
    clear h3 hbs0 hD0 q1 hE0
    go_wp2
    exact bodyPost_ret (v := .tuple #[]) (by simp [results, Try.results70, go_sem]) rfl H3.out
  have h1b : (x.Kind == 1) = false := by simp [h1]
  by_cases h2 : x.Kind = 2
  · have h2b : (x.Kind == 2) = true := by simp [h2]
    have HRd := Lib.hid (show R = ⟨settleL d.Durable d.Pending, []⟩ by rw [HR.out, doOp, if_pos h2])
    clear h1 h2
    go_wp2_with fail
    generalize (w.alloc (.cells #[.int .i64 x.Kind, .int .i64 x.Sector, .slice Ax x.Data.length cx] 90)) = w1 at hE0 q1 hz0 hD0 hbs0 ⊢
    have c0 : w1.cell? ⟨n0, o, none⟩ = some (.slice A d.Durable.length c) := (cell_of_row _ _ o _ _ _ hbs0).trans HB0.out
    have c1 : w1.cell? ⟨n0, o + 1, none⟩ = some (.slice Ap d.Pending.length cp) := (cell_of_row _ _ (o + 1) _ _ _ hbs0).trans HB1.out
    have f0 : ∀ j, w1.frozen? ⟨n0, j, none⟩ = false := fun j => frozen_of_row _ _ j _ _ hbs0
    obtain ⟨FD0, Ap0, cp0, G0, hpv0, q1, q2, q3, q4, q5, q7⟩ := hD0.open_
    injection hpv0 with hpv1 hpv2 hpv3
    subst hpv1; subst hpv3
    refine (settle_calls n0 o A c d.Durable FD0 Ap cp d.Pending G0 w1 c0 c1 f0 q1 q2 q7 (fun b hb hb' => by have h1 := q3 b hb; have h2 := q4 b hb'; omega) (fun hb => hn0 (q3 _ hb).2.2) v5 v2 v3).mono ?_
    rintro e W ⟨rfl, wm, hO3, qm, hum, hW⟩
    have hl1 := settleL_len d.Pending d.Durable (fun x hx => List.all_eq_true.1 v5 x hx)
    have hbm := hO3.heap hbs0 (fun hb => hn0 (q3 _ hb).2.2)
    have hx : Only [n0] wm W := by rw [hW]; exact (Only.refl _ _).setCell (by simp) _
    have hbx : W.heap[n0]? = some (.cells (bs.setIfInBounds (o + 1) (.slice none 0 0)) t (0, 0)) := by rw [hW]; exact heap_setCell_same _ _ (o + 1) _ _ _ hbm
    have hd0 : ∀ b ∈ FD0, b ∉ [n0] := fun b hb hb' => by simp at hb'; subst hb'; exact hn0 (q3 _ hb).2.2
    have hEW0 : Only (n0 :: FD0) w1 W := (hO3.more (G := n0 :: FD0) (fun b hb _ => by simp [hb])).trans (hx.more (fun b hb _ => by simp at hb; simp [hb]))
    have hDW : DiskP P b n W A c (.slice none 0 0) ⟨settleL d.Durable d.Pending, []⟩ := ⟨FD0, Rep.sl_only qm hx hd0, q3, q5, Unfr.only hum hx (fun b hb => Rep.sl_lt qm b hb) hd0, OwnP.nil (by have := hO3.size; have := hx.size; omega)⟩
    have hH0 : ∀ g ∈ FD0, P g ∧ b ≤ g := fun g hg => ⟨(q3 g hg).2.2, (q3 g hg).1⟩
    have hbp : BoxPost P b n0 o A c bs t R w1 (.returned (.tuple #[])) W := by
      rw [HRd.out]
      exact ⟨rfl, none, 0, n, hbx, hDW, hb, FD0, hEW0, hH0⟩
    have H3 := Lib.hid (BoxPost.from_ext hE0 hbp)
    clear hW hO3 qm hum hbm hx q1 q2 q3 q4 q5 q7 hd0 c0 c1 f0 hbs0 hD0 hE0 hbx hEW0 hDW hH0 hbp
    go_wp2
    exact bodyPost_ret (v := .tuple #[]) (by simp [results, Try.results70, go_sem]) rfl H3.out
  · have h2b : (x.Kind == 2) = false := by simp [h2]
    have hRd : R = d := by rw [HR.out, doOp, if_neg h2, if_neg h1]
    have hbp : BoxPost P b n0 o A c bs t R w (.returned (.tuple #[])) (w.alloc (.cells #[.int .i64 x.Kind, .int .i64 x.Sector, .slice Ax x.Data.length cx] 90)) := by
      rw [hRd]
      refine ⟨rfl, Ap, cp, n, ?_, hD0, hb, [], hE0.more (by simp), by simp⟩
      rw [setIfInBounds_same HB1.out]
      exact hbs0
    have H3 := Lib.hid hbp
    clear h1 h2 hRd hbp hbs0 hD0 hE0
    go_wp2
    exact bodyPost_ret (v := .tuple #[]) (by simp [results, Try.results70, go_sem]) rfl H3.out
end Go.Proofs.Ytdjcfcgkldokgaa
