/- PageSet: the program's. -/
import Derived.Test.YtghgjddiheebeaaDoorZ1
namespace Go.Proofs.YtghgjddiheebeaaDoor
open Go.RowKit
set_option linter.unusedSimpArgs false
set_option linter.unusedVariables false
theorem wrap_u64 (x : Int) (h0 : 0 ≤ x) (h1 : x ≤ 1099511627776) : IntKind.u64.wrap x = x := by
  simp [IntKind.wrap, IntKind.min, IntKind.max, IntKind.signed, IntKind.bits]
  omega
set_option maxRecDepth 100000 in
set_option maxHeartbeats 8000000 in
theorem implSet_bad (w : World) (Ap : Option Addr) (cp : Nat) (p : List Int) (F : List Nat) (h : (Rep.int .u8).sl w Ap cp p F) (sl lsn : Int) (u : Bool) (A : Option Addr) (cA : Nat) (d : List Int)
    (hb : setBad p sl ⟨u, d⟩ lsn) :
    Calls Tryd.prog 20 #[.slice Ap p.length cp, .int .i64 sl, .agg #[.bool u, .slice A d.length cA], .int .i64 lsn] w (NewPost Rep.PageResult ⟨1, []⟩ w) := by
  have hu := Tryd.underlying33
  have hu2 := Tryd.underlying31
  have HE0 := Lib.hid ((alloc_ext w (.cells #[.bool u, .slice A d.length cA] 33)).ext (alloc_ext _ (.cells #[.int .i64 0, .slice none 0 0] 31)))
  have HB1 := Lib.hid ((alloc_ext (w.alloc (.cells #[.bool u, .slice A d.length cA] 33)) (.cells #[.int .i64 0, .slice none 0 0] 31)).heap (heap_alloc_new w (.cells #[.bool u, .slice A d.length cA] 33)) (by simp))
  have HB2 := Lib.hid (heap_at (w.alloc (.cells #[.bool u, .slice A d.length cA] 33)) (.cells #[.int .i64 0, .slice none 0 0] 31) (k := w.heap.size + 1) (by simp))
  have HWF := Lib.hid (fun W (hW : Ext w W) => wellFormed_calls W Ap cp p F (Rep.sl_ext h hW))
  unfold setBad at hb
  dsimp only at hb
  generalize wellF p = wf at *
  generalize p.length = np at *
  clear h
  rcases Bool.eq_false_or_eq_true wf with hwf | hwf
  rotate_left
  · subst hwf
    clear hb
    go_enter Tryd.func20, Tryd.ntmps20
    go_wp2_with (go_at_call 55; refine (HWF.out _ HE0.out).mono ?_; rintro e w1 ⟨rfl, hE⟩; have m := fun o => cell_of_row _ _ o _ _ _ (hE.heap HB2.out (by simp)); have f := fun o => frozen_of_row _ _ o _ _ (hE.heap HB2.out (by simp)); have m1 := fun o => cell_of_row _ _ o _ _ _ (hE.heap HB1.out (by simp)); have HE1 := Lib.hid (HE0.out.ext hE); clear hE)
    refine bodyPost_ret (v := .agg #[.int .i64 1, .slice none 0 0]) (by simp [results, Tryd.results20, go_sem, m]) rfl ?_
    exact psRes_code rfl (by repeat (first | with_reducible exact HE1.out | ((with_reducible apply Only.set); · first | (simp; done) | exact fun hq => absurd hq (by dsimp only; omega))))
  subst hwf
  replace hb := hb.resolve_left (by simp)
  by_cases a1 : sl < 0
  · clear hb
    go_enter Tryd.func20, Tryd.ntmps20
    go_wp2_with (go_at_call 55; refine (HWF.out _ HE0.out).mono ?_; rintro e w1 ⟨rfl, hE⟩; have m := fun o => cell_of_row _ _ o _ _ _ (hE.heap HB2.out (by simp)); have f := fun o => frozen_of_row _ _ o _ _ (hE.heap HB2.out (by simp)); have m1 := fun o => cell_of_row _ _ o _ _ _ (hE.heap HB1.out (by simp)); have HE1 := Lib.hid (HE0.out.ext hE); clear hE)
    refine bodyPost_ret (v := .agg #[.int .i64 1, .slice none 0 0]) (by simp [results, Tryd.results20, go_sem, m]) rfl ?_
    exact psRes_code rfl (by repeat (first | with_reducible exact HE1.out | ((with_reducible apply Only.set); · first | (simp; done) | exact fun hq => absurd hq (by dsimp only; omega))))
  replace hb := hb.resolve_left a1
  by_cases a2 : 32 ≤ sl
  · clear hb
    go_enter Tryd.func20, Tryd.ntmps20
    go_wp2_with (go_at_call 55; refine (HWF.out _ HE0.out).mono ?_; rintro e w1 ⟨rfl, hE⟩; have m := fun o => cell_of_row _ _ o _ _ _ (hE.heap HB2.out (by simp)); have f := fun o => frozen_of_row _ _ o _ _ (hE.heap HB2.out (by simp)); have m1 := fun o => cell_of_row _ _ o _ _ _ (hE.heap HB1.out (by simp)); have HE1 := Lib.hid (HE0.out.ext hE); clear hE)
    refine bodyPost_ret (v := .agg #[.int .i64 1, .slice none 0 0]) (by simp [results, Tryd.results20, go_sem, m]) rfl ?_
    exact psRes_code rfl (by repeat (first | with_reducible exact HE1.out | ((with_reducible apply Only.set); · first | (simp; done) | exact fun hq => absurd hq (by dsimp only; omega))))
  replace hb := hb.resolve_left a2
  by_cases a3 : lsn < 0
  · clear hb
    go_enter Tryd.func20, Tryd.ntmps20
    go_wp2_with (go_at_call 55; refine (HWF.out _ HE0.out).mono ?_; rintro e w1 ⟨rfl, hE⟩; have m := fun o => cell_of_row _ _ o _ _ _ (hE.heap HB2.out (by simp)); have f := fun o => frozen_of_row _ _ o _ _ (hE.heap HB2.out (by simp)); have m1 := fun o => cell_of_row _ _ o _ _ _ (hE.heap HB1.out (by simp)); have HE1 := Lib.hid (HE0.out.ext hE); clear hE)
    refine bodyPost_ret (v := .agg #[.int .i64 1, .slice none 0 0]) (by simp [results, Tryd.results20, go_sem, m]) rfl ?_
    exact psRes_code rfl (by repeat (first | with_reducible exact HE1.out | ((with_reducible apply Only.set); · first | (simp; done) | exact fun hq => absurd hq (by dsimp only; omega))))
  replace hb := hb.resolve_left a3
  by_cases a4 : 1099511627776 < lsn
  · clear hb
    go_enter Tryd.func20, Tryd.ntmps20
    go_wp2_with (go_at_call 55; refine (HWF.out _ HE0.out).mono ?_; rintro e w1 ⟨rfl, hE⟩; have m := fun o => cell_of_row _ _ o _ _ _ (hE.heap HB2.out (by simp)); have f := fun o => frozen_of_row _ _ o _ _ (hE.heap HB2.out (by simp)); have m1 := fun o => cell_of_row _ _ o _ _ _ (hE.heap HB1.out (by simp)); have HE1 := Lib.hid (HE0.out.ext hE); clear hE)
    refine bodyPost_ret (v := .agg #[.int .i64 1, .slice none 0 0]) (by simp [results, Tryd.results20, go_sem, m]) rfl ?_
    exact psRes_code rfl (by repeat (first | with_reducible exact HE1.out | ((with_reducible apply Only.set); · first | (simp; done) | exact fun hq => absurd hq (by dsimp only; omega))))
  replace hb := hb.resolve_left a4
  by_cases a5 : 1000 < d.length
  · have a5' : (1000 : Int) < (d.length : Int) := by omega
    clear hb
    go_enter Tryd.func20, Tryd.ntmps20
    go_wp2_with (go_at_call 55; refine (HWF.out _ HE0.out).mono ?_; rintro e w1 ⟨rfl, hE⟩; have m := fun o => cell_of_row _ _ o _ _ _ (hE.heap HB2.out (by simp)); have f := fun o => frozen_of_row _ _ o _ _ (hE.heap HB2.out (by simp)); have m1 := fun o => cell_of_row _ _ o _ _ _ (hE.heap HB1.out (by simp)); have HE1 := Lib.hid (HE0.out.ext hE); clear hE)
    refine bodyPost_ret (v := .agg #[.int .i64 1, .slice none 0 0]) (by simp [results, Tryd.results20, go_sem, m]) rfl ?_
    exact psRes_code rfl (by repeat (first | with_reducible exact HE1.out | ((with_reducible apply Only.set); · first | (simp; done) | exact fun hq => absurd hq (by dsimp only; omega))))
  obtain ⟨hu0, hd0⟩ := hb.resolve_left a5
  subst hu0
  have a5' : ¬ (1000 : Int) < (d.length : Int) := by omega
  have a6 : (0 : Int) < (d.length : Int) := by omega
  go_enter Tryd.func20, Tryd.ntmps20
  go_wp2_with (go_at_call 55; refine (HWF.out _ HE0.out).mono ?_; rintro e w1 ⟨rfl, hE⟩; have m := fun o => cell_of_row _ _ o _ _ _ (hE.heap HB2.out (by simp)); have f := fun o => frozen_of_row _ _ o _ _ (hE.heap HB2.out (by simp)); have m1 := fun o => cell_of_row _ _ o _ _ _ (hE.heap HB1.out (by simp)); have HE1 := Lib.hid (HE0.out.ext hE); clear hE)
  refine bodyPost_ret (v := .agg #[.int .i64 1, .slice none 0 0]) (by simp [results, Tryd.results20, go_sem, m]) rfl ?_
  exact psRes_code rfl (by repeat (first | with_reducible exact HE1.out | ((with_reducible apply Only.set); · first | (simp; done) | exact fun hq => absurd hq (by dsimp only; omega))))
set_option maxRecDepth 100000 in
set_option maxHeartbeats 8000000 in
theorem specSet_bad (w : World) (Ap : Option Addr) (cp : Nat) (p : List Int) (F : List Nat) (h : (Rep.int .u8).sl w Ap cp p F) (sl lsn : Int) (u : Bool) (A : Option Addr) (cA : Nat) (d : List Int)
    (hb : setBad p sl ⟨u, d⟩ lsn) :
    Calls Tryd.prog 18 #[.slice Ap p.length cp, .int .i64 sl, .agg #[.bool u, .slice A d.length cA], .int .i64 lsn] w (NewPost Rep.PageResult ⟨1, []⟩ w) := by
  have hu := Tryd.underlying33
  have hu2 := Tryd.underlying31
  have HE0 := Lib.hid ((alloc_ext w (.cells #[.bool u, .slice A d.length cA] 33)).ext (alloc_ext _ (.cells #[.int .i64 0, .slice none 0 0] 31)))
  have HB1 := Lib.hid ((alloc_ext (w.alloc (.cells #[.bool u, .slice A d.length cA] 33)) (.cells #[.int .i64 0, .slice none 0 0] 31)).heap (heap_alloc_new w (.cells #[.bool u, .slice A d.length cA] 33)) (by simp))
  have HB2 := Lib.hid (heap_at (w.alloc (.cells #[.bool u, .slice A d.length cA] 33)) (.cells #[.int .i64 0, .slice none 0 0] 31) (k := w.heap.size + 1) (by simp))
  have HWF := Lib.hid (fun W (hW : Ext w W) => l3Own_calls W Ap cp p F (Rep.sl_ext h hW))
  unfold setBad at hb
  dsimp only at hb
  generalize wellF p = wf at *
  generalize p.length = np at *
  clear h
  rcases Bool.eq_false_or_eq_true wf with hwf | hwf
  rotate_left
  · subst hwf
    clear hb
    go_enter Tryd.func18, Tryd.ntmps18
    go_wp2_with (go_at_call 50; refine (HWF.out _ HE0.out).mono ?_; rintro e w1 ⟨rfl, hE⟩; have m := fun o => cell_of_row _ _ o _ _ _ (hE.heap HB2.out (by simp)); have f := fun o => frozen_of_row _ _ o _ _ (hE.heap HB2.out (by simp)); have m1 := fun o => cell_of_row _ _ o _ _ _ (hE.heap HB1.out (by simp)); have HE1 := Lib.hid (HE0.out.ext hE); clear hE)
    refine bodyPost_ret (v := .agg #[.int .i64 1, .slice none 0 0]) (by simp [results, Tryd.results18, go_sem, m]) rfl ?_
    exact psRes_code rfl (by repeat (first | with_reducible exact HE1.out | ((with_reducible apply Only.set); · first | (simp; done) | exact fun hq => absurd hq (by dsimp only; omega))))
  subst hwf
  replace hb := hb.resolve_left (by simp)
  by_cases a1 : sl < 0
  · clear hb
    go_enter Tryd.func18, Tryd.ntmps18
    go_wp2_with (go_at_call 50; refine (HWF.out _ HE0.out).mono ?_; rintro e w1 ⟨rfl, hE⟩; have m := fun o => cell_of_row _ _ o _ _ _ (hE.heap HB2.out (by simp)); have f := fun o => frozen_of_row _ _ o _ _ (hE.heap HB2.out (by simp)); have m1 := fun o => cell_of_row _ _ o _ _ _ (hE.heap HB1.out (by simp)); have HE1 := Lib.hid (HE0.out.ext hE); clear hE)
    refine bodyPost_ret (v := .agg #[.int .i64 1, .slice none 0 0]) (by simp [results, Tryd.results18, go_sem, m]) rfl ?_
    exact psRes_code rfl (by repeat (first | with_reducible exact HE1.out | ((with_reducible apply Only.set); · first | (simp; done) | exact fun hq => absurd hq (by dsimp only; omega))))
  replace hb := hb.resolve_left a1
  by_cases a2 : 32 ≤ sl
  · clear hb
    go_enter Tryd.func18, Tryd.ntmps18
    go_wp2_with (go_at_call 50; refine (HWF.out _ HE0.out).mono ?_; rintro e w1 ⟨rfl, hE⟩; have m := fun o => cell_of_row _ _ o _ _ _ (hE.heap HB2.out (by simp)); have f := fun o => frozen_of_row _ _ o _ _ (hE.heap HB2.out (by simp)); have m1 := fun o => cell_of_row _ _ o _ _ _ (hE.heap HB1.out (by simp)); have HE1 := Lib.hid (HE0.out.ext hE); clear hE)
    refine bodyPost_ret (v := .agg #[.int .i64 1, .slice none 0 0]) (by simp [results, Tryd.results18, go_sem, m]) rfl ?_
    exact psRes_code rfl (by repeat (first | with_reducible exact HE1.out | ((with_reducible apply Only.set); · first | (simp; done) | exact fun hq => absurd hq (by dsimp only; omega))))
  replace hb := hb.resolve_left a2
  by_cases a3 : lsn < 0
  · clear hb
    go_enter Tryd.func18, Tryd.ntmps18
    go_wp2_with (go_at_call 50; refine (HWF.out _ HE0.out).mono ?_; rintro e w1 ⟨rfl, hE⟩; have m := fun o => cell_of_row _ _ o _ _ _ (hE.heap HB2.out (by simp)); have f := fun o => frozen_of_row _ _ o _ _ (hE.heap HB2.out (by simp)); have m1 := fun o => cell_of_row _ _ o _ _ _ (hE.heap HB1.out (by simp)); have HE1 := Lib.hid (HE0.out.ext hE); clear hE)
    refine bodyPost_ret (v := .agg #[.int .i64 1, .slice none 0 0]) (by simp [results, Tryd.results18, go_sem, m]) rfl ?_
    exact psRes_code rfl (by repeat (first | with_reducible exact HE1.out | ((with_reducible apply Only.set); · first | (simp; done) | exact fun hq => absurd hq (by dsimp only; omega))))
  replace hb := hb.resolve_left a3
  by_cases a4 : 1099511627776 < lsn
  · clear hb
    go_enter Tryd.func18, Tryd.ntmps18
    go_wp2_with (go_at_call 50; refine (HWF.out _ HE0.out).mono ?_; rintro e w1 ⟨rfl, hE⟩; have m := fun o => cell_of_row _ _ o _ _ _ (hE.heap HB2.out (by simp)); have f := fun o => frozen_of_row _ _ o _ _ (hE.heap HB2.out (by simp)); have m1 := fun o => cell_of_row _ _ o _ _ _ (hE.heap HB1.out (by simp)); have HE1 := Lib.hid (HE0.out.ext hE); clear hE)
    refine bodyPost_ret (v := .agg #[.int .i64 1, .slice none 0 0]) (by simp [results, Tryd.results18, go_sem, m]) rfl ?_
    exact psRes_code rfl (by repeat (first | with_reducible exact HE1.out | ((with_reducible apply Only.set); · first | (simp; done) | exact fun hq => absurd hq (by dsimp only; omega))))
  replace hb := hb.resolve_left a4
  by_cases a5 : 1000 < d.length
  · have a5' : (1000 : Int) < (d.length : Int) := by omega
    clear hb
    go_enter Tryd.func18, Tryd.ntmps18
    go_wp2_with (go_at_call 50; refine (HWF.out _ HE0.out).mono ?_; rintro e w1 ⟨rfl, hE⟩; have m := fun o => cell_of_row _ _ o _ _ _ (hE.heap HB2.out (by simp)); have f := fun o => frozen_of_row _ _ o _ _ (hE.heap HB2.out (by simp)); have m1 := fun o => cell_of_row _ _ o _ _ _ (hE.heap HB1.out (by simp)); have HE1 := Lib.hid (HE0.out.ext hE); clear hE)
    refine bodyPost_ret (v := .agg #[.int .i64 1, .slice none 0 0]) (by simp [results, Tryd.results18, go_sem, m]) rfl ?_
    exact psRes_code rfl (by repeat (first | with_reducible exact HE1.out | ((with_reducible apply Only.set); · first | (simp; done) | exact fun hq => absurd hq (by dsimp only; omega))))
  obtain ⟨hu0, hd0⟩ := hb.resolve_left a5
  subst hu0
  have a5' : ¬ (1000 : Int) < (d.length : Int) := by omega
  have a6 : (0 : Int) < (d.length : Int) := by omega
  go_enter Tryd.func18, Tryd.ntmps18
  go_wp2_with (go_at_call 50; refine (HWF.out _ HE0.out).mono ?_; rintro e w1 ⟨rfl, hE⟩; have m := fun o => cell_of_row _ _ o _ _ _ (hE.heap HB2.out (by simp)); have f := fun o => frozen_of_row _ _ o _ _ (hE.heap HB2.out (by simp)); have m1 := fun o => cell_of_row _ _ o _ _ _ (hE.heap HB1.out (by simp)); have HE1 := Lib.hid (HE0.out.ext hE); clear hE)
  refine bodyPost_ret (v := .agg #[.int .i64 1, .slice none 0 0]) (by simp [results, Tryd.results18, go_sem, m]) rfl ?_
  exact psRes_code rfl (by repeat (first | with_reducible exact HE1.out | ((with_reducible apply Only.set); · first | (simp; done) | exact fun hq => absurd hq (by dsimp only; omega))))
end Go.Proofs.YtghgjddiheebeaaDoor
