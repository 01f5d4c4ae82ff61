/- The laws' arguments opened. Printed by gen_fam.py, a program of this session. -/
import Derived.Test.YtjjdainnofnmcaaFFrame
import Derived.Test.YtjjdainnofnmcaaFPool
import Derived.Test.YtjjdainnofnmcaaFPoolResult
import Derived.Test.YtjjdainnofnmcaaO
namespace Go.Proofs.Ytjjdainnofnmcaa
open Go.RowKit
set_option linter.unusedSimpArgs false
set_option linter.unusedVariables false

theorem opensByteS : Opens (Rep.int .u8).slice Try.prog 33 := Opens.slice Try.underlying33 (by kernel_rfl) (by decide) (Opens.int Try.underlying5)
theorem opensInt64S : Opens (Rep.int .i64).slice Try.prog 85 := Opens.slice Try.underlying85 (by kernel_rfl) (by decide) (Opens.int Try.underlying2)
theorem opensFrame : Opens Rep.Frame Try.prog 77 := by
  intro H enc w base spare held fuel cs y h
  obtain ⟨ys, m, _, _, hl, hn, hf⟩ := DataW.trod_struct Try.underlying77 h
  have hC : Try.prog.cellsOf 77 = 6 := by kernel_rfl
  rw [hC] at hl
  match cs, hl with
  | [a0, a1, a2, a3, a4, a5], _ =>
    have hc0 : Try.prog.cellsOf 2 = 1 := by kernel_rfl
    obtain ⟨y0, hy0⟩ := some_at hn (show 0 < _ by decide)
    have g0 : DataW.trod enc Try.prog w base spare held m 2 (([a0, a1, a2, a3, a4, a5].drop 0).take (Try.prog.cellsOf 2)) = ys[0]? := hf 0 _ rfl
    rw [hc0, hy0] at g0
    obtain ⟨x0, G0, r0⟩ := Opens.int Try.underlying2 g0
    obtain ⟨q0, -, w0⟩ := r0
    simp only [List.drop_succ_cons, List.drop_zero, List.take_succ_cons, List.take_zero, List.cons.injEq, and_true] at q0
    have hc1 : Try.prog.cellsOf 33 = 1 := by kernel_rfl
    obtain ⟨y1, hy1⟩ := some_at hn (show 1 < _ by decide)
    have g1 : DataW.trod enc Try.prog w base spare held m 33 (([a0, a1, a2, a3, a4, a5].drop 1).take (Try.prog.cellsOf 33)) = ys[1]? := hf 1 _ rfl
    rw [hc1, hy1] at g1
    obtain ⟨x1, G1, r1⟩ := opensByteS g1
    obtain ⟨A1, c1, q1, s1⟩ := r1
    simp only [List.drop_succ_cons, List.drop_zero, List.take_succ_cons, List.take_zero, List.cons.injEq, and_true] at q1
    have hc2 : Try.prog.cellsOf 2 = 1 := by kernel_rfl
    obtain ⟨y2, hy2⟩ := some_at hn (show 2 < _ by decide)
    have g2 : DataW.trod enc Try.prog w base spare held m 2 (([a0, a1, a2, a3, a4, a5].drop 2).take (Try.prog.cellsOf 2)) = ys[2]? := hf 2 _ rfl
    rw [hc2, hy2] at g2
    obtain ⟨x2, G2, r2⟩ := Opens.int Try.underlying2 g2
    obtain ⟨q2, -, w2⟩ := r2
    simp only [List.drop_succ_cons, List.drop_zero, List.take_succ_cons, List.take_zero, List.cons.injEq, and_true] at q2
    have hc3 : Try.prog.cellsOf 4 = 1 := by kernel_rfl
    obtain ⟨y3, hy3⟩ := some_at hn (show 3 < _ by decide)
    have g3 : DataW.trod enc Try.prog w base spare held m 4 (([a0, a1, a2, a3, a4, a5].drop 3).take (Try.prog.cellsOf 4)) = ys[3]? := hf 3 _ rfl
    rw [hc3, hy3] at g3
    obtain ⟨x3, G3, r3⟩ := Opens.bool Try.underlying4 g3
    obtain ⟨q3, -⟩ := r3
    simp only [List.drop_succ_cons, List.drop_zero, List.take_succ_cons, List.take_zero, List.cons.injEq, and_true] at q3
    have hc4 : Try.prog.cellsOf 2 = 1 := by kernel_rfl
    obtain ⟨y4, hy4⟩ := some_at hn (show 4 < _ by decide)
    have g4 : DataW.trod enc Try.prog w base spare held m 2 (([a0, a1, a2, a3, a4, a5].drop 4).take (Try.prog.cellsOf 2)) = ys[4]? := hf 4 _ rfl
    rw [hc4, hy4] at g4
    obtain ⟨x4, G4, r4⟩ := Opens.int Try.underlying2 g4
    obtain ⟨q4, -, w4⟩ := r4
    simp only [List.drop_succ_cons, List.drop_zero, List.take_succ_cons, List.take_zero, List.cons.injEq, and_true] at q4
    have hc5 : Try.prog.cellsOf 4 = 1 := by kernel_rfl
    obtain ⟨y5, hy5⟩ := some_at hn (show 5 < _ by decide)
    have g5 : DataW.trod enc Try.prog w base spare held m 4 (([a0, a1, a2, a3, a4, a5].drop 5).take (Try.prog.cellsOf 4)) = ys[5]? := hf 5 _ rfl
    rw [hc5, hy5] at g5
    obtain ⟨x5, G5, r5⟩ := Opens.bool Try.underlying4 g5
    obtain ⟨q5, -⟩ := r5
    simp only [List.drop_succ_cons, List.drop_zero, List.take_succ_cons, List.take_zero, List.cons.injEq, and_true] at q5
    obtain rfl := q0
    obtain rfl := q1
    obtain rfl := q2
    obtain rfl := q3
    obtain rfl := q4
    obtain rfl := q5
    exact ⟨⟨x0, x1, x2, x3, x4, x5⟩, _, ⟨A1, c1, _, rfl, rfl, (by simp only [wfFrame] at *; simp only [w0, w2, w4, and_self]), s1⟩⟩

theorem opensFrameS : Opens Rep.Frame.slice Try.prog 22 := Opens.slice Try.underlying22 (by kernel_rfl) (by decide) opensFrame

theorem opensPool : Opens Rep.Pool Try.prog 24 := by
  intro H enc w base spare held fuel cs y h
  obtain ⟨ys, m, _, _, hl, hn, hf⟩ := DataW.trod_struct Try.underlying24 h
  have hC : Try.prog.cellsOf 24 = 2 := by kernel_rfl
  rw [hC] at hl
  match cs, hl with
  | [a0, a1], _ =>
    have hc0 : Try.prog.cellsOf 22 = 1 := by kernel_rfl
    obtain ⟨y0, hy0⟩ := some_at hn (show 0 < _ by decide)
    have g0 : DataW.trod enc Try.prog w base spare held m 22 (([a0, a1].drop 0).take (Try.prog.cellsOf 22)) = ys[0]? := hf 0 _ rfl
    rw [hc0, hy0] at g0
    obtain ⟨x0, G0, r0⟩ := opensFrameS g0
    obtain ⟨A1, c1, q0, s1⟩ := r0
    simp only [List.drop_succ_cons, List.drop_zero, List.take_succ_cons, List.take_zero, List.cons.injEq, and_true] at q0
    have hc1 : Try.prog.cellsOf 2 = 1 := by kernel_rfl
    obtain ⟨y1, hy1⟩ := some_at hn (show 1 < _ by decide)
    have g1 : DataW.trod enc Try.prog w base spare held m 2 (([a0, a1].drop 1).take (Try.prog.cellsOf 2)) = ys[1]? := hf 1 _ rfl
    rw [hc1, hy1] at g1
    obtain ⟨x1, G1, r1⟩ := Opens.int Try.underlying2 g1
    obtain ⟨q1, -, w1⟩ := r1
    simp only [List.drop_succ_cons, List.drop_zero, List.take_succ_cons, List.take_zero, List.cons.injEq, and_true] at q1
    obtain rfl := q0
    obtain rfl := q1
    exact ⟨⟨x0, x1⟩, _, ⟨A1, c1, _, rfl, rfl, (by simp only [wfPool] at *; simp only [w1, and_self]), s1⟩⟩

end Go.Proofs.Ytjjdainnofnmcaa
