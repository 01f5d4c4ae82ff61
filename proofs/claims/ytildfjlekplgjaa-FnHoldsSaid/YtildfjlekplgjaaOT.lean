/- The laws' arguments opened. Printed by gen_fam.py, a program of this session. -/
import Derived.Test.YtildfjlekplgjaaFHold
import Derived.Test.YtildfjlekplgjaaFLock
import Derived.Test.YtildfjlekplgjaaFLockResult
import Derived.Test.YtildfjlekplgjaaO
namespace Go.Proofs.Ytildfjlekplgjaa
open Go.RowKit
set_option linter.unusedSimpArgs false
set_option linter.unusedVariables false
set_option maxRecDepth 100000

theorem opensByteS : Opens (Rep.int .u8).slice Try.prog 42 := Opens.slice Try.underlying42 (by kernel_rfl) (by decide) (Opens.int Try.underlying5)
theorem opensInt64S : Opens (Rep.int .i64).slice Try.prog 43 := Opens.slice Try.underlying43 (by kernel_rfl) (by decide) (Opens.int Try.underlying2)
theorem opensHold : Opens Rep.Hold Try.prog 77 := by
  intro H enc w base spare held fuel cs y h
  obtain ⟨ys, m, _, _, hl, hn, hf⟩ := DataW.trod_struct Try.underlying77 h
  have hC : Try.prog.cellsOf 77 = 3 := by kernel_rfl
  rw [hC] at hl
  match cs, hl with
  | [a0, a1, a2], _ =>
    have hc0 : Try.prog.cellsOf 2 = 1 := by kernel_rfl
    obtain ⟨y0, hy0⟩ := some_at hn (show 0 < _ by decide)
    have g0 : DataW.trod enc Try.prog w base spare held m 2 (([a0, a1, a2].drop 0).take (Try.prog.cellsOf 2)) = ys[0]? := hf 0 _ rfl
    rw [hc0, hy0] at g0
    obtain ⟨x0, G0, r0⟩ := Opens.int Try.underlying2 g0
    obtain ⟨q0, -, w0⟩ := r0
    simp only [List.drop_succ_cons, List.drop_zero, List.take_succ_cons, List.take_zero, List.cons.injEq, and_true] at q0
    have hc1 : Try.prog.cellsOf 2 = 1 := by kernel_rfl
    obtain ⟨y1, hy1⟩ := some_at hn (show 1 < _ by decide)
    have g1 : DataW.trod enc Try.prog w base spare held m 2 (([a0, a1, a2].drop 1).take (Try.prog.cellsOf 2)) = ys[1]? := hf 1 _ rfl
    rw [hc1, hy1] at g1
    obtain ⟨x1, G1, r1⟩ := Opens.int Try.underlying2 g1
    obtain ⟨q1, -, w1⟩ := r1
    simp only [List.drop_succ_cons, List.drop_zero, List.take_succ_cons, List.take_zero, List.cons.injEq, and_true] at q1
    have hc2 : Try.prog.cellsOf 2 = 1 := by kernel_rfl
    obtain ⟨y2, hy2⟩ := some_at hn (show 2 < _ by decide)
    have g2 : DataW.trod enc Try.prog w base spare held m 2 (([a0, a1, a2].drop 2).take (Try.prog.cellsOf 2)) = ys[2]? := hf 2 _ rfl
    rw [hc2, hy2] at g2
    obtain ⟨x2, G2, r2⟩ := Opens.int Try.underlying2 g2
    obtain ⟨q2, -, w2⟩ := r2
    simp only [List.drop_succ_cons, List.drop_zero, List.take_succ_cons, List.take_zero, List.cons.injEq, and_true] at q2
    obtain rfl := q0
    obtain rfl := q1
    obtain rfl := q2
    exact ⟨⟨x0, x1, x2⟩, _, ⟨rfl, rfl, (by simp only [wfHold] at *; simp only [w0, w1, w2, and_self])⟩⟩

theorem opensHoldS : Opens Rep.Hold.slice Try.prog 34 := Opens.slice Try.underlying34 (by kernel_rfl) (by decide) opensHold

theorem opensLock : Opens Rep.Lock Try.prog 65 := by
  intro H enc w base spare held fuel cs y h
  obtain ⟨ys, m, _, _, hl, hn, hf⟩ := DataW.trod_struct Try.underlying65 h
  have hC : Try.prog.cellsOf 65 = 3 := by kernel_rfl
  rw [hC] at hl
  match cs, hl with
  | [a0, a1, a2], _ =>
    have hc0 : Try.prog.cellsOf 2 = 1 := by kernel_rfl
    obtain ⟨y0, hy0⟩ := some_at hn (show 0 < _ by decide)
    have g0 : DataW.trod enc Try.prog w base spare held m 2 (([a0, a1, a2].drop 0).take (Try.prog.cellsOf 2)) = ys[0]? := hf 0 _ rfl
    rw [hc0, hy0] at g0
    obtain ⟨x0, G0, r0⟩ := Opens.int Try.underlying2 g0
    obtain ⟨q0, -, w0⟩ := r0
    simp only [List.drop_succ_cons, List.drop_zero, List.take_succ_cons, List.take_zero, List.cons.injEq, and_true] at q0
    have hc1 : Try.prog.cellsOf 2 = 1 := by kernel_rfl
    obtain ⟨y1, hy1⟩ := some_at hn (show 1 < _ by decide)
    have g1 : DataW.trod enc Try.prog w base spare held m 2 (([a0, a1, a2].drop 1).take (Try.prog.cellsOf 2)) = ys[1]? := hf 1 _ rfl
    rw [hc1, hy1] at g1
    obtain ⟨x1, G1, r1⟩ := Opens.int Try.underlying2 g1
    obtain ⟨q1, -, w1⟩ := r1
    simp only [List.drop_succ_cons, List.drop_zero, List.take_succ_cons, List.take_zero, List.cons.injEq, and_true] at q1
    have hc2 : Try.prog.cellsOf 2 = 1 := by kernel_rfl
    obtain ⟨y2, hy2⟩ := some_at hn (show 2 < _ by decide)
    have g2 : DataW.trod enc Try.prog w base spare held m 2 (([a0, a1, a2].drop 2).take (Try.prog.cellsOf 2)) = ys[2]? := hf 2 _ rfl
    rw [hc2, hy2] at g2
    obtain ⟨x2, G2, r2⟩ := Opens.int Try.underlying2 g2
    obtain ⟨q2, -, w2⟩ := r2
    simp only [List.drop_succ_cons, List.drop_zero, List.take_succ_cons, List.take_zero, List.cons.injEq, and_true] at q2
    obtain rfl := q0
    obtain rfl := q1
    obtain rfl := q2
    exact ⟨⟨x0, x1, x2⟩, _, ⟨rfl, rfl, (by simp only [wfLock] at *; simp only [w0, w1, w2, and_self])⟩⟩

theorem opensLockS : Opens Rep.Lock.slice Try.prog 22 := Opens.slice Try.underlying22 (by kernel_rfl) (by decide) opensLock

end Go.Proofs.Ytildfjlekplgjaa
