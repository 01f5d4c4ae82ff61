/- The laws' arguments opened. Printed by gen_fam.py, a program of this session. -/
import Derived.Test.YtdjcfcgkldokgaaFSectorWrite
import Derived.Test.YtdjcfcgkldokgaaFDisk
import Derived.Test.YtdjcfcgkldokgaaFGeometry
import Derived.Test.YtdjcfcgkldokgaaFLog
import Derived.Test.YtdjcfcgkldokgaaFOp
import Derived.Test.YtdjcfcgkldokgaaFOpsResult
import Derived.Test.YtdjcfcgkldokgaaO
namespace Go.Proofs.Ytdjcfcgkldokgaa
open Go.RowKit
set_option linter.unusedSimpArgs false
set_option linter.unusedVariables false
set_option maxRecDepth 100000

theorem opensByteS : Opens (Rep.int .u8).slice Try.prog 22 := Opens.slice Try.underlying22 (by kernel_rfl) (by decide) (Opens.int Try.underlying5)
theorem opensInt64S : Opens (Rep.int .i64).slice Try.prog 40 := Opens.slice Try.underlying40 (by kernel_rfl) (by decide) (Opens.int Try.underlying2)
theorem opensSectorWrite : Opens Rep.SectorWrite Try.prog 108 := by
  intro H enc w base spare held fuel cs y h
  obtain ⟨ys, m, _, _, hl, hn, hf⟩ := DataW.trod_struct Try.underlying108 h
  have hC : Try.prog.cellsOf 108 = 2 := by kernel_rfl
  rw [hC] at hl
  match cs, hl with
  | [a0, a1], _ =>
    have hc0 : Try.prog.cellsOf 2 = 1 := by kernel_rfl
    obtain ⟨y0, hy0⟩ := some_at hn (show 0 < _ by decide)
    have g0 : DataW.trod enc Try.prog w base spare held m 2 (([a0, a1].drop 0).take (Try.prog.cellsOf 2)) = ys[0]? := hf 0 _ rfl
    rw [hc0, hy0] at g0
    obtain ⟨x0, G0, r0⟩ := Opens.int Try.underlying2 g0
    obtain ⟨q0, -, w0⟩ := r0
    simp only [List.drop_succ_cons, List.drop_zero, List.take_succ_cons, List.take_zero, List.cons.injEq, and_true] at q0
    have hc1 : Try.prog.cellsOf 22 = 1 := by kernel_rfl
    obtain ⟨y1, hy1⟩ := some_at hn (show 1 < _ by decide)
    have g1 : DataW.trod enc Try.prog w base spare held m 22 (([a0, a1].drop 1).take (Try.prog.cellsOf 22)) = ys[1]? := hf 1 _ rfl
    rw [hc1, hy1] at g1
    obtain ⟨x1, G1, r1⟩ := opensByteS g1
    obtain ⟨A1, c1, q1, s1⟩ := r1
    simp only [List.drop_succ_cons, List.drop_zero, List.take_succ_cons, List.take_zero, List.cons.injEq, and_true] at q1
    obtain rfl := q0
    obtain rfl := q1
    exact ⟨⟨x0, x1⟩, _, ⟨A1, c1, _, rfl, rfl, (by simp only [wfSectorWrite] at *; simp only [w0, and_self]), s1⟩⟩

theorem opensSectorWriteS : Opens Rep.SectorWrite.slice Try.prog 23 := Opens.slice Try.underlying23 (by kernel_rfl) (by decide) opensSectorWrite

theorem opensDisk : Opens Rep.Disk Try.prog 25 := by
  intro H enc w base spare held fuel cs y h
  obtain ⟨ys, m, _, _, hl, hn, hf⟩ := DataW.trod_struct Try.underlying25 h
  have hC : Try.prog.cellsOf 25 = 2 := by kernel_rfl
  rw [hC] at hl
  match cs, hl with
  | [a0, a1], _ =>
    have hc0 : Try.prog.cellsOf 22 = 1 := by kernel_rfl
    obtain ⟨y0, hy0⟩ := some_at hn (show 0 < _ by decide)
    have g0 : DataW.trod enc Try.prog w base spare held m 22 (([a0, a1].drop 0).take (Try.prog.cellsOf 22)) = ys[0]? := hf 0 _ rfl
    rw [hc0, hy0] at g0
    obtain ⟨x0, G0, r0⟩ := opensByteS g0
    obtain ⟨A1, c1, q0, s1⟩ := r0
    simp only [List.drop_succ_cons, List.drop_zero, List.take_succ_cons, List.take_zero, List.cons.injEq, and_true] at q0
    have hc1 : Try.prog.cellsOf 23 = 1 := by kernel_rfl
    obtain ⟨y1, hy1⟩ := some_at hn (show 1 < _ by decide)
    have g1 : DataW.trod enc Try.prog w base spare held m 23 (([a0, a1].drop 1).take (Try.prog.cellsOf 23)) = ys[1]? := hf 1 _ rfl
    rw [hc1, hy1] at g1
    obtain ⟨x1, G1, r1⟩ := opensSectorWriteS g1
    obtain ⟨A2, c2, q1, s2⟩ := r1
    simp only [List.drop_succ_cons, List.drop_zero, List.take_succ_cons, List.take_zero, List.cons.injEq, and_true] at q1
    obtain rfl := q0
    obtain rfl := q1
    exact ⟨⟨x0, x1⟩, _, ⟨A1, c1, _, A2, c2, _, rfl, rfl, trivial, s1, s2⟩⟩

theorem opensGeometry : Opens Rep.Geometry Try.prog 73 := by
  intro H enc w base spare held fuel cs y h
  obtain ⟨ys, m, _, _, hl, hn, hf⟩ := DataW.trod_struct Try.underlying73 h
  have hC : Try.prog.cellsOf 73 = 3 := by kernel_rfl
  rw [hC] at hl
  match cs, hl with
  | [a0, a1, a2], _ =>
    have hc0 : Try.prog.cellsOf 2 = 1 := by kernel_rfl
    obtain ⟨y0, hy0⟩ := some_at hn (show 0 < _ by decide)
    have g0 : DataW.trod enc Try.prog w base spare held m 2 (([a0, a1, a2].drop 0).take (Try.prog.cellsOf 2)) = ys[0]? := hf 0 _ rfl
    rw [hc0, hy0] at g0
    obtain ⟨x0, G0, r0⟩ := Opens.int Try.underlying2 g0
    obtain ⟨q0, -, w0⟩ := r0
    simp only [List.drop_succ_cons, List.drop_zero, List.take_succ_cons, List.take_zero, List.cons.injEq, and_true] at q0
    have hc1 : Try.prog.cellsOf 2 = 1 := by kernel_rfl
    obtain ⟨y1, hy1⟩ := some_at hn (show 1 < _ by decide)
    have g1 : DataW.trod enc Try.prog w base spare held m 2 (([a0, a1, a2].drop 1).take (Try.prog.cellsOf 2)) = ys[1]? := hf 1 _ rfl
    rw [hc1, hy1] at g1
    obtain ⟨x1, G1, r1⟩ := Opens.int Try.underlying2 g1
    obtain ⟨q1, -, w1⟩ := r1
    simp only [List.drop_succ_cons, List.drop_zero, List.take_succ_cons, List.take_zero, List.cons.injEq, and_true] at q1
    have hc2 : Try.prog.cellsOf 2 = 1 := by kernel_rfl
    obtain ⟨y2, hy2⟩ := some_at hn (show 2 < _ by decide)
    have g2 : DataW.trod enc Try.prog w base spare held m 2 (([a0, a1, a2].drop 2).take (Try.prog.cellsOf 2)) = ys[2]? := hf 2 _ rfl
    rw [hc2, hy2] at g2
    obtain ⟨x2, G2, r2⟩ := Opens.int Try.underlying2 g2
    obtain ⟨q2, -, w2⟩ := r2
    simp only [List.drop_succ_cons, List.drop_zero, List.take_succ_cons, List.take_zero, List.cons.injEq, and_true] at q2
    obtain rfl := q0
    obtain rfl := q1
    obtain rfl := q2
    exact ⟨⟨x0, x1, x2⟩, _, ⟨rfl, rfl, (by simp only [wfGeometry] at *; simp only [w0, w1, w2, and_self])⟩⟩

theorem opensOp : Opens Rep.Op Try.prog 88 := by
  intro H enc w base spare held fuel cs y h
  obtain ⟨ys, m, _, _, hl, hn, hf⟩ := DataW.trod_struct Try.underlying88 h
  have hC : Try.prog.cellsOf 88 = 3 := by kernel_rfl
  rw [hC] at hl
  match cs, hl with
  | [a0, a1, a2], _ =>
    have hc0 : Try.prog.cellsOf 2 = 1 := by kernel_rfl
    obtain ⟨y0, hy0⟩ := some_at hn (show 0 < _ by decide)
    have g0 : DataW.trod enc Try.prog w base spare held m 2 (([a0, a1, a2].drop 0).take (Try.prog.cellsOf 2)) = ys[0]? := hf 0 _ rfl
    rw [hc0, hy0] at g0
    obtain ⟨x0, G0, r0⟩ := Opens.int Try.underlying2 g0
    obtain ⟨q0, -, w0⟩ := r0
    simp only [List.drop_succ_cons, List.drop_zero, List.take_succ_cons, List.take_zero, List.cons.injEq, and_true] at q0
    have hc1 : Try.prog.cellsOf 2 = 1 := by kernel_rfl
    obtain ⟨y1, hy1⟩ := some_at hn (show 1 < _ by decide)
    have g1 : DataW.trod enc Try.prog w base spare held m 2 (([a0, a1, a2].drop 1).take (Try.prog.cellsOf 2)) = ys[1]? := hf 1 _ rfl
    rw [hc1, hy1] at g1
    obtain ⟨x1, G1, r1⟩ := Opens.int Try.underlying2 g1
    obtain ⟨q1, -, w1⟩ := r1
    simp only [List.drop_succ_cons, List.drop_zero, List.take_succ_cons, List.take_zero, List.cons.injEq, and_true] at q1
    have hc2 : Try.prog.cellsOf 22 = 1 := by kernel_rfl
    obtain ⟨y2, hy2⟩ := some_at hn (show 2 < _ by decide)
    have g2 : DataW.trod enc Try.prog w base spare held m 22 (([a0, a1, a2].drop 2).take (Try.prog.cellsOf 22)) = ys[2]? := hf 2 _ rfl
    rw [hc2, hy2] at g2
    obtain ⟨x2, G2, r2⟩ := opensByteS g2
    obtain ⟨A1, c1, q2, s1⟩ := r2
    simp only [List.drop_succ_cons, List.drop_zero, List.take_succ_cons, List.take_zero, List.cons.injEq, and_true] at q2
    obtain rfl := q0
    obtain rfl := q1
    obtain rfl := q2
    exact ⟨⟨x0, x1, x2⟩, _, ⟨A1, c1, _, rfl, rfl, (by simp only [wfOp] at *; simp only [w0, w1, and_self]), s1⟩⟩

theorem opensOpS : Opens Rep.Op.slice Try.prog 46 := Opens.slice Try.underlying46 (by kernel_rfl) (by decide) opensOp

end Go.Proofs.Ytdjcfcgkldokgaa
