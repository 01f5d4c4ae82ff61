/- The laws' arguments opened. Printed by gen_fam.py, a program of this session. -/
import Derived.Test.YtghgjddiheebeaaDoorMFDirtyEntry
import Derived.Test.YtghgjddiheebeaaDoorMFPageRecord
import Derived.Test.YtghgjddiheebeaaDoorMFTxnEntry
import Derived.Test.YtghgjddiheebeaaDoorMFLogRecord
import Derived.Test.YtghgjddiheebeaaDoorMFLogFrame
import Derived.Test.YtghgjddiheebeaaDoorMFPageResult
import Derived.Test.YtghgjddiheebeaaDoorMFRecordResult
import Derived.Test.YtghgjddiheebeaaDoorMO
namespace Go.Proofs.YtghgjddiheebeaaDoor
open Go.RowKit
set_option linter.unusedSimpArgs false
set_option linter.unusedVariables false
set_option maxRecDepth 100000

theorem opensByteS : Opens (Rep.int .u8).slice Tryd.prog 22 := Opens.slice Tryd.underlying22 (by kernel_rfl) (by decide) (Opens.int Tryd.underlying5)
theorem opensDirtyEntry : Opens Rep.DirtyEntry Tryd.prog 145 := by
  intro H enc w base spare held fuel cs y h
  obtain ⟨ys, m, _, _, hl, hn, hf⟩ := DataW.trod_struct Tryd.underlying145 h
  have hC : Tryd.prog.cellsOf 145 = 2 := by kernel_rfl
  rw [hC] at hl
  match cs, hl with
  | [a0, a1], _ =>
    have hc0 : Tryd.prog.cellsOf 2 = 1 := by kernel_rfl
    obtain ⟨y0, hy0⟩ := some_at hn (show 0 < _ by decide)
    have g0 : DataW.trod enc Tryd.prog w base spare held m 2 (([a0, a1].drop 0).take (Tryd.prog.cellsOf 2)) = ys[0]? := hf 0 _ rfl
    rw [hc0, hy0] at g0
    obtain ⟨x0, G0, r0⟩ := Opens.int Tryd.underlying2 g0
    obtain ⟨q0, -, w0⟩ := r0
    simp only [List.drop_succ_cons, List.drop_zero, List.take_succ_cons, List.take_zero, List.cons.injEq, and_true] at q0
    have hc1 : Tryd.prog.cellsOf 2 = 1 := by kernel_rfl
    obtain ⟨y1, hy1⟩ := some_at hn (show 1 < _ by decide)
    have g1 : DataW.trod enc Tryd.prog w base spare held m 2 (([a0, a1].drop 1).take (Tryd.prog.cellsOf 2)) = ys[1]? := hf 1 _ rfl
    rw [hc1, hy1] at g1
    obtain ⟨x1, G1, r1⟩ := Opens.int Tryd.underlying2 g1
    obtain ⟨q1, -, w1⟩ := r1
    simp only [List.drop_succ_cons, List.drop_zero, List.take_succ_cons, List.take_zero, List.cons.injEq, and_true] at q1
    obtain rfl := q0
    obtain rfl := q1
    exact ⟨⟨x0, x1⟩, _, ⟨rfl, rfl, (by simp only [wfDirtyEntry] at *; simp only [w0, w1, and_self])⟩⟩

theorem opensDirtyEntryS : Opens Rep.DirtyEntry.slice Tryd.prog 41 := Opens.slice Tryd.underlying41 (by kernel_rfl) (by decide) opensDirtyEntry

theorem opensPageRecord : Opens Rep.PageRecord Tryd.prog 28 := by
  intro H enc w base spare held fuel cs y h
  obtain ⟨ys, m, _, _, hl, hn, hf⟩ := DataW.trod_struct Tryd.underlying28 h
  have hC : Tryd.prog.cellsOf 28 = 2 := by kernel_rfl
  rw [hC] at hl
  match cs, hl with
  | [a0, a1], _ =>
    have hc0 : Tryd.prog.cellsOf 4 = 1 := by kernel_rfl
    obtain ⟨y0, hy0⟩ := some_at hn (show 0 < _ by decide)
    have g0 : DataW.trod enc Tryd.prog w base spare held m 4 (([a0, a1].drop 0).take (Tryd.prog.cellsOf 4)) = ys[0]? := hf 0 _ rfl
    rw [hc0, hy0] at g0
    obtain ⟨x0, G0, r0⟩ := Opens.bool Tryd.underlying4 g0
    obtain ⟨q0, -⟩ := r0
    simp only [List.drop_succ_cons, List.drop_zero, List.take_succ_cons, List.take_zero, List.cons.injEq, and_true] at q0
    have hc1 : Tryd.prog.cellsOf 22 = 1 := by kernel_rfl
    obtain ⟨y1, hy1⟩ := some_at hn (show 1 < _ by decide)
    have g1 : DataW.trod enc Tryd.prog w base spare held m 22 (([a0, a1].drop 1).take (Tryd.prog.cellsOf 22)) = ys[1]? := hf 1 _ rfl
    rw [hc1, hy1] at g1
    obtain ⟨x1, G1, r1⟩ := opensByteS g1
    obtain ⟨A1, c1, q1, s1⟩ := r1
    simp only [List.drop_succ_cons, List.drop_zero, List.take_succ_cons, List.take_zero, List.cons.injEq, and_true] at q1
    obtain rfl := q0
    obtain rfl := q1
    exact ⟨⟨x0, x1⟩, _, ⟨A1, c1, _, rfl, rfl, trivial, s1⟩⟩

theorem opensTxnEntry : Opens Rep.TxnEntry Tryd.prog 143 := by
  intro H enc w base spare held fuel cs y h
  obtain ⟨ys, m, _, _, hl, hn, hf⟩ := DataW.trod_struct Tryd.underlying143 h
  have hC : Tryd.prog.cellsOf 143 = 4 := by kernel_rfl
  rw [hC] at hl
  match cs, hl with
  | [a0, a1, a2, a3], _ =>
    have hc0 : Tryd.prog.cellsOf 2 = 1 := by kernel_rfl
    obtain ⟨y0, hy0⟩ := some_at hn (show 0 < _ by decide)
    have g0 : DataW.trod enc Tryd.prog w base spare held m 2 (([a0, a1, a2, a3].drop 0).take (Tryd.prog.cellsOf 2)) = ys[0]? := hf 0 _ rfl
    rw [hc0, hy0] at g0
    obtain ⟨x0, G0, r0⟩ := Opens.int Tryd.underlying2 g0
    obtain ⟨q0, -, w0⟩ := r0
    simp only [List.drop_succ_cons, List.drop_zero, List.take_succ_cons, List.take_zero, List.cons.injEq, and_true] at q0
    have hc1 : Tryd.prog.cellsOf 2 = 1 := by kernel_rfl
    obtain ⟨y1, hy1⟩ := some_at hn (show 1 < _ by decide)
    have g1 : DataW.trod enc Tryd.prog w base spare held m 2 (([a0, a1, a2, a3].drop 1).take (Tryd.prog.cellsOf 2)) = ys[1]? := hf 1 _ rfl
    rw [hc1, hy1] at g1
    obtain ⟨x1, G1, r1⟩ := Opens.int Tryd.underlying2 g1
    obtain ⟨q1, -, w1⟩ := r1
    simp only [List.drop_succ_cons, List.drop_zero, List.take_succ_cons, List.take_zero, List.cons.injEq, and_true] at q1
    have hc2 : Tryd.prog.cellsOf 2 = 1 := by kernel_rfl
    obtain ⟨y2, hy2⟩ := some_at hn (show 2 < _ by decide)
    have g2 : DataW.trod enc Tryd.prog w base spare held m 2 (([a0, a1, a2, a3].drop 2).take (Tryd.prog.cellsOf 2)) = ys[2]? := hf 2 _ rfl
    rw [hc2, hy2] at g2
    obtain ⟨x2, G2, r2⟩ := Opens.int Tryd.underlying2 g2
    obtain ⟨q2, -, w2⟩ := r2
    simp only [List.drop_succ_cons, List.drop_zero, List.take_succ_cons, List.take_zero, List.cons.injEq, and_true] at q2
    have hc3 : Tryd.prog.cellsOf 2 = 1 := by kernel_rfl
    obtain ⟨y3, hy3⟩ := some_at hn (show 3 < _ by decide)
    have g3 : DataW.trod enc Tryd.prog w base spare held m 2 (([a0, a1, a2, a3].drop 3).take (Tryd.prog.cellsOf 2)) = ys[3]? := hf 3 _ rfl
    rw [hc3, hy3] at g3
    obtain ⟨x3, G3, r3⟩ := Opens.int Tryd.underlying2 g3
    obtain ⟨q3, -, w3⟩ := r3
    simp only [List.drop_succ_cons, List.drop_zero, List.take_succ_cons, List.take_zero, List.cons.injEq, and_true] at q3
    obtain rfl := q0
    obtain rfl := q1
    obtain rfl := q2
    obtain rfl := q3
    exact ⟨⟨x0, x1, x2, x3⟩, _, ⟨rfl, rfl, (by simp only [wfTxnEntry] at *; simp only [w0, w1, w2, w3, and_self])⟩⟩

theorem opensTxnEntryS : Opens Rep.TxnEntry.slice Tryd.prog 40 := Opens.slice Tryd.underlying40 (by kernel_rfl) (by decide) opensTxnEntry

theorem opensLogRecord : Opens Rep.LogRecord Tryd.prog 43 := by
  intro H enc w base spare held fuel cs y h
  obtain ⟨ys, m, _, _, hl, hn, hf⟩ := DataW.trod_struct Tryd.underlying43 h
  have hC : Tryd.prog.cellsOf 43 = 14 := by kernel_rfl
  rw [hC] at hl
  match cs, hl with
  | [a0, a1, a2, a3, a4, a5, a6, a7, a8, a9, a10, a11, a12, a13], _ =>
    have hc0 : Tryd.prog.cellsOf 2 = 1 := by kernel_rfl
    obtain ⟨y0, hy0⟩ := some_at hn (show 0 < _ by decide)
    have g0 : DataW.trod enc Tryd.prog w base spare held m 2 (([a0, a1, a2, a3, a4, a5, a6, a7, a8, a9, a10, a11, a12, a13].drop 0).take (Tryd.prog.cellsOf 2)) = ys[0]? := hf 0 _ rfl
    rw [hc0, hy0] at g0
    obtain ⟨x0, G0, r0⟩ := Opens.int Tryd.underlying2 g0
    obtain ⟨q0, -, w0⟩ := r0
    simp only [List.drop_succ_cons, List.drop_zero, List.take_succ_cons, List.take_zero, List.cons.injEq, and_true] at q0
    have hc1 : Tryd.prog.cellsOf 2 = 1 := by kernel_rfl
    obtain ⟨y1, hy1⟩ := some_at hn (show 1 < _ by decide)
    have g1 : DataW.trod enc Tryd.prog w base spare held m 2 (([a0, a1, a2, a3, a4, a5, a6, a7, a8, a9, a10, a11, a12, a13].drop 1).take (Tryd.prog.cellsOf 2)) = ys[1]? := hf 1 _ rfl
    rw [hc1, hy1] at g1
    obtain ⟨x1, G1, r1⟩ := Opens.int Tryd.underlying2 g1
    obtain ⟨q1, -, w1⟩ := r1
    simp only [List.drop_succ_cons, List.drop_zero, List.take_succ_cons, List.take_zero, List.cons.injEq, and_true] at q1
    have hc2 : Tryd.prog.cellsOf 2 = 1 := by kernel_rfl
    obtain ⟨y2, hy2⟩ := some_at hn (show 2 < _ by decide)
    have g2 : DataW.trod enc Tryd.prog w base spare held m 2 (([a0, a1, a2, a3, a4, a5, a6, a7, a8, a9, a10, a11, a12, a13].drop 2).take (Tryd.prog.cellsOf 2)) = ys[2]? := hf 2 _ rfl
    rw [hc2, hy2] at g2
    obtain ⟨x2, G2, r2⟩ := Opens.int Tryd.underlying2 g2
    obtain ⟨q2, -, w2⟩ := r2
    simp only [List.drop_succ_cons, List.drop_zero, List.take_succ_cons, List.take_zero, List.cons.injEq, and_true] at q2
    have hc3 : Tryd.prog.cellsOf 2 = 1 := by kernel_rfl
    obtain ⟨y3, hy3⟩ := some_at hn (show 3 < _ by decide)
    have g3 : DataW.trod enc Tryd.prog w base spare held m 2 (([a0, a1, a2, a3, a4, a5, a6, a7, a8, a9, a10, a11, a12, a13].drop 3).take (Tryd.prog.cellsOf 2)) = ys[3]? := hf 3 _ rfl
    rw [hc3, hy3] at g3
    obtain ⟨x3, G3, r3⟩ := Opens.int Tryd.underlying2 g3
    obtain ⟨q3, -, w3⟩ := r3
    simp only [List.drop_succ_cons, List.drop_zero, List.take_succ_cons, List.take_zero, List.cons.injEq, and_true] at q3
    have hc4 : Tryd.prog.cellsOf 2 = 1 := by kernel_rfl
    obtain ⟨y4, hy4⟩ := some_at hn (show 4 < _ by decide)
    have g4 : DataW.trod enc Tryd.prog w base spare held m 2 (([a0, a1, a2, a3, a4, a5, a6, a7, a8, a9, a10, a11, a12, a13].drop 4).take (Tryd.prog.cellsOf 2)) = ys[4]? := hf 4 _ rfl
    rw [hc4, hy4] at g4
    obtain ⟨x4, G4, r4⟩ := Opens.int Tryd.underlying2 g4
    obtain ⟨q4, -, w4⟩ := r4
    simp only [List.drop_succ_cons, List.drop_zero, List.take_succ_cons, List.take_zero, List.cons.injEq, and_true] at q4
    have hc5 : Tryd.prog.cellsOf 28 = 2 := by kernel_rfl
    obtain ⟨y5, hy5⟩ := some_at hn (show 5 < _ by decide)
    have g5 : DataW.trod enc Tryd.prog w base spare held m 28 (([a0, a1, a2, a3, a4, a5, a6, a7, a8, a9, a10, a11, a12, a13].drop 5).take (Tryd.prog.cellsOf 28)) = ys[5]? := hf 5 _ rfl
    rw [hc5, hy5] at g5
    obtain ⟨x5, G5, r5⟩ := opensPageRecord g5
    obtain ⟨A1, c1, F1, q5, -, w5, s1⟩ := r5
    simp only [List.drop_succ_cons, List.drop_zero, List.take_succ_cons, List.take_zero, List.cons.injEq, and_true] at q5
    have hc6 : Tryd.prog.cellsOf 28 = 2 := by kernel_rfl
    obtain ⟨y6, hy6⟩ := some_at hn (show 6 < _ by decide)
    have g6 : DataW.trod enc Tryd.prog w base spare held m 28 (([a0, a1, a2, a3, a4, a5, a6, a7, a8, a9, a10, a11, a12, a13].drop 7).take (Tryd.prog.cellsOf 28)) = ys[6]? := hf 6 _ rfl
    rw [hc6, hy6] at g6
    obtain ⟨x6, G6, r6⟩ := opensPageRecord g6
    obtain ⟨A2, c2, F2, q6, -, w6, s2⟩ := r6
    simp only [List.drop_succ_cons, List.drop_zero, List.take_succ_cons, List.take_zero, List.cons.injEq, and_true] at q6
    have hc7 : Tryd.prog.cellsOf 2 = 1 := by kernel_rfl
    obtain ⟨y7, hy7⟩ := some_at hn (show 7 < _ by decide)
    have g7 : DataW.trod enc Tryd.prog w base spare held m 2 (([a0, a1, a2, a3, a4, a5, a6, a7, a8, a9, a10, a11, a12, a13].drop 9).take (Tryd.prog.cellsOf 2)) = ys[7]? := hf 7 _ rfl
    rw [hc7, hy7] at g7
    obtain ⟨x7, G7, r7⟩ := Opens.int Tryd.underlying2 g7
    obtain ⟨q7, -, w7⟩ := r7
    simp only [List.drop_succ_cons, List.drop_zero, List.take_succ_cons, List.take_zero, List.cons.injEq, and_true] at q7
    have hc8 : Tryd.prog.cellsOf 2 = 1 := by kernel_rfl
    obtain ⟨y8, hy8⟩ := some_at hn (show 8 < _ by decide)
    have g8 : DataW.trod enc Tryd.prog w base spare held m 2 (([a0, a1, a2, a3, a4, a5, a6, a7, a8, a9, a10, a11, a12, a13].drop 10).take (Tryd.prog.cellsOf 2)) = ys[8]? := hf 8 _ rfl
    rw [hc8, hy8] at g8
    obtain ⟨x8, G8, r8⟩ := Opens.int Tryd.underlying2 g8
    obtain ⟨q8, -, w8⟩ := r8
    simp only [List.drop_succ_cons, List.drop_zero, List.take_succ_cons, List.take_zero, List.cons.injEq, and_true] at q8
    have hc9 : Tryd.prog.cellsOf 40 = 1 := by kernel_rfl
    obtain ⟨y9, hy9⟩ := some_at hn (show 9 < _ by decide)
    have g9 : DataW.trod enc Tryd.prog w base spare held m 40 (([a0, a1, a2, a3, a4, a5, a6, a7, a8, a9, a10, a11, a12, a13].drop 11).take (Tryd.prog.cellsOf 40)) = ys[9]? := hf 9 _ rfl
    rw [hc9, hy9] at g9
    obtain ⟨x9, G9, r9⟩ := opensTxnEntryS g9
    obtain ⟨A3, c3, q9, s3⟩ := r9
    simp only [List.drop_succ_cons, List.drop_zero, List.take_succ_cons, List.take_zero, List.cons.injEq, and_true] at q9
    have hc10 : Tryd.prog.cellsOf 41 = 1 := by kernel_rfl
    obtain ⟨y10, hy10⟩ := some_at hn (show 10 < _ by decide)
    have g10 : DataW.trod enc Tryd.prog w base spare held m 41 (([a0, a1, a2, a3, a4, a5, a6, a7, a8, a9, a10, a11, a12, a13].drop 12).take (Tryd.prog.cellsOf 41)) = ys[10]? := hf 10 _ rfl
    rw [hc10, hy10] at g10
    obtain ⟨x10, G10, r10⟩ := opensDirtyEntryS g10
    obtain ⟨A4, c4, q10, s4⟩ := r10
    simp only [List.drop_succ_cons, List.drop_zero, List.take_succ_cons, List.take_zero, List.cons.injEq, and_true] at q10
    have hc11 : Tryd.prog.cellsOf 22 = 1 := by kernel_rfl
    obtain ⟨y11, hy11⟩ := some_at hn (show 11 < _ by decide)
    have g11 : DataW.trod enc Tryd.prog w base spare held m 22 (([a0, a1, a2, a3, a4, a5, a6, a7, a8, a9, a10, a11, a12, a13].drop 13).take (Tryd.prog.cellsOf 22)) = ys[11]? := hf 11 _ rfl
    rw [hc11, hy11] at g11
    obtain ⟨x11, G11, r11⟩ := opensByteS g11
    obtain ⟨A5, c5, q11, s5⟩ := r11
    simp only [List.drop_succ_cons, List.drop_zero, List.take_succ_cons, List.take_zero, List.cons.injEq, and_true] at q11
    obtain rfl := q0
    obtain rfl := q1
    obtain rfl := q2
    obtain rfl := q3
    obtain rfl := q4
    obtain ⟨rfl, rfl⟩ := q5
    obtain ⟨rfl, rfl⟩ := q6
    obtain rfl := q7
    obtain rfl := q8
    obtain rfl := q9
    obtain rfl := q10
    obtain rfl := q11
    exact ⟨⟨x0, x1, x2, x3, x4, x5, x6, x7, x8, x9, x10, x11⟩, _, ⟨A1, c1, _, A2, c2, _, A3, c3, _, A4, c4, _, A5, c5, _, rfl, rfl, (by simp only [wfLogRecord, wfPageRecord, wfPageRecord] at *; simp only [w0, w1, w2, w3, w4, w7, w8, and_self]), s1, s2, s3, s4, s5⟩⟩

theorem opensLogFrame : Opens Rep.LogFrame Tryd.prog 122 := by
  intro H enc w base spare held fuel cs y h
  obtain ⟨ys, m, _, _, hl, hn, hf⟩ := DataW.trod_struct Tryd.underlying122 h
  have hC : Tryd.prog.cellsOf 122 = 16 := by kernel_rfl
  rw [hC] at hl
  match cs, hl with
  | [a0, a1, a2, a3, a4, a5, a6, a7, a8, a9, a10, a11, a12, a13, a14, a15], _ =>
    have hc0 : Tryd.prog.cellsOf 2 = 1 := by kernel_rfl
    obtain ⟨y0, hy0⟩ := some_at hn (show 0 < _ by decide)
    have g0 : DataW.trod enc Tryd.prog w base spare held m 2 (([a0, a1, a2, a3, a4, a5, a6, a7, a8, a9, a10, a11, a12, a13, a14, a15].drop 0).take (Tryd.prog.cellsOf 2)) = ys[0]? := hf 0 _ rfl
    rw [hc0, hy0] at g0
    obtain ⟨x0, G0, r0⟩ := Opens.int Tryd.underlying2 g0
    obtain ⟨q0, -, w0⟩ := r0
    simp only [List.drop_succ_cons, List.drop_zero, List.take_succ_cons, List.take_zero, List.cons.injEq, and_true] at q0
    have hc1 : Tryd.prog.cellsOf 2 = 1 := by kernel_rfl
    obtain ⟨y1, hy1⟩ := some_at hn (show 1 < _ by decide)
    have g1 : DataW.trod enc Tryd.prog w base spare held m 2 (([a0, a1, a2, a3, a4, a5, a6, a7, a8, a9, a10, a11, a12, a13, a14, a15].drop 1).take (Tryd.prog.cellsOf 2)) = ys[1]? := hf 1 _ rfl
    rw [hc1, hy1] at g1
    obtain ⟨x1, G1, r1⟩ := Opens.int Tryd.underlying2 g1
    obtain ⟨q1, -, w1⟩ := r1
    simp only [List.drop_succ_cons, List.drop_zero, List.take_succ_cons, List.take_zero, List.cons.injEq, and_true] at q1
    have hc2 : Tryd.prog.cellsOf 43 = 14 := by kernel_rfl
    obtain ⟨y2, hy2⟩ := some_at hn (show 2 < _ by decide)
    have g2 : DataW.trod enc Tryd.prog w base spare held m 43 (([a0, a1, a2, a3, a4, a5, a6, a7, a8, a9, a10, a11, a12, a13, a14, a15].drop 2).take (Tryd.prog.cellsOf 43)) = ys[2]? := hf 2 _ rfl
    rw [hc2, hy2] at g2
    obtain ⟨x2, G2, r2⟩ := opensLogRecord g2
    obtain ⟨A1, c1, F1, A2, c2, F2, A3, c3, F3, A4, c4, F4, A5, c5, F5, q2, -, w2, s1, s2, s3, s4, s5⟩ := r2
    simp only [List.drop_succ_cons, List.drop_zero, List.take_succ_cons, List.take_zero, List.cons.injEq, and_true] at q2
    obtain rfl := q0
    obtain rfl := q1
    obtain ⟨rfl, rfl, rfl, rfl, rfl, rfl, rfl, rfl, rfl, rfl, rfl, rfl, rfl, rfl⟩ := q2
    exact ⟨⟨x0, x1, x2⟩, _, ⟨A1, c1, _, A2, c2, _, A3, c3, _, A4, c4, _, A5, c5, _, rfl, rfl, (by simp only [wfLogFrame, wfLogRecord, wfPageRecord, wfPageRecord] at *; simp only [w0, w1, w2, and_self]), s1, s2, s3, s4, s5⟩⟩

theorem opensLogFrameS : Opens Rep.LogFrame.slice Tryd.prog 56 := Opens.slice Tryd.underlying56 (by kernel_rfl) (by decide) opensLogFrame

end Go.Proofs.YtghgjddiheebeaaDoor
