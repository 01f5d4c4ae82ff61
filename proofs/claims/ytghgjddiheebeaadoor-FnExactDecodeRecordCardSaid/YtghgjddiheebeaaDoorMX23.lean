/- RecordFault: the reference's, whole. -/
import Derived.Test.YtghgjddiheebeaaDoorMX19
import Derived.Test.YtghgjddiheebeaaDoorMX20
import Derived.Test.YtghgjddiheebeaaDoorMX21
import Derived.Test.YtghgjddiheebeaaDoorMX22
import Derived.Deep.DeepCutAuto
import Derived.Deep.CutBlock
namespace Go.Proofs.YtghgjddiheebeaaDoor
open Go.RowKit
set_option linter.unusedSimpArgs false
set_option linter.unusedVariables false
set_option maxRecDepth 100000 in
set_option maxHeartbeats 8000000 in
theorem specRecordFault_calls (w : World) (v : Value) (x : DLogRecord) (F : List Nat) (h : Rep.LogRecord.V w v x F) :
    Calls Tryd.prog 27 #[v] w fun e w' => e = .returned (.int .i64 (recFault x)) ∧ Ext w w' := by
  obtain ⟨_, ⟨A1, c1, F1, A2, c2, F2, A3, c3, F3, A4, c4, F4, A5, c5, F5, rfl, rfl, hw, s1, s2, s3, s4, s5⟩, rfl⟩ := h
  show Calls _ _ #[.agg #[_, _, _, _, _, _, _, _, _, _, _, _, _, _]] _ _
  obtain ⟨k, t, pv, pg, sl, ⟨u1, d1⟩, ⟨u2, d2⟩, un, nt, ts, ds, im⟩ := x
  dsimp only [recFault] at *
  have HT : Hid (∀ W, Ext w W → Calls Tryd.prog 73 #[.agg #[.int .i64 k, .int .i64 t, .int .i64 pv, .int .i64 pg, .int .i64 sl, .bool u1, .slice A1 d1.length c1, .bool u2, .slice A2 d2.length c2, .int .i64 un, .int .i64 nt, .slice A3 ts.length c3, .slice A4 ds.length c4, .slice A5 im.length c5]] W fun e w' => e = .returned (.bool (!tabBad nt ts ds)) ∧ Ext W w') :=
    fun W hW => l4Tables_calls W _ _ _ _ _ _ _ _ _ _ _ nt A3 c3 ts F3 A4 c4 ds F4 (Rep.sl_ext s3 hW) (Rep.sl_ext s4 hW)
  have HP : Hid (∀ W, Ext w W → Calls Tryd.prog 74 #[.slice A5 im.length c5, .int .i64 pg] W fun e w' => e = .returned (.int .i64 (pageFault im pg)) ∧ Ext W w') :=
    fun W hW => specPageFault_calls W A5 c5 im F5 (Rep.sl_ext s5 hW) pg
  by_cases hk : inR k 1 8 = true
  · rcases inR_kind hk with rfl | rfl | rfl | rfl | rfl | rfl | rfl | rfl
    · exact specRF_1 w t pv pg sl u1 A1 _ c1 u2 A2 _ c2 un nt A3 _ c3 A4 _ c4 A5 _ c5 _ _ (Lib.hid fun W hW => specEx_1 W t pv pg sl u1 A1 _ c1 u2 A2 _ c2 un nt A3 _ c3 A4 _ c4 A5 _ c5)
    · exact specRF_2 w t pv pg sl u1 A1 _ c1 u2 A2 _ c2 un nt A3 _ c3 A4 _ c4 A5 _ c5 _ _ (Lib.hid fun W hW => specEx_2 W t pv pg sl u1 A1 _ c1 u2 A2 _ c2 un nt A3 _ c3 A4 _ c4 A5 _ c5)
    · exact specRF_3 w t pv pg sl u1 A1 _ c1 u2 A2 _ c2 un nt A3 _ c3 A4 _ c4 A5 _ c5 _ _ (Lib.hid fun W hW => specEx_3 W t pv pg sl u1 A1 _ c1 u2 A2 _ c2 un nt A3 _ c3 A4 _ c4 A5 _ c5)
    · exact specRF_4 w t pv pg sl u1 A1 _ c1 u2 A2 _ c2 un nt A3 _ c3 A4 _ c4 A5 _ c5 _ _ (Lib.hid fun W hW => specEx_4 W t pv pg sl u1 A1 _ c1 u2 A2 _ c2 un nt A3 _ c3 A4 _ c4 A5 _ c5)
    · exact specRF_5 w t pv pg sl u1 A1 _ c1 u2 A2 _ c2 un nt A3 _ c3 A4 _ c4 A5 _ c5 _ _ (Lib.hid fun W hW => specEx_5 W t pv pg sl u1 A1 _ c1 u2 A2 _ c2 un nt A3 _ c3 A4 _ c4 A5 _ c5)
    · exact specRF_6 w t pv pg sl u1 A1 _ c1 u2 A2 _ c2 un nt A3 _ c3 A4 _ c4 A5 _ c5 _ _ (Lib.hid fun W hW => specEx_6 W t pv pg sl u1 A1 _ c1 u2 A2 _ c2 un nt A3 _ c3 A4 _ c4 A5 _ c5)
    · exact specRF_7 w t pv pg sl u1 A1 _ c1 u2 A2 _ c2 un nt A3 _ c3 A4 _ c4 A5 _ c5 _ _ (Lib.hid fun W hW => specEx_7 W t pv pg sl u1 A1 _ c1 u2 A2 _ c2 un nt A3 _ c3 A4 _ c4 A5 _ c5) HT
    · exact specRF_8 w t pv pg sl u1 A1 _ c1 u2 A2 _ c2 un nt A3 _ c3 A4 _ c4 A5 _ c5 _ _ (Lib.hid fun W hW => specEx_8 W t pv pg sl u1 A1 _ c1 u2 A2 _ c2 un nt A3 _ c3 A4 _ c4 A5 _ c5) HP
  · replace hk : inR k 1 8 = false := by simpa using hk
    rw [show recF k t pv pg sl u1 d1.length u2 d2.length un nt ts.length ds.length im.length (tabBad nt ts ds) (pageFault im pg) = 1 from by rw [recF, if_pos hk]]
    have e1 : (k == 1) = false := by
      rw [beq_eq_false_iff_ne]; rintro rfl; exact absurd hk (by decide)
    have e2 : (k == 2) = false := by
      rw [beq_eq_false_iff_ne]; rintro rfl; exact absurd hk (by decide)
    clear HT HP s1 s2 s3 s4 s5 hw
    have hu := Tryd.underlying49
    go_enter Tryd.func27, Tryd.ntmps27
    go_wp2_with (go_at_call 70; refine (l4In_calls _ _ _ _).mono ?_; rintro e w1 ⟨rfl, rfl⟩)
    go_ret
    exact ⟨rfl, alloc_ext _ _⟩
end Go.Proofs.YtghgjddiheebeaaDoor
