/- UndoStep: the data, how they lie in cells, and the laws' own functions over them. Printed by gen_fam.py, a program of this session. -/
import Derived.Test.YtpobhdegfppdcaaF0
import Derived.StillTailTactics
namespace Go.Proofs.Ytpobhdegfppdcaa
open Go.RowKit
set_option linter.unusedSimpArgs false
set_option linter.unusedVariables false
set_option maxRecDepth 100000
set_option maxHeartbeats 8000000

structure DUndoStep where
  Kind : Int
  Txn : Int
  LSN : Int
  deriving DecidableEq

def wfUndoStep (x : DUndoStep) : Prop := (Lit.int .i64 x.Kind).wf = true ∧ (Lit.int .i64 x.Txn).wf = true ∧ (Lit.int .i64 x.LSN).wf = true

def Rep.UndoStep : Rep DUndoStep where
  sz := 3
  R := fun _ x cs F => cs = [.int .i64 x.Kind, .int .i64 x.Txn, .int .i64 x.LSN] ∧ F = [] ∧ wfUndoStep x
  val := fun | [a0, a1, a2] => .agg #[a0, a1, a2] | _ => undef
  len := by rintro w x cs F ⟨rfl, -⟩; rfl
  lt := by rintro w x cs F ⟨-, rfl, -⟩ g hg; cases hg
  keep := fun h _ => h

theorem val_UndoStep : ∀ (l : List Value), l.length = 3 → Rep.UndoStep.val l = .agg ⟨l⟩
  | [_, _, _], _ => rfl

theorem sl_UndoStep {w : World} {A : Option Addr} {c : Nat} {xs : List DUndoStep} {F : List Nat} (h : Rep.UndoStep.sl w A c xs F) (i : Nat) (hi : i < xs.length) :
    ∃ (g off : Nat), A = some ⟨g, off, none⟩ ∧ g < w.heap.size ∧ wfUndoStep (xs[i]) ∧
      w.cell? ⟨g, off + i * 3, none⟩ = some (.int .i64 (xs[i]).Kind) ∧ w.cell? ⟨g, off + i * 3 + 1, none⟩ = some (.int .i64 (xs[i]).Txn) ∧ w.cell? ⟨g, off + i * 3 + 2, none⟩ = some (.int .i64 (xs[i]).LSN) := by
  obtain ⟨g, off, d, G, e, hg, _, ⟨rfl, rfl, hw⟩, _, hc⟩ := Rep.sl_at h i hi
  exact ⟨g, off, e, hg, hw, hc 0 _ rfl, hc 1 _ rfl, hc 2 _ rfl⟩

theorem cells_UndoStep (w : World) (g o : Nat) (v0 v1 v2 : Value) : (((w.setCell ⟨g, o, none⟩ v0).setCell ⟨g, o + 1, none⟩ v1).setCell ⟨g, o + 2, none⟩ v2) = w.setCells g o [v0, v1, v2] := rfl

theorem eqUndoStep_calls (v : Value) (x : DUndoStep) (F : List Nat) (u : Value) (y : DUndoStep) (G : List Nat) (w : World) (h : Rep.UndoStep.V w v x F) (k : Rep.UndoStep.V w u y G) :
    Calls Try.prog 43 #[v, u] w fun e w' => e = .returned (.bool (decide (x = y))) ∧ Ext w w' := by
  obtain ⟨_, ⟨rfl, rfl, hw⟩, rfl⟩ := h
  obtain ⟨_, ⟨rfl, rfl, hv⟩, rfl⟩ := k
  have hu_impl_UndoStep := Try.underlying72
  show Calls _ _ #[.agg #[_, _, _], .agg #[_, _, _]] _ _
  go_enter Try.func43, Try.ntmps43
  go_wp2_with fail
  all_goals try (go_ret; exact ⟨ret_bool (by symm; rw [decide_eq_false_iff_not]; rintro rfl; exact absurd ‹(_ != _) = true› (by simp)), ((alloc_ext _ _).alloc _)⟩)
  have E_Kind := Lib.hid (WalkArith.int_eq' (by assumption : (x.Kind != y.Kind) = false))
  have E_Txn := Lib.hid (WalkArith.int_eq' (by assumption : (x.Txn != y.Txn) = false))
  have E_LSN := Lib.hid (WalkArith.int_eq' (by assumption : (x.LSN != y.LSN) = false))
  go_ret
  exact ⟨ret_bool (by symm; rw [decide_eq_true_iff]; cases x; cases y; simp only [DUndoStep.mk.injEq]; exact ⟨E_Kind.out, E_Txn.out, E_LSN.out⟩), ((alloc_ext _ _).alloc _)⟩

theorem eqUndoStepS_calls (A : Option Addr) (c : Nat) (xs : List DUndoStep) (F : List Nat) (B : Option Addr) (d : Nat) (ys : List DUndoStep) (G : List Nat) (w : World) (h : Rep.UndoStep.sl w A c xs F) (k : Rep.UndoStep.sl w B d ys G) :
    Calls Try.prog 36 #[.slice A xs.length c, .slice B ys.length d] w fun e w' => e = .returned (.bool (decide (xs = ys))) ∧ Ext w w' := by
  have hu_impl_UndoStep := Try.underlying72
  have hm1 := h.1; have hm2 := h.2.1; have hm3 := k.1; have hm4 := k.2.1
  unfold maxLen at hm2 hm4
  by_cases hl : xs.length = ys.length
  · have hb : ((xs.length : Int) != ys.length) = false := by simp [hl]
    have HL := Lib.hid hl
    clear hl
    go_enter Try.func36, Try.ntmps36
    go_wp2
    go_loopg [5] (xs.length) (fun m i wr => ∃ j : Nat, m + j = xs.length ∧ i = .int .i64 j ∧ Ext w wr ∧ Hid (xs.take j = ys.take j))
    case atStart => exact ⟨0, by simp, rfl, Only.refl _ _, by simp [Hid]⟩
    case round =>
      obtain ⟨j, hj, rfl, hO, HT⟩ := hrel
      have HO := Lib.hid hO; have HJ := Lib.hid hj
      clear hO hj
      by_cases hlt : j < xs.length
      · have hlt2 : j < ys.length := by have := HL.out; omega
        obtain ⟨g1, o1, rfl, hg1, hw, k0, k1, k2⟩ := sl_UndoStep (Rep.sl_ext h HO.out) j hlt
        obtain ⟨g2, o2, rfl, hg2, hv, l0, l1, l2⟩ := sl_UndoStep (Rep.sl_ext k HO.out) j hlt2
        clear h k
        go_wp2_with fail
        go_still_tail 8, (by kernel_rfl)
        change wpList _ _ _ _ _ wr.drew
        go_wp2_with fail
        refine (eqUndoStep_calls _ xs[j] _ _ ys[j] _ _ ⟨_, ⟨rfl, rfl, hw⟩, rfl⟩ ⟨_, ⟨rfl, rfl, hv⟩, rfl⟩).mono ?_
        rintro e w1 ⟨rfl, hO1⟩
        have HO1 := Lib.hid ((HO.out.drew).ext hO1)
        clear hO1 k0 l0 k1 l1 k2 l2
        by_cases he : xs[j] = ys[j]
        · have hb2 : decide (xs[j] = ys[j]) = true := by simp [he]
          have HE := Lib.hid he
          clear he
          go_wp2
          go_roundg (xs.length - (j + 1))
          case measure => have := HJ.out; omega
          case rel =>
            refine ⟨j + 1, by omega, by go_num, HO1.out, ?_⟩
            show _ = _
            rw [List.take_succ_eq_append_getElem hlt, List.take_succ_eq_append_getElem hlt2, HT.out, HE.out]
        · have hb2 : decide (xs[j] = ys[j]) = false := by simp [he]
          have HE := Lib.hid he
          clear he
          go_wp2
          go_ret
          exact ⟨ret_bool (by symm; rw [decide_eq_false_iff_not]; rintro rfl; exact HE.out rfl), HO1.out⟩
      · have hj := HJ.out
        have hj2 := HL.out
        have ht := HT.out
        clear HJ HL HT
        rw [List.take_of_length_le (by omega), List.take_of_length_le (by omega)] at ht
        clear hj2
        have HT := Lib.hid ht
        clear ht
        go_wp2
        go_ret
        exact ⟨ret_bool (by simp [HT.out]), HO.out⟩
  · have hb : ((xs.length : Int) != ys.length) = true := by simp; omega
    go_enter Try.func36, Try.ntmps36
    go_wp2
    go_ret
    exact ⟨ret_bool (by symm; rw [decide_eq_false_iff_not]; rintro rfl; exact hl rfl), Only.refl _ _⟩

def ctUndoStep (_ : DUndoStep) : Nat := 3
def mkUndoStep (k : Int) (_ : DUndoStep) : DUndoStep := ⟨k, k + 1, k + 1 + 1⟩
def ctUndoStepS (xs : List DUndoStep) : Nat := (xs.map ctUndoStep).sum
def mkUndoStepS : Int → List DUndoStep → List DUndoStep
  | _, [] => []
  | k, x :: xs => mkUndoStep k x :: mkUndoStepS (k + ctUndoStep x) xs
theorem mkUndoStepS_len : ∀ (k : Int) (xs : List DUndoStep), (mkUndoStepS k xs).length = xs.length
  | _, [] => rfl
  | k, x :: xs => by simp [mkUndoStepS, mkUndoStepS_len]
theorem ctUndoStepS_take (xs : List DUndoStep) (j : Nat) (h : j < xs.length) : ctUndoStepS (xs.take (j + 1)) = ctUndoStepS (xs.take j) + ctUndoStep xs[j] := map_sum_take _ _ _ h
theorem mkUndoStepS_at : ∀ (k : Int) (xs : List DUndoStep) (j : Nat) (h : j < (mkUndoStepS k xs).length), (mkUndoStepS k xs)[j] = mkUndoStep (k + ctUndoStepS (xs.take j)) (xs[j]'(by rw [mkUndoStepS_len] at h; exact h))
  | k, x :: xs, 0, _ => by simp [mkUndoStepS, ctUndoStepS]
  | k, x :: xs, j + 1, h => by
    simp only [mkUndoStepS, List.getElem_cons_succ, mkUndoStepS_at, List.take_succ_cons]
    congr 1
    simp [ctUndoStepS]
    omega
theorem mkUndoStepS_step (k : Int) (xs : List DUndoStep) (j : Nat) (h : j < xs.length) :
    ((mkUndoStepS k xs).take j ++ xs.drop j).set j (mkUndoStep (k + ctUndoStepS (xs.take j)) xs[j]) = (mkUndoStepS k xs).take (j + 1) ++ xs.drop (j + 1) := by
  have hl : ((mkUndoStepS k xs).take j).length = j := by simp [mkUndoStepS_len]; omega
  rw [List.set_append_right _ _ (by omega), hl, Nat.sub_self, List.drop_eq_getElem_cons h, List.set_cons_zero, List.take_succ_eq_append_getElem (by rw [mkUndoStepS_len]; exact h), mkUndoStepS_at]
  simp
theorem ctUndoStepS_mem (xs : List DUndoStep) (j : Nat) (h : j < xs.length) : ctUndoStepS (xs.take j) + ctUndoStep xs[j] ≤ ctUndoStepS xs := map_sum_mem _ _ _ h

theorem ctUndoStepS_wt (xs : List DUndoStep) : ctUndoStepS xs ≤ 64 * xs.length := by
  unfold ctUndoStepS
  induction xs with
  | nil => simp
  | cons x xs ih => simp only [List.map_cons, List.sum_cons, List.length_cons, ctUndoStep] at *; omega

theorem markUndoStepS_calls (A : Option Addr) (c : Nat) (xs : List DUndoStep) (F : List Nat) (k : Int) (w : World) (h : Rep.UndoStep.sl w A c xs F) (hn : F.Nodup) (hu : Unfr w F)
    (h0 : 0 ≤ k) (hk : k + ctUndoStepS xs ≤ 4611686018427387904) :
    Calls Try.prog 38 #[.slice A xs.length c, .int .i64 k] w (MarkPost Rep.UndoStep A c (mkUndoStepS k xs) F (k + ctUndoStepS xs) w) := by
  have hu_impl_UndoStep := Try.underlying72
  have hm := Nat.le_trans h.1 h.2.1
  unfold maxLen at hm
  go_enter Try.func38, Try.ntmps38
  go_wp2
  go_loopg [5, 1] (xs.length) (fun m i q wr => ∃ (j : Nat) (p : Int), m + j = xs.length ∧ i = .int .i64 j ∧ q = .int .i64 p ∧ p = k + ctUndoStepS (xs.take j) ∧ Only F w wr ∧ Unfr wr F ∧ Rep.UndoStep.sl wr A c ((mkUndoStepS k xs).take j ++ xs.drop j) F)
  case atStart => exact ⟨0, _, by simp, rfl, rfl, by simp [ctUndoStepS], Only.refl _ _, hu, by simpa using h⟩
  case round =>
    obtain ⟨j, p, hj, rfl, rfl, hp, hO, hU, hS⟩ := hrel
    have HO := Lib.hid hO; have HU := Lib.hid hU; have HS := Lib.hid hS; have HJ := Lib.hid hj; have HP := Lib.hid hp
    clear hO hU hS hj hp
    by_cases hlt : j < xs.length
    · have hlen : j < ((mkUndoStepS k xs).take j ++ xs.drop j).length := by simp [mkUndoStepS_len]; omega
      have hct := ctUndoStepS_mem xs j hlt
      have hp0 : 0 ≤ p := by have := HP.out; omega
      have hp1 : p + ctUndoStep xs[j] ≤ 4611686018427387904 := by have := HP.out; omega
      obtain ⟨g, off, d, G, rfl, hgF, hgG, hGF, hGn, hR, hf, hdone⟩ := Rep.sl_foc HS.out hn HU.out j hlen
      rw [mid_at (mkUndoStepS_len k xs) hlt] at hR
      obtain ⟨rfl, rfl, hw⟩ := hR
      have hst := mkUndoStepS_step k xs j hlt
      rw [← HP.out] at hst
      generalize hx : xs[j] = x at *
      have HST := Lib.hid hst
      have HX := Lib.hid hx
      clear hst hx hlen hct
      unfold ctUndoStep at hp1
      replace hf : Foc wr wr g (off + j * 3) 3 F _ _ := hf
      have k0 : wr.cell? ⟨g, off + j * 3, none⟩ = some _ := hf.cell 0 _ rfl
      have k1 := hf.cell 1 _ rfl
      have k2 := hf.cell 2 _ rfl
      have kf := fun o => hf.unfr g hgF o
      have HF0 := Lib.hid hf
      have HD := Lib.hid hdone
      clear hf hdone
      go_wp2
      go_roundg (xs.length - (j + 1))
      case measure => have := HJ.out; omega
      case rel =>
        have hfe := (((HF0.out.set hgF 0 (by omega) (.int .i64 (p))).set hgF 1 (by omega) (.int .i64 (p + 1))).set hgF 2 (by omega) (.int .i64 (p + 1 + 1)))
        have hr := HD.out _ (mkUndoStep p x) _ hfe ⟨(by simp [mkUndoStep]), rfl, (by simp only [wfUndoStep, mkUndoStep]; (repeat' apply And.intro) <;> exact WalkArith.wf_i64 (by omega))⟩
        rw [HST.out] at hr
        refine ⟨j + 1, _, by omega, by go_num, rfl, ?_, (HO.out.trans hfe.only), hfe.unfr, hr⟩
        have := HP.out
        rw [ctUndoStepS_take xs j hlt, HX.out]
        unfold ctUndoStep
        omega
    · have hj := HJ.out
      have hs := HS.out
      have hp := HP.out
      rw [List.take_of_length_le (by rw [mkUndoStepS_len]; omega), List.drop_of_length_le (by omega), List.append_nil] at hs
      rw [List.take_of_length_le (by omega)] at hp
      have HP2 := Lib.hid hp
      clear hp HP
      go_wp2
      go_ret
      exact ⟨ret_int HP2.out, hs, HO.out, HU.out⟩

theorem heldUndoStepS_calls (A : Option Addr) (c : Nat) (xs : List DUndoStep) (F : List Nat) (k : Int) (w : World) (h : Rep.UndoStep.sl w A c (mkUndoStepS k xs) F)
    (h0 : 0 ≤ k) (hk : k + ctUndoStepS xs ≤ 4611686018427387904) :
    Calls Try.prog 39 #[.slice A xs.length c, .int .i64 k] w fun e w' => e = .returned (.int .i64 (k + ctUndoStepS xs)) ∧ Ext w w' := by
  have hu_impl_UndoStep := Try.underlying72
  have hm := Nat.le_trans h.1 h.2.1
  rw [mkUndoStepS_len] at hm
  unfold maxLen at hm
  go_enter Try.func39, Try.ntmps39
  go_wp2
  go_loopg [5, 1] (xs.length) (fun m i q wr => ∃ (j : Nat) (p : Int), m + j = xs.length ∧ i = .int .i64 j ∧ q = .int .i64 p ∧ p = k + ctUndoStepS (xs.take j) ∧ Ext w wr)
  case atStart => exact ⟨0, _, by simp, rfl, rfl, by simp [ctUndoStepS], Only.refl _ _⟩
  case round =>
    obtain ⟨j, p, hj, rfl, rfl, hp, hO⟩ := hrel
    have HO0 := Lib.hid hO; have HJ := Lib.hid hj; have HP := Lib.hid hp
    clear hO hj hp
    by_cases hlt : j < xs.length
    · have hct := ctUndoStepS_mem xs j hlt
      have hp0 : 0 ≤ p := by have := HP.out; omega
      have hp1 : p + ctUndoStep xs[j] ≤ 4611686018427387904 := by have := HP.out; omega
      obtain ⟨g, off, rfl, hg, hw, k0, k1, k2⟩ := sl_UndoStep (Rep.sl_ext h HO0.out) j (by rw [mkUndoStepS_len]; exact hlt)
      clear h hw
      simp only [mkUndoStepS_at, ← HP.out] at k0 k1 k2
      generalize hx : xs[j] = x at *
      have HX := Lib.hid hx
      clear hx hct
      simp only [mkUndoStep] at k0 k1 k2
      unfold ctUndoStep at hp1
      go_wp2
      go_roundg (xs.length - (j + 1))
      case measure => have := HJ.out; omega
      case rel =>
        refine ⟨j + 1, _, by omega, by go_num, rfl, ?_, HO0.out⟩
        have := HP.out
        rw [ctUndoStepS_take xs j hlt, HX.out]
        unfold ctUndoStep
        omega
    · have hj := HJ.out
      have hp := HP.out
      rw [List.take_of_length_le (by omega)] at hp
      have HP2 := Lib.hid hp
      clear hp HP
      go_wp2
      go_ret
      exact ⟨ret_int HP2.out, HO0.out⟩

end Go.Proofs.Ytpobhdegfppdcaa
