/- TxnEntry: the data, how they lie in cells, and the laws' own functions over them. Printed by gen_fam.py, a program of this session. -/
import Derived.Test.YtghgjddiheebeaaDoorMF0
import Derived.StillTailTactics
namespace Go.Proofs.YtghgjddiheebeaaDoor
open Go.RowKit
set_option linter.unusedSimpArgs false
set_option linter.unusedVariables false
set_option maxRecDepth 100000
set_option maxHeartbeats 8000000

structure DTxnEntry where
  Txn : Int
  State : Int
  Last : Int
  UndoNext : Int
  deriving DecidableEq

def wfTxnEntry (x : DTxnEntry) : Prop := (Lit.int .i64 x.Txn).wf = true ∧ (Lit.int .i64 x.State).wf = true ∧ (Lit.int .i64 x.Last).wf = true ∧ (Lit.int .i64 x.UndoNext).wf = true

def Rep.TxnEntry : Rep DTxnEntry where
  sz := 4
  R := fun _ x cs F => cs = [.int .i64 x.Txn, .int .i64 x.State, .int .i64 x.Last, .int .i64 x.UndoNext] ∧ F = [] ∧ wfTxnEntry x
  val := fun | [a0, a1, a2, a3] => .agg #[a0, a1, a2, a3] | _ => undef
  len := by rintro w x cs F ⟨rfl, -⟩; rfl
  lt := by rintro w x cs F ⟨-, rfl, -⟩ g hg; cases hg
  keep := fun h _ => h

theorem sl_TxnEntry {w : World} {A : Option Addr} {c : Nat} {xs : List DTxnEntry} {F : List Nat} (h : Rep.TxnEntry.sl w A c xs F) (i : Nat) (hi : i < xs.length) :
    ∃ (g off : Nat), A = some ⟨g, off, none⟩ ∧ g < w.heap.size ∧ wfTxnEntry (xs[i]) ∧
      w.cell? ⟨g, off + i * 4, none⟩ = some (.int .i64 (xs[i]).Txn) ∧ w.cell? ⟨g, off + i * 4 + 1, none⟩ = some (.int .i64 (xs[i]).State) ∧ w.cell? ⟨g, off + i * 4 + 2, none⟩ = some (.int .i64 (xs[i]).Last) ∧ w.cell? ⟨g, off + i * 4 + 3, none⟩ = some (.int .i64 (xs[i]).UndoNext) := by
  obtain ⟨g, off, d, G, e, hg, _, ⟨rfl, rfl, hw⟩, _, hc⟩ := Rep.sl_at h i hi
  exact ⟨g, off, e, hg, hw, hc 0 _ rfl, hc 1 _ rfl, hc 2 _ rfl, hc 3 _ rfl⟩

theorem eqTxnEntry_calls (v : Value) (x : DTxnEntry) (F : List Nat) (u : Value) (y : DTxnEntry) (G : List Nat) (w : World) (h : Rep.TxnEntry.V w v x F) (k : Rep.TxnEntry.V w u y G) :
    Calls Tryd.prog 114 #[v, u] w fun e w' => e = .returned (.bool (decide (x = y))) ∧ Ext w w' := by
  obtain ⟨_, ⟨rfl, rfl, hw⟩, rfl⟩ := h
  obtain ⟨_, ⟨rfl, rfl, hv⟩, rfl⟩ := k
  have hu_impl_TxnEntry := Tryd.underlying104
  show Calls _ _ #[.agg #[_, _, _, _], .agg #[_, _, _, _]] _ _
  go_enter Tryd.func114, Tryd.ntmps114
  go_wp2_with fail
  all_goals try (go_ret; exact ⟨ret_bool (by symm; rw [decide_eq_false_iff_not]; rintro rfl; exact absurd ‹(_ != _) = true› (by simp)), ((alloc_ext _ _).alloc _)⟩)
  have E_Txn := Lib.hid (WalkArith.int_eq' (by assumption : (x.Txn != y.Txn) = false))
  have E_State := Lib.hid (WalkArith.int_eq' (by assumption : (x.State != y.State) = false))
  have E_Last := Lib.hid (WalkArith.int_eq' (by assumption : (x.Last != y.Last) = false))
  have E_UndoNext := Lib.hid (WalkArith.int_eq' (by assumption : (x.UndoNext != y.UndoNext) = false))
  go_ret
  exact ⟨ret_bool (by symm; rw [decide_eq_true_iff]; cases x; cases y; simp only [DTxnEntry.mk.injEq]; exact ⟨E_Txn.out, E_State.out, E_Last.out, E_UndoNext.out⟩), ((alloc_ext _ _).alloc _)⟩

theorem eqTxnEntryS_calls (A : Option Addr) (c : Nat) (xs : List DTxnEntry) (F : List Nat) (B : Option Addr) (d : Nat) (ys : List DTxnEntry) (G : List Nat) (w : World) (h : Rep.TxnEntry.sl w A c xs F) (k : Rep.TxnEntry.sl w B d ys G) :
    Calls Tryd.prog 82 #[.slice A xs.length c, .slice B ys.length d] w fun e w' => e = .returned (.bool (decide (xs = ys))) ∧ Ext w w' := by
  have hu_impl_TxnEntry := Tryd.underlying104
  have hm1 := h.1; have hm2 := h.2.1; have hm3 := k.1; have hm4 := k.2.1
  unfold maxLen at hm2 hm4
  by_cases hl : xs.length = ys.length
  · have hb : ((xs.length : Int) != ys.length) = false := by simp [hl]
    have HL := Lib.hid hl
    clear hl
    go_enter Tryd.func82, Tryd.ntmps82
    go_wp2
    go_loopg [5] (xs.length) (fun m i wr => ∃ j : Nat, m + j = xs.length ∧ i = .int .i64 j ∧ Ext w wr ∧ Hid (xs.take j = ys.take j))
    case atStart => exact ⟨0, by simp, rfl, Only.refl _ _, by simp [Hid]⟩
    case round =>
      obtain ⟨j, hj, rfl, hO, HT⟩ := hrel
      have HO := Lib.hid hO; have HJ := Lib.hid hj
      clear hO hj
      by_cases hlt : j < xs.length
      · have hlt2 : j < ys.length := by have := HL.out; omega
        obtain ⟨g1, o1, rfl, hg1, hw, k0, k1, k2, k3⟩ := sl_TxnEntry (Rep.sl_ext h HO.out) j hlt
        obtain ⟨g2, o2, rfl, hg2, hv, l0, l1, l2, l3⟩ := sl_TxnEntry (Rep.sl_ext k HO.out) j hlt2
        clear h k
        go_wp2_with fail
        go_still_tail 8, (by kernel_rfl)
        change wpList _ _ _ _ _ wr.drew
        go_wp2_with fail
        refine (eqTxnEntry_calls _ xs[j] _ _ ys[j] _ _ ⟨_, ⟨rfl, rfl, hw⟩, rfl⟩ ⟨_, ⟨rfl, rfl, hv⟩, rfl⟩).mono ?_
        rintro e w1 ⟨rfl, hO1⟩
        have HO1 := Lib.hid ((HO.out.drew).ext hO1)
        clear hO1 k0 l0 k1 l1 k2 l2 k3 l3
        by_cases he : xs[j] = ys[j]
        · have hb2 : decide (xs[j] = ys[j]) = true := by simp [he]
          have HE := Lib.hid he
          clear he
          go_wp2
          go_roundg (xs.length - (j + 1))
          case measure => have := HJ.out; omega
          case rel =>
            refine ⟨j + 1, by omega, by go_num, HO1.out, ?_⟩
            show _ = _
            rw [List.take_succ_eq_append_getElem hlt, List.take_succ_eq_append_getElem hlt2, HT.out, HE.out]
        · have hb2 : decide (xs[j] = ys[j]) = false := by simp [he]
          have HE := Lib.hid he
          clear he
          go_wp2
          go_ret
          exact ⟨ret_bool (by symm; rw [decide_eq_false_iff_not]; rintro rfl; exact HE.out rfl), HO1.out⟩
      · have hj := HJ.out
        have hj2 := HL.out
        have ht := HT.out
        clear HJ HL HT
        rw [List.take_of_length_le (by omega), List.take_of_length_le (by omega)] at ht
        clear hj2
        have HT := Lib.hid ht
        clear ht
        go_wp2
        go_ret
        exact ⟨ret_bool (by simp [HT.out]), HO.out⟩
  · have hb : ((xs.length : Int) != ys.length) = true := by simp; omega
    go_enter Tryd.func82, Tryd.ntmps82
    go_wp2
    go_ret
    exact ⟨ret_bool (by symm; rw [decide_eq_false_iff_not]; rintro rfl; exact hl rfl), Only.refl _ _⟩

def ctTxnEntry (_ : DTxnEntry) : Nat := 4
def mkTxnEntry (k : Int) (_ : DTxnEntry) : DTxnEntry := ⟨k, k + 1, k + 1 + 1, k + 1 + 1 + 1⟩
def ctTxnEntryS (xs : List DTxnEntry) : Nat := (xs.map ctTxnEntry).sum
def mkTxnEntryS : Int → List DTxnEntry → List DTxnEntry
  | _, [] => []
  | k, x :: xs => mkTxnEntry k x :: mkTxnEntryS (k + ctTxnEntry x) xs
theorem mkTxnEntryS_len : ∀ (k : Int) (xs : List DTxnEntry), (mkTxnEntryS k xs).length = xs.length
  | _, [] => rfl
  | k, x :: xs => by simp [mkTxnEntryS, mkTxnEntryS_len]
theorem ctTxnEntryS_take (xs : List DTxnEntry) (j : Nat) (h : j < xs.length) : ctTxnEntryS (xs.take (j + 1)) = ctTxnEntryS (xs.take j) + ctTxnEntry xs[j] := map_sum_take _ _ _ h
theorem mkTxnEntryS_at : ∀ (k : Int) (xs : List DTxnEntry) (j : Nat) (h : j < (mkTxnEntryS k xs).length), (mkTxnEntryS k xs)[j] = mkTxnEntry (k + ctTxnEntryS (xs.take j)) (xs[j]'(by rw [mkTxnEntryS_len] at h; exact h))
  | k, x :: xs, 0, _ => by simp [mkTxnEntryS, ctTxnEntryS]
  | k, x :: xs, j + 1, h => by
    simp only [mkTxnEntryS, List.getElem_cons_succ, mkTxnEntryS_at, List.take_succ_cons]
    congr 1
    simp [ctTxnEntryS]
    omega
theorem mkTxnEntryS_step (k : Int) (xs : List DTxnEntry) (j : Nat) (h : j < xs.length) :
    ((mkTxnEntryS k xs).take j ++ xs.drop j).set j (mkTxnEntry (k + ctTxnEntryS (xs.take j)) xs[j]) = (mkTxnEntryS k xs).take (j + 1) ++ xs.drop (j + 1) := by
  have hl : ((mkTxnEntryS k xs).take j).length = j := by simp [mkTxnEntryS_len]; omega
  rw [List.set_append_right _ _ (by omega), hl, Nat.sub_self, List.drop_eq_getElem_cons h, List.set_cons_zero, List.take_succ_eq_append_getElem (by rw [mkTxnEntryS_len]; exact h), mkTxnEntryS_at]
  simp
theorem ctTxnEntryS_mem (xs : List DTxnEntry) (j : Nat) (h : j < xs.length) : ctTxnEntryS (xs.take j) + ctTxnEntry xs[j] ≤ ctTxnEntryS xs := map_sum_mem _ _ _ h

theorem ctTxnEntryS_wt (xs : List DTxnEntry) : ctTxnEntryS xs ≤ 64 * xs.length := by
  unfold ctTxnEntryS
  induction xs with
  | nil => simp
  | cons x xs ih => simp only [List.map_cons, List.sum_cons, List.length_cons, ctTxnEntry] at *; omega

theorem markTxnEntryS_calls (A : Option Addr) (c : Nat) (xs : List DTxnEntry) (F : List Nat) (k : Int) (w : World) (h : Rep.TxnEntry.sl w A c xs F) (hn : F.Nodup) (hu : Unfr w F)
    (h0 : 0 ≤ k) (hk : k + ctTxnEntryS xs ≤ 4611686018427387904) :
    Calls Tryd.prog 85 #[.slice A xs.length c, .int .i64 k] w (MarkPost Rep.TxnEntry A c (mkTxnEntryS k xs) F (k + ctTxnEntryS xs) w) := by
  have hu_impl_TxnEntry := Tryd.underlying104
  have hm := Nat.le_trans h.1 h.2.1
  unfold maxLen at hm
  go_enter Tryd.func85, Tryd.ntmps85
  go_wp2
  go_loopg [5, 1] (xs.length) (fun m i q wr => ∃ (j : Nat) (p : Int), m + j = xs.length ∧ i = .int .i64 j ∧ q = .int .i64 p ∧ p = k + ctTxnEntryS (xs.take j) ∧ Only F w wr ∧ Unfr wr F ∧ Rep.TxnEntry.sl wr A c ((mkTxnEntryS k xs).take j ++ xs.drop j) F)
  case atStart => exact ⟨0, _, by simp, rfl, rfl, by simp [ctTxnEntryS], Only.refl _ _, hu, by simpa using h⟩
  case round =>
    obtain ⟨j, p, hj, rfl, rfl, hp, hO, hU, hS⟩ := hrel
    have HO := Lib.hid hO; have HU := Lib.hid hU; have HS := Lib.hid hS; have HJ := Lib.hid hj; have HP := Lib.hid hp
    clear hO hU hS hj hp
    by_cases hlt : j < xs.length
    · have hlen : j < ((mkTxnEntryS k xs).take j ++ xs.drop j).length := by simp [mkTxnEntryS_len]; omega
      have hct := ctTxnEntryS_mem xs j hlt
      have hp0 : 0 ≤ p := by have := HP.out; omega
      have hp1 : p + ctTxnEntry xs[j] ≤ 4611686018427387904 := by have := HP.out; omega
      obtain ⟨g, off, d, G, rfl, hgF, hgG, hGF, hGn, hR, hf, hdone⟩ := Rep.sl_foc HS.out hn HU.out j hlen
      rw [mid_at (mkTxnEntryS_len k xs) hlt] at hR
      obtain ⟨rfl, rfl, hw⟩ := hR
      have hst := mkTxnEntryS_step k xs j hlt
      rw [← HP.out] at hst
      generalize hx : xs[j] = x at *
      have HST := Lib.hid hst
      have HX := Lib.hid hx
      clear hst hx hlen hct
      unfold ctTxnEntry at hp1
      replace hf : Foc wr wr g (off + j * 4) 4 F _ _ := hf
      have k0 : wr.cell? ⟨g, off + j * 4, none⟩ = some _ := hf.cell 0 _ rfl
      have k1 := hf.cell 1 _ rfl
      have k2 := hf.cell 2 _ rfl
      have k3 := hf.cell 3 _ rfl
      have kf := fun o => hf.unfr g hgF o
      have HF0 := Lib.hid hf
      have HD := Lib.hid hdone
      clear hf hdone
      go_wp2
      go_roundg (xs.length - (j + 1))
      case measure => have := HJ.out; omega
      case rel =>
        have hfe := ((((HF0.out.set hgF 0 (by omega) (.int .i64 (p))).set hgF 1 (by omega) (.int .i64 (p + 1))).set hgF 2 (by omega) (.int .i64 (p + 1 + 1))).set hgF 3 (by omega) (.int .i64 (p + 1 + 1 + 1)))
        have hr := HD.out _ (mkTxnEntry p x) _ hfe ⟨(by simp [mkTxnEntry]), rfl, (by simp only [wfTxnEntry, mkTxnEntry]; (repeat' apply And.intro) <;> exact WalkArith.wf_i64 (by omega))⟩
        rw [HST.out] at hr
        refine ⟨j + 1, _, by omega, by go_num, rfl, ?_, (HO.out.trans hfe.only), hfe.unfr, hr⟩
        have := HP.out
        rw [ctTxnEntryS_take xs j hlt, HX.out]
        unfold ctTxnEntry
        omega
    · have hj := HJ.out
      have hs := HS.out
      have hp := HP.out
      rw [List.take_of_length_le (by rw [mkTxnEntryS_len]; omega), List.drop_of_length_le (by omega), List.append_nil] at hs
      rw [List.take_of_length_le (by omega)] at hp
      have HP2 := Lib.hid hp
      clear hp HP
      go_wp2
      go_ret
      exact ⟨ret_int HP2.out, hs, HO.out, HU.out⟩

theorem heldTxnEntryS_calls (A : Option Addr) (c : Nat) (xs : List DTxnEntry) (F : List Nat) (k : Int) (w : World) (h : Rep.TxnEntry.sl w A c (mkTxnEntryS k xs) F)
    (h0 : 0 ≤ k) (hk : k + ctTxnEntryS xs ≤ 4611686018427387904) :
    Calls Tryd.prog 88 #[.slice A xs.length c, .int .i64 k] w fun e w' => e = .returned (.int .i64 (k + ctTxnEntryS xs)) ∧ Ext w w' := by
  have hu_impl_TxnEntry := Tryd.underlying104
  have hm := Nat.le_trans h.1 h.2.1
  rw [mkTxnEntryS_len] at hm
  unfold maxLen at hm
  go_enter Tryd.func88, Tryd.ntmps88
  go_wp2
  go_loopg [5, 1] (xs.length) (fun m i q wr => ∃ (j : Nat) (p : Int), m + j = xs.length ∧ i = .int .i64 j ∧ q = .int .i64 p ∧ p = k + ctTxnEntryS (xs.take j) ∧ Ext w wr)
  case atStart => exact ⟨0, _, by simp, rfl, rfl, by simp [ctTxnEntryS], Only.refl _ _⟩
  case round =>
    obtain ⟨j, p, hj, rfl, rfl, hp, hO⟩ := hrel
    have HO0 := Lib.hid hO; have HJ := Lib.hid hj; have HP := Lib.hid hp
    clear hO hj hp
    by_cases hlt : j < xs.length
    · have hct := ctTxnEntryS_mem xs j hlt
      have hp0 : 0 ≤ p := by have := HP.out; omega
      have hp1 : p + ctTxnEntry xs[j] ≤ 4611686018427387904 := by have := HP.out; omega
      obtain ⟨g, off, rfl, hg, hw, k0, k1, k2, k3⟩ := sl_TxnEntry (Rep.sl_ext h HO0.out) j (by rw [mkTxnEntryS_len]; exact hlt)
      clear h hw
      simp only [mkTxnEntryS_at, ← HP.out] at k0 k1 k2 k3
      generalize hx : xs[j] = x at *
      have HX := Lib.hid hx
      clear hx hct
      simp only [mkTxnEntry] at k0 k1 k2 k3
      unfold ctTxnEntry at hp1
      go_wp2
      go_roundg (xs.length - (j + 1))
      case measure => have := HJ.out; omega
      case rel =>
        refine ⟨j + 1, _, by omega, by go_num, rfl, ?_, HO0.out⟩
        have := HP.out
        rw [ctTxnEntryS_take xs j hlt, HX.out]
        unfold ctTxnEntry
        omega
    · have hj := HJ.out
      have hp := HP.out
      rw [List.take_of_length_le (by omega)] at hp
      have HP2 := Lib.hid hp
      clear hp HP
      go_wp2
      go_ret
      exact ⟨ret_int HP2.out, HO0.out⟩

end Go.Proofs.YtghgjddiheebeaaDoor
