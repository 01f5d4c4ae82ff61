/- DirtyEntry: the data, how they lie in cells, and the laws' own functions over them. Printed by gen_fam.py, a program of this session. -/
import Derived.Test.YtghgjddiheebeaaDoorMF0
import Derived.StillTailTactics
namespace Go.Proofs.YtghgjddiheebeaaDoor
open Go.RowKit
set_option linter.unusedSimpArgs false
set_option linter.unusedVariables false
set_option maxRecDepth 100000
set_option maxHeartbeats 8000000

structure DDirtyEntry where
  Page : Int
  RecLSN : Int
  deriving DecidableEq

def wfDirtyEntry (x : DDirtyEntry) : Prop := (Lit.int .i64 x.Page).wf = true ∧ (Lit.int .i64 x.RecLSN).wf = true

def Rep.DirtyEntry : Rep DDirtyEntry where
  sz := 2
  R := fun _ x cs F => cs = [.int .i64 x.Page, .int .i64 x.RecLSN] ∧ F = [] ∧ wfDirtyEntry x
  val := fun | [a0, a1] => .agg #[a0, a1] | _ => undef
  len := by rintro w x cs F ⟨rfl, -⟩; rfl
  lt := by rintro w x cs F ⟨-, rfl, -⟩ g hg; cases hg
  keep := fun h _ => h

theorem sl_DirtyEntry {w : World} {A : Option Addr} {c : Nat} {xs : List DDirtyEntry} {F : List Nat} (h : Rep.DirtyEntry.sl w A c xs F) (i : Nat) (hi : i < xs.length) :
    ∃ (g off : Nat), A = some ⟨g, off, none⟩ ∧ g < w.heap.size ∧ wfDirtyEntry (xs[i]) ∧
      w.cell? ⟨g, off + i * 2, none⟩ = some (.int .i64 (xs[i]).Page) ∧ w.cell? ⟨g, off + i * 2 + 1, none⟩ = some (.int .i64 (xs[i]).RecLSN) := by
  obtain ⟨g, off, d, G, e, hg, _, ⟨rfl, rfl, hw⟩, _, hc⟩ := Rep.sl_at h i hi
  exact ⟨g, off, e, hg, hw, hc 0 _ rfl, hc 1 _ rfl⟩

theorem eqDirtyEntry_calls (v : Value) (x : DDirtyEntry) (F : List Nat) (u : Value) (y : DDirtyEntry) (G : List Nat) (w : World) (h : Rep.DirtyEntry.V w v x F) (k : Rep.DirtyEntry.V w u y G) :
    Calls Tryd.prog 115 #[v, u] w fun e w' => e = .returned (.bool (decide (x = y))) ∧ Ext w w' := by
  obtain ⟨_, ⟨rfl, rfl, hw⟩, rfl⟩ := h
  obtain ⟨_, ⟨rfl, rfl, hv⟩, rfl⟩ := k
  have hu_impl_DirtyEntry := Tryd.underlying106
  show Calls _ _ #[.agg #[_, _], .agg #[_, _]] _ _
  go_enter Tryd.func115, Tryd.ntmps115
  go_wp2_with fail
  all_goals try (go_ret; exact ⟨ret_bool (by symm; rw [decide_eq_false_iff_not]; rintro rfl; exact absurd ‹(_ != _) = true› (by simp)), ((alloc_ext _ _).alloc _)⟩)
  have E_Page := Lib.hid (WalkArith.int_eq' (by assumption : (x.Page != y.Page) = false))
  have E_RecLSN := Lib.hid (WalkArith.int_eq' (by assumption : (x.RecLSN != y.RecLSN) = false))
  go_ret
  exact ⟨ret_bool (by symm; rw [decide_eq_true_iff]; cases x; cases y; simp only [DDirtyEntry.mk.injEq]; exact ⟨E_Page.out, E_RecLSN.out⟩), ((alloc_ext _ _).alloc _)⟩

theorem eqDirtyEntryS_calls (A : Option Addr) (c : Nat) (xs : List DDirtyEntry) (F : List Nat) (B : Option Addr) (d : Nat) (ys : List DDirtyEntry) (G : List Nat) (w : World) (h : Rep.DirtyEntry.sl w A c xs F) (k : Rep.DirtyEntry.sl w B d ys G) :
    Calls Tryd.prog 83 #[.slice A xs.length c, .slice B ys.length d] w fun e w' => e = .returned (.bool (decide (xs = ys))) ∧ Ext w w' := by
  have hu_impl_DirtyEntry := Tryd.underlying106
  have hm1 := h.1; have hm2 := h.2.1; have hm3 := k.1; have hm4 := k.2.1
  unfold maxLen at hm2 hm4
  by_cases hl : xs.length = ys.length
  · have hb : ((xs.length : Int) != ys.length) = false := by simp [hl]
    have HL := Lib.hid hl
    clear hl
    go_enter Tryd.func83, Tryd.ntmps83
    go_wp2
    go_loopg [5] (xs.length) (fun m i wr => ∃ j : Nat, m + j = xs.length ∧ i = .int .i64 j ∧ Ext w wr ∧ Hid (xs.take j = ys.take j))
    case atStart => exact ⟨0, by simp, rfl, Only.refl _ _, by simp [Hid]⟩
    case round =>
      obtain ⟨j, hj, rfl, hO, HT⟩ := hrel
      have HO := Lib.hid hO; have HJ := Lib.hid hj
      clear hO hj
      by_cases hlt : j < xs.length
      · have hlt2 : j < ys.length := by have := HL.out; omega
        obtain ⟨g1, o1, rfl, hg1, hw, k0, k1⟩ := sl_DirtyEntry (Rep.sl_ext h HO.out) j hlt
        obtain ⟨g2, o2, rfl, hg2, hv, l0, l1⟩ := sl_DirtyEntry (Rep.sl_ext k HO.out) j hlt2
        clear h k
        go_wp2_with fail
        go_still_tail 8, (by kernel_rfl)
        change wpList _ _ _ _ _ wr.drew
        go_wp2_with fail
        refine (eqDirtyEntry_calls _ xs[j] _ _ ys[j] _ _ ⟨_, ⟨rfl, rfl, hw⟩, rfl⟩ ⟨_, ⟨rfl, rfl, hv⟩, rfl⟩).mono ?_
        rintro e w1 ⟨rfl, hO1⟩
        have HO1 := Lib.hid ((HO.out.drew).ext hO1)
        clear hO1 k0 l0 k1 l1
        by_cases he : xs[j] = ys[j]
        · have hb2 : decide (xs[j] = ys[j]) = true := by simp [he]
          have HE := Lib.hid he
          clear he
          go_wp2
          go_roundg (xs.length - (j + 1))
          case measure => have := HJ.out; omega
          case rel =>
            refine ⟨j + 1, by omega, by go_num, HO1.out, ?_⟩
            show _ = _
            rw [List.take_succ_eq_append_getElem hlt, List.take_succ_eq_append_getElem hlt2, HT.out, HE.out]
        · have hb2 : decide (xs[j] = ys[j]) = false := by simp [he]
          have HE := Lib.hid he
          clear he
          go_wp2
          go_ret
          exact ⟨ret_bool (by symm; rw [decide_eq_false_iff_not]; rintro rfl; exact HE.out rfl), HO1.out⟩
      · have hj := HJ.out
        have hj2 := HL.out
        have ht := HT.out
        clear HJ HL HT
        rw [List.take_of_length_le (by omega), List.take_of_length_le (by omega)] at ht
        clear hj2
        have HT := Lib.hid ht
        clear ht
        go_wp2
        go_ret
        exact ⟨ret_bool (by simp [HT.out]), HO.out⟩
  · have hb : ((xs.length : Int) != ys.length) = true := by simp; omega
    go_enter Tryd.func83, Tryd.ntmps83
    go_wp2
    go_ret
    exact ⟨ret_bool (by symm; rw [decide_eq_false_iff_not]; rintro rfl; exact hl rfl), Only.refl _ _⟩

def ctDirtyEntry (_ : DDirtyEntry) : Nat := 2
def mkDirtyEntry (k : Int) (_ : DDirtyEntry) : DDirtyEntry := ⟨k, k + 1⟩
def ctDirtyEntryS (xs : List DDirtyEntry) : Nat := (xs.map ctDirtyEntry).sum
def mkDirtyEntryS : Int → List DDirtyEntry → List DDirtyEntry
  | _, [] => []
  | k, x :: xs => mkDirtyEntry k x :: mkDirtyEntryS (k + ctDirtyEntry x) xs
theorem mkDirtyEntryS_len : ∀ (k : Int) (xs : List DDirtyEntry), (mkDirtyEntryS k xs).length = xs.length
  | _, [] => rfl
  | k, x :: xs => by simp [mkDirtyEntryS, mkDirtyEntryS_len]
theorem ctDirtyEntryS_take (xs : List DDirtyEntry) (j : Nat) (h : j < xs.length) : ctDirtyEntryS (xs.take (j + 1)) = ctDirtyEntryS (xs.take j) + ctDirtyEntry xs[j] := map_sum_take _ _ _ h
theorem mkDirtyEntryS_at : ∀ (k : Int) (xs : List DDirtyEntry) (j : Nat) (h : j < (mkDirtyEntryS k xs).length), (mkDirtyEntryS k xs)[j] = mkDirtyEntry (k + ctDirtyEntryS (xs.take j)) (xs[j]'(by rw [mkDirtyEntryS_len] at h; exact h))
  | k, x :: xs, 0, _ => by simp [mkDirtyEntryS, ctDirtyEntryS]
  | k, x :: xs, j + 1, h => by
    simp only [mkDirtyEntryS, List.getElem_cons_succ, mkDirtyEntryS_at, List.take_succ_cons]
    congr 1
    simp [ctDirtyEntryS]
    omega
theorem mkDirtyEntryS_step (k : Int) (xs : List DDirtyEntry) (j : Nat) (h : j < xs.length) :
    ((mkDirtyEntryS k xs).take j ++ xs.drop j).set j (mkDirtyEntry (k + ctDirtyEntryS (xs.take j)) xs[j]) = (mkDirtyEntryS k xs).take (j + 1) ++ xs.drop (j + 1) := by
  have hl : ((mkDirtyEntryS k xs).take j).length = j := by simp [mkDirtyEntryS_len]; omega
  rw [List.set_append_right _ _ (by omega), hl, Nat.sub_self, List.drop_eq_getElem_cons h, List.set_cons_zero, List.take_succ_eq_append_getElem (by rw [mkDirtyEntryS_len]; exact h), mkDirtyEntryS_at]
  simp
theorem ctDirtyEntryS_mem (xs : List DDirtyEntry) (j : Nat) (h : j < xs.length) : ctDirtyEntryS (xs.take j) + ctDirtyEntry xs[j] ≤ ctDirtyEntryS xs := map_sum_mem _ _ _ h

theorem ctDirtyEntryS_wt (xs : List DDirtyEntry) : ctDirtyEntryS xs ≤ 64 * xs.length := by
  unfold ctDirtyEntryS
  induction xs with
  | nil => simp
  | cons x xs ih => simp only [List.map_cons, List.sum_cons, List.length_cons, ctDirtyEntry] at *; omega

theorem markDirtyEntryS_calls (A : Option Addr) (c : Nat) (xs : List DDirtyEntry) (F : List Nat) (k : Int) (w : World) (h : Rep.DirtyEntry.sl w A c xs F) (hn : F.Nodup) (hu : Unfr w F)
    (h0 : 0 ≤ k) (hk : k + ctDirtyEntryS xs ≤ 4611686018427387904) :
    Calls Tryd.prog 86 #[.slice A xs.length c, .int .i64 k] w (MarkPost Rep.DirtyEntry A c (mkDirtyEntryS k xs) F (k + ctDirtyEntryS xs) w) := by
  have hu_impl_DirtyEntry := Tryd.underlying106
  have hm := Nat.le_trans h.1 h.2.1
  unfold maxLen at hm
  go_enter Tryd.func86, Tryd.ntmps86
  go_wp2
  go_loopg [5, 1] (xs.length) (fun m i q wr => ∃ (j : Nat) (p : Int), m + j = xs.length ∧ i = .int .i64 j ∧ q = .int .i64 p ∧ p = k + ctDirtyEntryS (xs.take j) ∧ Only F w wr ∧ Unfr wr F ∧ Rep.DirtyEntry.sl wr A c ((mkDirtyEntryS k xs).take j ++ xs.drop j) F)
  case atStart => exact ⟨0, _, by simp, rfl, rfl, by simp [ctDirtyEntryS], Only.refl _ _, hu, by simpa using h⟩
  case round =>
    obtain ⟨j, p, hj, rfl, rfl, hp, hO, hU, hS⟩ := hrel
    have HO := Lib.hid hO; have HU := Lib.hid hU; have HS := Lib.hid hS; have HJ := Lib.hid hj; have HP := Lib.hid hp
    clear hO hU hS hj hp
    by_cases hlt : j < xs.length
    · have hlen : j < ((mkDirtyEntryS k xs).take j ++ xs.drop j).length := by simp [mkDirtyEntryS_len]; omega
      have hct := ctDirtyEntryS_mem xs j hlt
      have hp0 : 0 ≤ p := by have := HP.out; omega
      have hp1 : p + ctDirtyEntry xs[j] ≤ 4611686018427387904 := by have := HP.out; omega
      obtain ⟨g, off, d, G, rfl, hgF, hgG, hGF, hGn, hR, hf, hdone⟩ := Rep.sl_foc HS.out hn HU.out j hlen
      rw [mid_at (mkDirtyEntryS_len k xs) hlt] at hR
      obtain ⟨rfl, rfl, hw⟩ := hR
      have hst := mkDirtyEntryS_step k xs j hlt
      rw [← HP.out] at hst
      generalize hx : xs[j] = x at *
      have HST := Lib.hid hst
      have HX := Lib.hid hx
      clear hst hx hlen hct
      unfold ctDirtyEntry at hp1
      replace hf : Foc wr wr g (off + j * 2) 2 F _ _ := hf
      have k0 : wr.cell? ⟨g, off + j * 2, none⟩ = some _ := hf.cell 0 _ rfl
      have k1 := hf.cell 1 _ rfl
      have kf := fun o => hf.unfr g hgF o
      have HF0 := Lib.hid hf
      have HD := Lib.hid hdone
      clear hf hdone
      go_wp2
      go_roundg (xs.length - (j + 1))
      case measure => have := HJ.out; omega
      case rel =>
        have hfe := ((HF0.out.set hgF 0 (by omega) (.int .i64 (p))).set hgF 1 (by omega) (.int .i64 (p + 1)))
        have hr := HD.out _ (mkDirtyEntry p x) _ hfe ⟨(by simp [mkDirtyEntry]), rfl, (by simp only [wfDirtyEntry, mkDirtyEntry]; (repeat' apply And.intro) <;> exact WalkArith.wf_i64 (by omega))⟩
        rw [HST.out] at hr
        refine ⟨j + 1, _, by omega, by go_num, rfl, ?_, (HO.out.trans hfe.only), hfe.unfr, hr⟩
        have := HP.out
        rw [ctDirtyEntryS_take xs j hlt, HX.out]
        unfold ctDirtyEntry
        omega
    · have hj := HJ.out
      have hs := HS.out
      have hp := HP.out
      rw [List.take_of_length_le (by rw [mkDirtyEntryS_len]; omega), List.drop_of_length_le (by omega), List.append_nil] at hs
      rw [List.take_of_length_le (by omega)] at hp
      have HP2 := Lib.hid hp
      clear hp HP
      go_wp2
      go_ret
      exact ⟨ret_int HP2.out, hs, HO.out, HU.out⟩

theorem heldDirtyEntryS_calls (A : Option Addr) (c : Nat) (xs : List DDirtyEntry) (F : List Nat) (k : Int) (w : World) (h : Rep.DirtyEntry.sl w A c (mkDirtyEntryS k xs) F)
    (h0 : 0 ≤ k) (hk : k + ctDirtyEntryS xs ≤ 4611686018427387904) :
    Calls Tryd.prog 89 #[.slice A xs.length c, .int .i64 k] w fun e w' => e = .returned (.int .i64 (k + ctDirtyEntryS xs)) ∧ Ext w w' := by
  have hu_impl_DirtyEntry := Tryd.underlying106
  have hm := Nat.le_trans h.1 h.2.1
  rw [mkDirtyEntryS_len] at hm
  unfold maxLen at hm
  go_enter Tryd.func89, Tryd.ntmps89
  go_wp2
  go_loopg [5, 1] (xs.length) (fun m i q wr => ∃ (j : Nat) (p : Int), m + j = xs.length ∧ i = .int .i64 j ∧ q = .int .i64 p ∧ p = k + ctDirtyEntryS (xs.take j) ∧ Ext w wr)
  case atStart => exact ⟨0, _, by simp, rfl, rfl, by simp [ctDirtyEntryS], Only.refl _ _⟩
  case round =>
    obtain ⟨j, p, hj, rfl, rfl, hp, hO⟩ := hrel
    have HO0 := Lib.hid hO; have HJ := Lib.hid hj; have HP := Lib.hid hp
    clear hO hj hp
    by_cases hlt : j < xs.length
    · have hct := ctDirtyEntryS_mem xs j hlt
      have hp0 : 0 ≤ p := by have := HP.out; omega
      have hp1 : p + ctDirtyEntry xs[j] ≤ 4611686018427387904 := by have := HP.out; omega
      obtain ⟨g, off, rfl, hg, hw, k0, k1⟩ := sl_DirtyEntry (Rep.sl_ext h HO0.out) j (by rw [mkDirtyEntryS_len]; exact hlt)
      clear h hw
      simp only [mkDirtyEntryS_at, ← HP.out] at k0 k1
      generalize hx : xs[j] = x at *
      have HX := Lib.hid hx
      clear hx hct
      simp only [mkDirtyEntry] at k0 k1
      unfold ctDirtyEntry at hp1
      go_wp2
      go_roundg (xs.length - (j + 1))
      case measure => have := HJ.out; omega
      case rel =>
        refine ⟨j + 1, _, by omega, by go_num, rfl, ?_, HO0.out⟩
        have := HP.out
        rw [ctDirtyEntryS_take xs j hlt, HX.out]
        unfold ctDirtyEntry
        omega
    · have hj := HJ.out
      have hp := HP.out
      rw [List.take_of_length_le (by omega)] at hp
      have HP2 := Lib.hid hp
      clear hp HP
      go_wp2
      go_ret
      exact ⟨ret_int HP2.out, HO0.out⟩

end Go.Proofs.YtghgjddiheebeaaDoor
