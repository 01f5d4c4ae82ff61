/- Hold: the data, how they lie in cells, and the laws' own functions over them. Printed by gen_fam.py, a program of this session. -/
import Derived.Test.YtildfjlekplgjaaF0
import Derived.StillTailTactics
namespace Go.Proofs.Ytildfjlekplgjaa
open Go.RowKit
set_option linter.unusedSimpArgs false
set_option linter.unusedVariables false
set_option maxRecDepth 100000
set_option maxHeartbeats 8000000

structure DHold where
  Id : Int
  Txn : Int
  Most : Int
  deriving DecidableEq

def wfHold (x : DHold) : Prop := (Lit.int .i64 x.Id).wf = true ∧ (Lit.int .i64 x.Txn).wf = true ∧ (Lit.int .i64 x.Most).wf = true

def Rep.Hold : Rep DHold where
  sz := 3
  R := fun _ x cs F => cs = [.int .i64 x.Id, .int .i64 x.Txn, .int .i64 x.Most] ∧ F = [] ∧ wfHold x
  val := fun | [a0, a1, a2] => .agg #[a0, a1, a2] | _ => undef
  len := by rintro w x cs F ⟨rfl, -⟩; rfl
  lt := by rintro w x cs F ⟨-, rfl, -⟩ g hg; cases hg
  keep := fun h _ => h

theorem val_Hold : ∀ (l : List Value), l.length = 3 → Rep.Hold.val l = .agg ⟨l⟩
  | [_, _, _], _ => rfl

theorem sl_Hold {w : World} {A : Option Addr} {c : Nat} {xs : List DHold} {F : List Nat} (h : Rep.Hold.sl w A c xs F) (i : Nat) (hi : i < xs.length) :
    ∃ (g off : Nat), A = some ⟨g, off, none⟩ ∧ g < w.heap.size ∧ wfHold (xs[i]) ∧
      w.cell? ⟨g, off + i * 3, none⟩ = some (.int .i64 (xs[i]).Id) ∧ w.cell? ⟨g, off + i * 3 + 1, none⟩ = some (.int .i64 (xs[i]).Txn) ∧ w.cell? ⟨g, off + i * 3 + 2, none⟩ = some (.int .i64 (xs[i]).Most) := by
  obtain ⟨g, off, d, G, e, hg, _, ⟨rfl, rfl, hw⟩, _, hc⟩ := Rep.sl_at h i hi
  exact ⟨g, off, e, hg, hw, hc 0 _ rfl, hc 1 _ rfl, hc 2 _ rfl⟩

theorem cells_Hold (w : World) (g o : Nat) (v0 v1 v2 : Value) : (((w.setCell ⟨g, o, none⟩ v0).setCell ⟨g, o + 1, none⟩ v1).setCell ⟨g, o + 2, none⟩ v2) = w.setCells g o [v0, v1, v2] := rfl

theorem szHoldS_calls (A : Option Addr) (c : Nat) (n : Nat) (left : Int) (w : World) (h0 : 0 ≤ left) (h1 : left ≤ 4611686018427387904) (hn : n ≤ maxLen) :
    Calls Try.prog 17 #[.slice A n c, .int .i64 left] w (SzPost left n w) := by
  unfold maxLen at hn
  go_enter Try.func17, Try.ntmps17
  go_wp2
  all_goals go_ret
  · exact ⟨⟨-1, rfl, .inl rfl⟩, Only.refl _ _⟩
  · exact ⟨⟨_, rfl, .inr ⟨by omega, by omega⟩⟩, Only.refl _ _⟩

theorem toHold_calls (v : Value) (x : DHold) (F : List Nat) (w : World) (h : Rep.Hold.V w v x F) :
    Calls Try.prog 54 #[v] w (NewPost Rep.Hold x w) := by
  obtain ⟨_, ⟨rfl, rfl, hw⟩, rfl⟩ := h
  have hu_laws_Hold := Try.underlying77
  have hu_impl_Hold := Try.underlying75
  show Calls _ _ #[.agg #[_, _, _]] _ _
  go_enter Try.func54, Try.ntmps54
  go_wp2
  refine bodyPost_ret (v := .agg #[.int .i64 x.Id, .int .i64 x.Txn, .int .i64 x.Most]) (by simp [results, Try.results54, go_sem]) rfl ?_
  exact ⟨_, _, rfl, ⟨_, ⟨rfl, rfl, hw⟩, rfl⟩, NewIn.mk_ (NewIn.nil _ _) (by repeat (first | ((with_reducible apply Only.set); · exact fun h => absurd h (by dsimp only; omega)) | (with_reducible apply Only.alloc) | with_reducible exact Only.refl _ _ | with_reducible exact Only.refl _ _))⟩

theorem info75 : (Try.prog.info? 75).map (fun i => (i.zero, i.size, i.bytes)) = some (some (.agg #[.int .i64 0, .int .i64 0, .int .i64 0]), 3, 24) := by kernel_rfl
theorem toHoldS_calls (A : Option Addr) (c : Nat) (xs : List DHold) (F : List Nat) (w : World) (h : Rep.Hold.sl w A c xs F) (hs : xs.length ≤ 1048576) :
    Calls Try.prog 19 #[.slice A xs.length c] w (NewPost Rep.Hold.slice xs w) := by
  have hu_laws_Hold := Try.underlying77
  have hu_impl_Hold := Try.underlying75
  have hn : xs.length ≤ 1048576 := by exact hs
  obtain ⟨i0, hi, hz0, hz1, hz2⟩ := info_parts info75
  have hmk := fun (W : World) => run_make (P := Try.prog) W 36 75 i0 _ Try.underlying36 hi hz0 .i64 .i64 xs.length xs.length (by omega) (by omega) (by rw [hz2]; omega) (by omega)
  rw [hz1] at hmk
  clear hz1 hz2 hz0
  go_enter Try.func19, Try.ntmps19
  go_wp2
  clear hmk
  go_loopg [4] (xs.length) (fun m i wr => ∃ (k : Nat) (G : List Nat), m + k = xs.length ∧ i = .int .i64 k ∧ Ext w wr ∧ Fill Rep.Hold 75 wr w.heap.size xs.length (xs.take k) G ∧ (∀ b ∈ G, w.heap.size ≤ b) ∧ G.Nodup ∧ Unfr wr G)
  case atStart => exact ⟨0, [], by simp, rfl, alloc_ext _ _, Fill.made _ _ (by simp [size_madeCells, Rep.Hold]), by simp, by simp, by simp [Unfr]⟩
  case round =>
    obtain ⟨k, G, hk, rfl, hO, hF, hG, hGn, hGu⟩ := hrel
    have HO := Lib.hid hO; have HF := Lib.hid hF; have HG := Lib.hid hG; have HN := Lib.hid hGn; have HU := Lib.hid hGu; have HK := Lib.hid hk
    clear hO hF hG hGn hGu hk
    by_cases hlt : k < xs.length
    · obtain ⟨g, off, rfl, hg, hw, k0, k1, k2⟩ := sl_Hold (Rep.sl_ext h HO.out) k hlt
      clear h
      go_wp2_with fail
      refine (toHold_calls _ xs[k] _ _ ⟨_, ⟨rfl, rfl, hw⟩, rfl⟩).mono ?_
      clear k0 k1 k2 
      rintro e w1 ⟨v, G1, rfl, ⟨cs, hR, hv⟩, hN⟩
      obtain ⟨rfl, rfl, -⟩ := id hR
      replace hv : v = .agg #[_, _, _] := hv
      subst hv
      have hF1 := HF.out.ext hN.ext
      obtain ⟨u0, q0⟩ := hF1.cell (j := k * 3) (by simp only [Rep.Hold]; omega)
      obtain ⟨u1, q1⟩ := hF1.cell (j := k * 3 + 1) (by simp only [Rep.Hold]; omega)
      obtain ⟨u2, q2⟩ := hF1.cell (j := k * 3 + 2) (by simp only [Rep.Hold]; omega)
      have hfz := hF1.frozen
      have HF1 := Lib.hid hF1; have HR := Lib.hid hR; have HNN := Lib.hid hN
      clear hF1 hR hN
      go_wp2
      go_roundg (xs.length - (k + 1))
      case measure => have := HK.out; omega
      case rel =>
        have hl : (xs.take k).length = k := by simp; omega
        have hst := HF1.out.step HR.out (fun hb => by have := HNN.out.new _ hb; have := HF.out.lt; omega) (by rw [hl]; exact hlt)
        rw [hl, ← List.take_succ_eq_append_getElem hlt] at hst
        have hN := HNN.out
        rw [cells_Hold]
        refine ⟨k + 1, _, by omega, by go_num, (HO.out.ext HNN.out.ext).cells (fun h => absurd h (Nat.lt_irrefl _)) (k * 3) _, hst, fun b hb => ?_, ?_, ?_⟩
        · rcases List.mem_append.1 hb with hb | hb
          · exact HG.out b hb
          · exact Nat.le_trans HO.out.size (hN.new b hb)
        · refine List.nodup_append.2 ⟨HN.out, HNN.out.nodup, fun a ha b hb e => ?_⟩
          subst e
          have := hN.new a hb
          have := HF.out.glt a ha
          omega
        · refine Unfr.cells (fun b hb => ?_) _ (k * 3) _
          rcases List.mem_append.1 hb with hb | hb
          · exact HU.out.ext HNN.out.ext HF.out.glt b hb
          · exact HNN.out.unfr b hb
    · have hk := HK.out
      go_wp2
      go_ret
      have hf := HF.out
      have hg := HG.out
      have hu := HU.out
      have hn := HN.out
      rw [List.take_of_length_le (by omega)] at hf
      refine ⟨_, _, rfl, hf.done (by unfold maxLen; omega), HO.out, fun b hb => ?_, hf.nodup hn, hf.unfr hu⟩
      rcases List.mem_cons.1 hb with rfl | hb
      · exact Nat.le_refl _
      · exact hg b hb

theorem eqHold_calls (v : Value) (x : DHold) (F : List Nat) (u : Value) (y : DHold) (G : List Nat) (w : World) (h : Rep.Hold.V w v x F) (k : Rep.Hold.V w u y G) :
    Calls Try.prog 60 #[v, u] w fun e w' => e = .returned (.bool (decide (x = y))) ∧ Ext w w' := by
  obtain ⟨_, ⟨rfl, rfl, hw⟩, rfl⟩ := h
  obtain ⟨_, ⟨rfl, rfl, hv⟩, rfl⟩ := k
  have hu_impl_Hold := Try.underlying75
  show Calls _ _ #[.agg #[_, _, _], .agg #[_, _, _]] _ _
  go_enter Try.func60, Try.ntmps60
  go_wp2_with fail
  all_goals try (go_ret; exact ⟨ret_bool (by symm; rw [decide_eq_false_iff_not]; rintro rfl; exact absurd ‹(_ != _) = true› (by simp)), ((alloc_ext _ _).alloc _)⟩)
  have E_Id := Lib.hid (WalkArith.int_eq' (by assumption : (x.Id != y.Id) = false))
  have E_Txn := Lib.hid (WalkArith.int_eq' (by assumption : (x.Txn != y.Txn) = false))
  have E_Most := Lib.hid (WalkArith.int_eq' (by assumption : (x.Most != y.Most) = false))
  go_ret
  exact ⟨ret_bool (by symm; rw [decide_eq_true_iff]; cases x; cases y; simp only [DHold.mk.injEq]; exact ⟨E_Id.out, E_Txn.out, E_Most.out⟩), ((alloc_ext _ _).alloc _)⟩

theorem eqHoldS_calls (A : Option Addr) (c : Nat) (xs : List DHold) (F : List Nat) (B : Option Addr) (d : Nat) (ys : List DHold) (G : List Nat) (w : World) (h : Rep.Hold.sl w A c xs F) (k : Rep.Hold.sl w B d ys G) :
    Calls Try.prog 21 #[.slice A xs.length c, .slice B ys.length d] w fun e w' => e = .returned (.bool (decide (xs = ys))) ∧ Ext w w' := by
  have hu_impl_Hold := Try.underlying75
  have hm1 := h.1; have hm2 := h.2.1; have hm3 := k.1; have hm4 := k.2.1
  unfold maxLen at hm2 hm4
  by_cases hl : xs.length = ys.length
  · have hb : ((xs.length : Int) != ys.length) = false := by simp [hl]
    have HL := Lib.hid hl
    clear hl
    go_enter Try.func21, Try.ntmps21
    go_wp2
    go_loopg [5] (xs.length) (fun m i wr => ∃ j : Nat, m + j = xs.length ∧ i = .int .i64 j ∧ Ext w wr ∧ Hid (xs.take j = ys.take j))
    case atStart => exact ⟨0, by simp, rfl, Only.refl _ _, by simp [Hid]⟩
    case round =>
      obtain ⟨j, hj, rfl, hO, HT⟩ := hrel
      have HO := Lib.hid hO; have HJ := Lib.hid hj
      clear hO hj
      by_cases hlt : j < xs.length
      · have hlt2 : j < ys.length := by have := HL.out; omega
        obtain ⟨g1, o1, rfl, hg1, hw, k0, k1, k2⟩ := sl_Hold (Rep.sl_ext h HO.out) j hlt
        obtain ⟨g2, o2, rfl, hg2, hv, l0, l1, l2⟩ := sl_Hold (Rep.sl_ext k HO.out) j hlt2
        clear h k
        go_wp2_with fail
        go_still_tail 8, (by kernel_rfl)
        change wpList _ _ _ _ _ wr.drew
        go_wp2_with fail
        refine (eqHold_calls _ xs[j] _ _ ys[j] _ _ ⟨_, ⟨rfl, rfl, hw⟩, rfl⟩ ⟨_, ⟨rfl, rfl, hv⟩, rfl⟩).mono ?_
        rintro e w1 ⟨rfl, hO1⟩
        have HO1 := Lib.hid ((HO.out.drew).ext hO1)
        clear hO1 k0 l0 k1 l1 k2 l2
        by_cases he : xs[j] = ys[j]
        · have hb2 : decide (xs[j] = ys[j]) = true := by simp [he]
          have HE := Lib.hid he
          clear he
          go_wp2
          go_roundg (xs.length - (j + 1))
          case measure => have := HJ.out; omega
          case rel =>
            refine ⟨j + 1, by omega, by go_num, HO1.out, ?_⟩
            show _ = _
            rw [List.take_succ_eq_append_getElem hlt, List.take_succ_eq_append_getElem hlt2, HT.out, HE.out]
        · have hb2 : decide (xs[j] = ys[j]) = false := by simp [he]
          have HE := Lib.hid he
          clear he
          go_wp2
          go_ret
          exact ⟨ret_bool (by symm; rw [decide_eq_false_iff_not]; rintro rfl; exact HE.out rfl), HO1.out⟩
      · have hj := HJ.out
        have hj2 := HL.out
        have ht := HT.out
        clear HJ HL HT
        rw [List.take_of_length_le (by omega), List.take_of_length_le (by omega)] at ht
        clear hj2
        have HT := Lib.hid ht
        clear ht
        go_wp2
        go_ret
        exact ⟨ret_bool (by simp [HT.out]), HO.out⟩
  · have hb : ((xs.length : Int) != ys.length) = true := by simp; omega
    go_enter Try.func21, Try.ntmps21
    go_wp2
    go_ret
    exact ⟨ret_bool (by symm; rw [decide_eq_false_iff_not]; rintro rfl; exact hl rfl), Only.refl _ _⟩

def ctHold (_ : DHold) : Nat := 3
def mkHold (k : Int) (_ : DHold) : DHold := ⟨k, k + 1, k + 1 + 1⟩
def ctHoldS (xs : List DHold) : Nat := (xs.map ctHold).sum
def mkHoldS : Int → List DHold → List DHold
  | _, [] => []
  | k, x :: xs => mkHold k x :: mkHoldS (k + ctHold x) xs
theorem mkHoldS_len : ∀ (k : Int) (xs : List DHold), (mkHoldS k xs).length = xs.length
  | _, [] => rfl
  | k, x :: xs => by simp [mkHoldS, mkHoldS_len]
theorem ctHoldS_take (xs : List DHold) (j : Nat) (h : j < xs.length) : ctHoldS (xs.take (j + 1)) = ctHoldS (xs.take j) + ctHold xs[j] := map_sum_take _ _ _ h
theorem mkHoldS_at : ∀ (k : Int) (xs : List DHold) (j : Nat) (h : j < (mkHoldS k xs).length), (mkHoldS k xs)[j] = mkHold (k + ctHoldS (xs.take j)) (xs[j]'(by rw [mkHoldS_len] at h; exact h))
  | k, x :: xs, 0, _ => by simp [mkHoldS, ctHoldS]
  | k, x :: xs, j + 1, h => by
    simp only [mkHoldS, List.getElem_cons_succ, mkHoldS_at, List.take_succ_cons]
    congr 1
    simp [ctHoldS]
    omega
theorem mkHoldS_step (k : Int) (xs : List DHold) (j : Nat) (h : j < xs.length) :
    ((mkHoldS k xs).take j ++ xs.drop j).set j (mkHold (k + ctHoldS (xs.take j)) xs[j]) = (mkHoldS k xs).take (j + 1) ++ xs.drop (j + 1) := by
  have hl : ((mkHoldS k xs).take j).length = j := by simp [mkHoldS_len]; omega
  rw [List.set_append_right _ _ (by omega), hl, Nat.sub_self, List.drop_eq_getElem_cons h, List.set_cons_zero, List.take_succ_eq_append_getElem (by rw [mkHoldS_len]; exact h), mkHoldS_at]
  simp
theorem ctHoldS_mem (xs : List DHold) (j : Nat) (h : j < xs.length) : ctHoldS (xs.take j) + ctHold xs[j] ≤ ctHoldS xs := map_sum_mem _ _ _ h

theorem ctHoldS_wt (xs : List DHold) : ctHoldS xs ≤ 64 * xs.length := by
  unfold ctHoldS
  induction xs with
  | nil => simp
  | cons x xs ih => simp only [List.map_cons, List.sum_cons, List.length_cons, ctHold] at *; omega

theorem markHoldS_calls (A : Option Addr) (c : Nat) (xs : List DHold) (F : List Nat) (k : Int) (w : World) (h : Rep.Hold.sl w A c xs F) (hn : F.Nodup) (hu : Unfr w F)
    (h0 : 0 ≤ k) (hk : k + ctHoldS xs ≤ 4611686018427387904) :
    Calls Try.prog 22 #[.slice A xs.length c, .int .i64 k] w (MarkPost Rep.Hold A c (mkHoldS k xs) F (k + ctHoldS xs) w) := by
  have hu_impl_Hold := Try.underlying75
  have hm := Nat.le_trans h.1 h.2.1
  unfold maxLen at hm
  go_enter Try.func22, Try.ntmps22
  go_wp2
  go_loopg [5, 1] (xs.length) (fun m i q wr => ∃ (j : Nat) (p : Int), m + j = xs.length ∧ i = .int .i64 j ∧ q = .int .i64 p ∧ p = k + ctHoldS (xs.take j) ∧ Only F w wr ∧ Unfr wr F ∧ Rep.Hold.sl wr A c ((mkHoldS k xs).take j ++ xs.drop j) F)
  case atStart => exact ⟨0, _, by simp, rfl, rfl, by simp [ctHoldS], Only.refl _ _, hu, by simpa using h⟩
  case round =>
    obtain ⟨j, p, hj, rfl, rfl, hp, hO, hU, hS⟩ := hrel
    have HO := Lib.hid hO; have HU := Lib.hid hU; have HS := Lib.hid hS; have HJ := Lib.hid hj; have HP := Lib.hid hp
    clear hO hU hS hj hp
    by_cases hlt : j < xs.length
    · have hlen : j < ((mkHoldS k xs).take j ++ xs.drop j).length := by simp [mkHoldS_len]; omega
      have hct := ctHoldS_mem xs j hlt
      have hp0 : 0 ≤ p := by have := HP.out; omega
      have hp1 : p + ctHold xs[j] ≤ 4611686018427387904 := by have := HP.out; omega
      obtain ⟨g, off, d, G, rfl, hgF, hgG, hGF, hGn, hR, hf, hdone⟩ := Rep.sl_foc HS.out hn HU.out j hlen
      rw [mid_at (mkHoldS_len k xs) hlt] at hR
      obtain ⟨rfl, rfl, hw⟩ := hR
      have hst := mkHoldS_step k xs j hlt
      rw [← HP.out] at hst
      generalize hx : xs[j] = x at *
      have HST := Lib.hid hst
      have HX := Lib.hid hx
      clear hst hx hlen hct
      unfold ctHold at hp1
      replace hf : Foc wr wr g (off + j * 3) 3 F _ _ := hf
      have k0 : wr.cell? ⟨g, off + j * 3, none⟩ = some _ := hf.cell 0 _ rfl
      have k1 := hf.cell 1 _ rfl
      have k2 := hf.cell 2 _ rfl
      have kf := fun o => hf.unfr g hgF o
      have HF0 := Lib.hid hf
      have HD := Lib.hid hdone
      clear hf hdone
      go_wp2
      go_roundg (xs.length - (j + 1))
      case measure => have := HJ.out; omega
      case rel =>
        have hfe := (((HF0.out.set hgF 0 (by omega) (.int .i64 (p))).set hgF 1 (by omega) (.int .i64 (p + 1))).set hgF 2 (by omega) (.int .i64 (p + 1 + 1)))
        have hr := HD.out _ (mkHold p x) _ hfe ⟨(by simp [mkHold]), rfl, (by simp only [wfHold, mkHold]; (repeat' apply And.intro) <;> exact WalkArith.wf_i64 (by omega))⟩
        rw [HST.out] at hr
        refine ⟨j + 1, _, by omega, by go_num, rfl, ?_, (HO.out.trans hfe.only), hfe.unfr, hr⟩
        have := HP.out
        rw [ctHoldS_take xs j hlt, HX.out]
        unfold ctHold
        omega
    · have hj := HJ.out
      have hs := HS.out
      have hp := HP.out
      rw [List.take_of_length_le (by rw [mkHoldS_len]; omega), List.drop_of_length_le (by omega), List.append_nil] at hs
      rw [List.take_of_length_le (by omega)] at hp
      have HP2 := Lib.hid hp
      clear hp HP
      go_wp2
      go_ret
      exact ⟨ret_int HP2.out, hs, HO.out, HU.out⟩

theorem heldHoldS_calls (A : Option Addr) (c : Nat) (xs : List DHold) (F : List Nat) (k : Int) (w : World) (h : Rep.Hold.sl w A c (mkHoldS k xs) F)
    (h0 : 0 ≤ k) (hk : k + ctHoldS xs ≤ 4611686018427387904) :
    Calls Try.prog 23 #[.slice A xs.length c, .int .i64 k] w fun e w' => e = .returned (.int .i64 (k + ctHoldS xs)) ∧ Ext w w' := by
  have hu_impl_Hold := Try.underlying75
  have hm := Nat.le_trans h.1 h.2.1
  rw [mkHoldS_len] at hm
  unfold maxLen at hm
  go_enter Try.func23, Try.ntmps23
  go_wp2
  go_loopg [5, 1] (xs.length) (fun m i q wr => ∃ (j : Nat) (p : Int), m + j = xs.length ∧ i = .int .i64 j ∧ q = .int .i64 p ∧ p = k + ctHoldS (xs.take j) ∧ Ext w wr)
  case atStart => exact ⟨0, _, by simp, rfl, rfl, by simp [ctHoldS], Only.refl _ _⟩
  case round =>
    obtain ⟨j, p, hj, rfl, rfl, hp, hO⟩ := hrel
    have HO0 := Lib.hid hO; have HJ := Lib.hid hj; have HP := Lib.hid hp
    clear hO hj hp
    by_cases hlt : j < xs.length
    · have hct := ctHoldS_mem xs j hlt
      have hp0 : 0 ≤ p := by have := HP.out; omega
      have hp1 : p + ctHold xs[j] ≤ 4611686018427387904 := by have := HP.out; omega
      obtain ⟨g, off, rfl, hg, hw, k0, k1, k2⟩ := sl_Hold (Rep.sl_ext h HO0.out) j (by rw [mkHoldS_len]; exact hlt)
      clear h hw
      simp only [mkHoldS_at, ← HP.out] at k0 k1 k2
      generalize hx : xs[j] = x at *
      have HX := Lib.hid hx
      clear hx hct
      simp only [mkHold] at k0 k1 k2
      unfold ctHold at hp1
      go_wp2
      go_roundg (xs.length - (j + 1))
      case measure => have := HJ.out; omega
      case rel =>
        refine ⟨j + 1, _, by omega, by go_num, rfl, ?_, HO0.out⟩
        have := HP.out
        rw [ctHoldS_take xs j hlt, HX.out]
        unfold ctHold
        omega
    · have hj := HJ.out
      have hp := HP.out
      rw [List.take_of_length_le (by omega)] at hp
      have HP2 := Lib.hid hp
      clear hp HP
      go_wp2
      go_ret
      exact ⟨ret_int HP2.out, HO0.out⟩

end Go.Proofs.Ytildfjlekplgjaa
