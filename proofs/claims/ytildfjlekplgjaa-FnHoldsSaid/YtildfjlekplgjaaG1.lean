/- FnLocks: the walk of the law. -/
import Derived.Test.YtildfjlekplgjaaG0
import Derived.Test.YtildfjlekplgjaaN11
import Derived.Test.YtildfjlekplgjaaQX
import Derived.Test.YtildfjlekplgjaaI0
import Derived.Deep.DeepCutAuto
import Derived.Deep.CutRange
namespace Go.Proofs.Ytildfjlekplgjaa
open Go.RowKit
set_option linter.unusedSimpArgs false
set_option linter.unusedVariables false
theorem made_one (z : Value) (n : Nat) (hz : z.cells = #[z]) : madeCells z.cells n = Array.replicate n z := by
  rw [hz]
  apply Array.ext
  · simp [madeCells]
  · intro i h1 h2
    simp [madeCells, Nat.mod_one]
theorem mk_modes (w : World) : (Instr.makeSlice 43 (.int .i64 40) (.int .i64 40)).run Try.prog w = .ok (.slice (some ⟨w.heap.size, 0, none⟩) 40 40) (w.alloc (.cells (Array.replicate 40 (.int .i64 0)) 2)) := by
  obtain ⟨i0, hi, hz0, hz1, hz2⟩ := info_parts info2
  have h := run_make (P := Try.prog) w 43 2 i0 _ Try.underlying43 hi hz0 .i64 .i64 40 40 (by omega) (by omega) (by rw [hz2]; omega) (by omega)
  rw [hz1, made_one _ _ rfl] at h
  simpa using h
theorem run_locks (z : Int) (A : Option Addr) (n c : Nat) (w : World) : (Instr.field 26 (.agg #[.int .i64 z, .slice A n c]) 1).run Try.prog w = .ok (.slice A n c) w := by kernel_rfl
/-- The table of modes in block g. -/
def MB (g : Nat) (M : List Int) (w : World) : Prop := w.heap[g]? = some (.cells (M.map (Value.int .i64)).toArray 2 (0, 0))
theorem MB.ext {g : Nat} {M : List Int} {w w' : World} (h : MB g M w) (hE : Ext w w') : MB g M w' := hE.heap h (by simp)
theorem MB.set {g : Nat} {M : List Int} {w : World} (h : MB g M w) (j : Nat) (v : Int) : MB g (M.set j v) (w.setCell ⟨g, j, none⟩ (.int .i64 v)) := by
  have := heap_setCell_same w g j _ _ (.int .i64 v) h
  unfold MB
  rw [this]
  simp [List.map_set]
theorem MB.cell {g : Nat} {M : List Int} {w : World} (h : MB g M w) {j : Nat} {v : Int} (hj : M[j]? = some v) : w.cell? ⟨g, j, none⟩ = some (.int .i64 v) := by
  rw [cell_of_row w g j _ _ _ h]
  simp [hj]
theorem MB.frozen {g : Nat} {M : List Int} {w : World} (h : MB g M w) (j : Nat) : w.frozen? ⟨g, j, none⟩ = false := frozen_of_row w g j _ _ h
theorem freeLaw_calls (A : Option Addr) (c : Nat) (xs : List DLock) (F : List Nat) (w : World) (h : Rep.Lock.sl w A c xs F) (txn : Int) (hI : LkOK xs) (hs : xs.length ≤ 4096) :
    Calls Try.prog 25 #[.slice A xs.length c, .int .i64 txn] w fun e w' => ∃ A' c' F' ys, e = .returned (.agg #[.int .i64 0, .slice A' ys.length c']) ∧ Hid (ys = xs.filter (fun l => !decide (l.Txn = txn))) ∧ Hid (Rep.Lock.sl w' A' c' ys F') ∧ Hid (∀ g ∈ F', w.heap.size ≤ g) ∧ Hid (Ext w w') := by
  refine (lockFree_calls A c xs F w h txn (by omega)).mono ?_
  rintro e w' ⟨v, F', rfl, hV, hN⟩
  rw [lockFree, if_pos (hI.fault hs)] at hV
  obtain ⟨_, ⟨A1, c1, F1, rfl, rfl, hw, s1⟩, rfl⟩ := hV
  exact ⟨A1, c1, _, _, rfl, Lib.hid rfl, Lib.hid s1, Lib.hid hN.new, Lib.hid hN.ext⟩
theorem askLaw_calls (A : Option Addr) (c : Nat) (xs : List DLock) (F : List Nat) (w : World) (h : Rep.Lock.sl w A c xs F) (txn id mode : Int) (R : DLockResult) (hR : R = lockAsk xs txn id mode) (hs : xs.length ≤ 4096) (ht : (Lit.int .i64 txn).wf = true) (hi : (Lit.int .i64 id).wf = true) (hm : (Lit.int .i64 mode).wf = true) :
    Calls Try.prog 11 #[.slice A xs.length c, .int .i64 txn, .int .i64 id, .int .i64 mode] w fun e w' => ∃ A' c' F', e = .returned (.agg #[.int .i64 R.Code, .slice A' R.Locks.length c']) ∧ Hid (Rep.Lock.sl w' A' c' R.Locks F') ∧ Hid (∀ g ∈ F', w.heap.size ≤ g) ∧ Hid (Ext w w') := by
  refine (implLockAsk_new w A c xs F h txn ht id hi mode hm (by omega)).mono ?_
  rintro e w' ⟨v, F', rfl, hV, hN⟩
  rw [← hR] at hV
  obtain ⟨_, ⟨A1, c1, F1, rfl, rfl, hw, s1⟩, rfl⟩ := hV
  exact ⟨A1, c1, _, rfl, Lib.hid s1, Lib.hid hN.new, Lib.hid hN.ext⟩
theorem nat_wf (n : Nat) (h : n ≤ 1000000) : (Lit.int .i64 (n : Int)).wf = true := by
  simp only [Lit.wf, IntKind.min, IntKind.max, IntKind.signed, IntKind.bits]
  simp
  omega
theorem askBad_calls (A : Option Addr) (c : Nat) (xs : List DLock) (F : List Nat) (w : World) (h : Rep.Lock.sl w A c xs F) (txn id mode : Nat) (hI : LkOK xs) (hs : xs.length < 4096) (ht : 1 ≤ txn ∧ txn ≤ 4) (hi : id ≤ 7) (hm : 1 ≤ mode ∧ mode ≤ 2)
    (hbad : modeL xs txn id true = 2 ∨ modeL xs txn id true ≠ 0 ∧ (mode : Int) = 2) :
    Calls Try.prog 11 #[.slice A xs.length c, .int .i64 txn, .int .i64 id, .int .i64 mode] w fun e w' => ∃ A' c', e = .returned (.agg #[.int .i64 1, .slice A' 0 c']) ∧ Hid (Ext w w') := by
  have e := lockAsk_is hI hs txn id mode (by omega) (by omega) (by omega)
  rw [if_pos hbad] at e
  refine (askLaw_calls A c xs F w h txn id mode _ e.symm (by omega) (nat_wf _ (by omega)) (nat_wf _ (by omega)) (nat_wf _ (by omega))).mono ?_
  rintro e w' ⟨A', c', F', rfl, -, -, hE⟩
  exact ⟨A', c', rfl, hE⟩
theorem askGood_calls (A : Option Addr) (c : Nat) (xs : List DLock) (F : List Nat) (w : World) (h : Rep.Lock.sl w A c xs F) (txn id mode : Nat) (hI : LkOK xs) (hs : xs.length < 4096) (ht : 1 ≤ txn ∧ txn ≤ 4) (hi : id ≤ 7) (hm : 1 ≤ mode ∧ mode ≤ 2)
    (hok : ¬ (modeL xs txn id true = 2 ∨ modeL xs txn id true ≠ 0 ∧ (mode : Int) = 2)) :
    Calls Try.prog 11 #[.slice A xs.length c, .int .i64 txn, .int .i64 id, .int .i64 mode] w fun e w' => ∃ A' c' F' ys, e = .returned (.agg #[.int .i64 0, .slice A' ys.length c']) ∧ Hid (ys = askPut xs txn id ⟨id, txn, max (modeL xs txn id false) mode⟩) ∧ Hid (Rep.Lock.sl w' A' c' ys F') ∧ Hid (∀ g ∈ F', w.heap.size ≤ g) ∧ Hid (Ext w w') := by
  have e := lockAsk_is hI hs txn id mode (by omega) (by omega) (by omega)
  rw [if_neg hok] at e
  refine (askLaw_calls A c xs F w h txn id mode _ e.symm (by omega) (nat_wf _ (by omega)) (nat_wf _ (by omega)) (nat_wf _ (by omega))).mono ?_
  rintro e w' ⟨A', c', F', rfl, h1, h2, hE⟩
  exact ⟨A', c', F', _, rfl, Lib.hid rfl, h1, h2, hE⟩
set_option maxRecDepth 100000 in
set_option maxHeartbeats 8000000 in
theorem Locks_walk (w : World) (A : Option Addr) (c : Nat) (bs : List Int) (F : List Nat) (h : (Rep.int .u8).sl w A c bs F) :
    Calls Try.prog 5 #[.slice A bs.length c] w fun e w' => e = .returned (.bool true) ∧ Ext w w' := by
  have hu := Try.underlying26
  have hm := h.1
  have hM := h.2.1
  unfold maxLen at hM
  by_cases hl : (1048576 : Int) < bs.length
  · go_enter Try.func5, Try.ntmps5
    go_wp2
    go_ret
    exact ⟨rfl, Only.refl _ _⟩
  have HLEN := Lib.hid (show bs.length ≤ 1048576 by omega)
  have H0 := Lib.hid h
  have hmk := mk_modes (w.alloc (.cells #[] 63))
  clear hm hM h
  go_enter Try.func5, Try.ntmps5
  go_wp2
  clear hmk hl
  go_loopg [5, 3] 40 (fun m i l wr => ∃ (k : Nat) (xs : List DLock) (M : List Int) (A' : Option Addr) (c' : Nat) (F' : List Nat), m + k = 40 ∧ i = .int .i64 k ∧ l = .slice A' xs.length c' ∧ Hid (LInv xs M) ∧ Hid (xs.length ≤ k) ∧ Hid (Rep.Lock.sl wr A' c' xs F') ∧ Hid (MB (w.heap.size + 1) M wr) ∧ Hid (w.heap.size + 1 ∉ F') ∧ Hid (Ext w wr))
  case atStart => exact ⟨0, [], List.replicate 40 0, _, 0, [], by simp, rfl, rfl, Lib.hid LInv.start, Lib.hid (Nat.le_refl _), Lib.hid (Rep.sl_nil (by simp)), Lib.hid (heap_at _ _ (by simp)), Lib.hid (by simp), Lib.hid ((alloc_ext _ _).alloc _)⟩
  case round =>
    obtain ⟨k, xs, M, A', c', F', hk, rfl, rfl, HI, HN, HS, HM, HG, HX⟩ := hrel
    have HK := Lib.hid hk
    by_cases hlt : k < 40
    · have e1 : IntKind.i64.wrap (3 * (k : Int)) = 3 * (k : Int) := by rw [IntKind.wrap_i64] <;> omega
      have e2 : IntKind.i64.wrap (3 * (k : Int) + 1) = 3 * (k : Int) + 1 := by rw [IntKind.wrap_i64] <;> omega
      have e3 : IntKind.i64.wrap (3 * (k : Int) + 2) = 3 * (k : Int) + 2 := by rw [IntKind.wrap_i64] <;> omega
      clear hk
      go_wp2_with (go_at_call 24; refine (lwN_calls A c bs F wr (Rep.sl_ext H0.out HX.out) HLEN.out _ 4 _ rfl (by omega) (by decide)).mono ?_; rintro e wa ⟨r1, rfl, h1, hE1⟩; have HE1 := Lib.hid hE1; clear hE1; refine Hid.out ?_)
      refine Lib.hid ?_
      obtain ⟨t, ht⟩ : ∃ t : Nat, t = r1 + 1 := ⟨_, rfl⟩
      have e4 : IntKind.i64.wrap (1 + (r1 : Int)) = (t : Int) := by rw [IntKind.wrap_i64] <;> omega
      have ht1 : 1 ≤ t := by omega
      have ht4 : t ≤ 4 := by omega
      clear h1 ht
      go_wp2_with (go_at_call 24; refine (lwN_calls A c bs F wa (Rep.sl_ext H0.out (HX.out.ext HE1.out)) HLEN.out _ 8 _ rfl (by omega) (by decide)).mono ?_; rintro e wb ⟨id, rfl, hid, hE2⟩; have HE2 := Lib.hid hE2; clear hE2; refine Hid.out ?_)
      refine Lib.hid ?_
      go_upto_if 38 with (go_at_call 24; refine (lwN_calls A c bs F wb (Rep.sl_ext H0.out ((HX.out.ext HE1.out).ext HE2.out)) HLEN.out _ 7 _ rfl (by omega) (by decide)).mono ?_; rintro e wk ⟨r3, rfl, h3, hE3⟩; have HE3 := Lib.hid hE3; clear hE3)
      have hEE := HE1.out.ext (HE2.out.ext HE3.out)
      have HXC := Lib.hid (HX.out.ext hEE)
      have HSC := Lib.hid (Rep.sl_ext HS.out hEE)
      have HMC := Lib.hid (HM.out.ext hEE)
      clear hEE
      have hidn : id ≤ 7 := by omega
      obtain ⟨b0, hb0⟩ : ∃ b, b = ((r3 : Int) == 0) := ⟨_, rfl⟩
      rw [← hb0]
      clear hb0 h3
      go_cut [3, 8, 9, 10, 11, 12] from 39 to 136 (fun l s8 s9 s10 s11 s12 wz => ∃ (ys : List DLock) (M2 : List Int) (A2 : Option Addr) (c2 : Nat) (F2 : List Nat), l = .slice A2 ys.length c2 ∧ Hid (LInv ys M2) ∧ Hid (ys.length ≤ k + 1) ∧ Hid (Rep.Lock.sl wz A2 c2 ys F2) ∧ Hid (MB (w.heap.size + 1) M2 wz) ∧ Hid (w.heap.size + 1 ∉ F2) ∧ Hid (Ext w wz))
      case first =>
        cases b0
        case true =>
          have hrf := run_locks
          go_wp2_with (go_at_call 25; refine (freeLaw_calls A' c' xs F' wk HSC.out t HI.out.lk (by have := HN.out; omega)).mono ?_; rintro e wd ⟨Ad, cd, Fd, ys, rfl, HY, HSD, HFD, HED⟩)
          clear hrf
          go_loopg [8] 8 (fun m i wy => ∃ j : Nat, m + j = 8 ∧ i = .int .i64 j ∧ Hid (MB (w.heap.size + 1) (clrUp M t j) wy) ∧ Hid (Only [w.heap.size + 1] wd wy))
          case atStart => exact ⟨0, by simp, rfl, Lib.hid (HMC.out.ext HED.out), Lib.hid (Only.refl _ _)⟩
          case round =>
            obtain ⟨j, hj, rfl, HMJ, HOJ⟩ := hrel
            have HJ := Lib.hid hj
            by_cases hjl : j < 8
            · obtain ⟨q, hq⟩ : ∃ q : Nat, q = t * 8 + j := ⟨_, rfl⟩
              have a1 : IntKind.i64.wrap ((t : Int) * 8) = (t : Int) * 8 := by rw [IntKind.wrap_i64] <;> omega
              have a2 : IntKind.i64.wrap ((t : Int) * 8 + (j : Int)) = (q : Int) := by rw [IntKind.wrap_i64] <;> omega
              have hq40 : q < 40 := by omega
              have hq40' : (q : Int) < 40 := by omega
              obtain ⟨v, hv⟩ : ∃ v, (clrUp M t j)[q]? = some v := ⟨_, List.getElem?_eq_getElem (by rw [clrUp_len, HI.out.len]; exact hq40)⟩
              have cq := HMJ.out.cell hv
              have fq := HMJ.out.frozen q
              have HQ := Lib.hid hq
              clear hv hj hq
              go_wp2
              go_roundg (8 - (j + 1))
              case measure => have := HJ.out; omega
              case rel => exact ⟨j + 1, by have := HJ.out; omega, by go_num, by rw [clrUp, ← HQ.out]; exact Lib.hid (HMJ.out.set q 0), Lib.hid (HOJ.out.setCell (fun _ => by simp) _)⟩
            · obtain rfl : j = 8 := by omega
              clear hj hjl
              go_wp2
              go_meet
              have hgl : w.heap.size + 1 < wk.heap.size := (Array.getElem?_eq_some_iff.1 HMC.out).1
              have hnm : w.heap.size + 1 ∉ Fd := fun hm => by have := HFD.out _ hm; omega
              have hyl : ys.length ≤ xs.length := by rw [HY.out]; exact List.length_filter_le _ _
              exact ⟨ys, clrUp M t 8, Ad, cd, Fd, rfl, Lib.hid (by rw [HY.out]; exact HI.out.free t ht1 ht4), Lib.hid (by have := HN.out; omega), Lib.hid (Rep.sl_only HSD.out HOJ.out (fun b hb hb' => by simp at hb'; subst hb'; exact hnm hb)), HMJ, Lib.hid hnm, Lib.hid ((HXC.out.ext HED.out).then_ HOJ.out (fun g hg hl => by simp at hg; omega))⟩
        case false =>
          go_wp2_with (go_at_call 24; refine (lwN_calls A c bs F wk (Rep.sl_ext H0.out HXC.out) HLEN.out _ 2 _ rfl (by omega) (by decide)).mono ?_; rintro e wd ⟨r2, rfl, h2, hE4⟩; have HE4 := Lib.hid hE4; clear hE4; refine Hid.out ?_)
          refine Lib.hid ?_
          obtain ⟨md, hmd⟩ : ∃ t : Nat, t = r2 + 1 := ⟨_, rfl⟩
          have e5 : IntKind.i64.wrap (1 + (r2 : Int)) = (md : Int) := by rw [IntKind.wrap_i64] <;> omega
          have hm1 : 1 ≤ md := by omega
          have hm2 : md ≤ 2 := by omega
          clear h2 hmd
          go_wp2
          go_loopg [11, 10] 4 (fun m i o wy => ∃ j : Nat, m + j = 4 ∧ i = .int .i64 ((j + 1 : Nat) : Int) ∧ o = .int .i64 (othUp M t id j) ∧ wd = wy)
          case atStart => exact ⟨0, by simp, rfl, rfl, rfl⟩
          case round =>
            obtain ⟨j, hj, rfl, rfl, rfl⟩ := hrel
            have HJ := Lib.hid hj
            by_cases hjl : j < 4
            · obtain ⟨q, hq⟩ : ∃ q : Nat, q = (j + 1) * 8 + id := ⟨_, rfl⟩
              have a0 : IntKind.i64.wrap (((j + 1 : Nat) : Int) + 1) = ((j + 1 + 1 : Nat) : Int) := by rw [IntKind.wrap_i64] <;> omega
              have a1 : IntKind.i64.wrap (((j + 1 : Nat) : Int) * 8) = ((j + 1 : Nat) : Int) * 8 := by rw [IntKind.wrap_i64] <;> omega
              have a2 : IntKind.i64.wrap (((j + 1 : Nat) : Int) * 8 + (id : Int)) = (q : Int) := by rw [IntKind.wrap_i64] <;> omega
              have hq40 : q < 40 := by omega
              have hq40' : (q : Int) < 40 := by omega
              have hj5 : ((j + 1 : Nat) : Int) < 5 := by omega
              obtain ⟨v, hv⟩ : ∃ v, M[q]? = some v := ⟨_, List.getElem?_eq_getElem (by rw [HI.out.len]; exact hq40)⟩
              have hvd : M.getD ((j + 1) * 8 + id) 0 = v := by rw [List.getD_eq_getElem?_getD, ← hq, hv]; rfl
              have hnx : othUp M t id (j + 1) = if j + 1 ≠ t ∧ othUp M t id j < v then v else othUp M t id j := by rw [othUp, othStep, hvd]
              have cq := (HMC.out.ext HE4.out).cell hv
              have fq := (HMC.out.ext HE4.out).frozen q
              obtain ⟨o, ho⟩ : ∃ o, o = othUp M t id j := ⟨_, rfl⟩
              rw [← ho] at hnx ⊢
              obtain ⟨tt, htt⟩ : ∃ n : Nat, n = j + 1 := ⟨_, rfl⟩
              rw [← htt] at a0 a1 a2 hj5 hnx ⊢
              have HTT := Lib.hid htt
              clear hv hvd hj ho hq htt
              by_cases hc1 : tt = t
              · have b4 : ((tt : Int) != (t : Int)) = false := by simp [hc1]
                rw [if_neg (fun h => h.1 hc1)] at hnx
                have HNX := Lib.hid hnx
                clear hc1 hnx
                go_wp2
                go_roundg (4 - (j + 1))
                case measure => have := HJ.out; omega
                case rel => exact ⟨j + 1, by have := HJ.out; omega, by rw [HTT.out]; rfl, by rw [← HTT.out, HNX.out], rfl⟩
              · have b4 : ((tt : Int) != (t : Int)) = true := by simp; omega
                by_cases hc2 : o < v
                · rw [if_pos ⟨hc1, hc2⟩] at hnx
                  have HNX := Lib.hid hnx
                  clear hc1 hnx
                  go_wp2
                  go_roundg (4 - (j + 1))
                  case measure => have := HJ.out; omega
                  case rel => exact ⟨j + 1, by have := HJ.out; omega, by rw [HTT.out]; rfl, by rw [← HTT.out, HNX.out], rfl⟩
                · rw [if_neg (fun h => hc2 h.2)] at hnx
                  have HNX := Lib.hid hnx
                  clear hc1 hnx
                  go_wp2
                  go_roundg (4 - (j + 1))
                  case measure => have := HJ.out; omega
                  case rel => exact ⟨j + 1, by have := HJ.out; omega, by rw [HTT.out]; rfl, by rw [← HTT.out, HNX.out], rfl⟩
            · obtain rfl : j = 4 := by omega
              clear hj hjl
              obtain ⟨oth, hoth⟩ : ∃ o, o = othUp M t id 4 := ⟨_, rfl⟩
              rw [← hoth]
              have hom : oth = modeL xs t id true := hoth.trans (HI.out.others t id hidn)
              have hor := modeL_range (xs := xs) t id true HI.out.lk.all
              rw [← hom] at hor
              obtain ⟨q, hq⟩ : ∃ q : Nat, q = t * 8 + id := ⟨_, rfl⟩
              have a1 : IntKind.i64.wrap ((t : Int) * 8) = (t : Int) * 8 := by rw [IntKind.wrap_i64] <;> omega
              have a2 : IntKind.i64.wrap ((t : Int) * 8 + (id : Int)) = (q : Int) := by rw [IntKind.wrap_i64] <;> omega
              have hq40 : q < 40 := by omega
              have hq40' : (q : Int) < 40 := by omega
              obtain ⟨own, hown⟩ : ∃ o, o = modeL xs t id false := ⟨_, rfl⟩
              have hmq : M[q]? = some own := by rw [hq, hown]; exact HI.out.md t id ht1 ht4 hidn
              have HMO : Hid (modeIf xs t id true = oth) := Lib.hid (by rw [modeIf, if_pos (HI.out.lk.fault (by have := HN.out; omega)), hom])
              have HOM := Lib.hid hom; have HQ := Lib.hid hq; have HOWN := Lib.hid hown; have HMQ := Lib.hid hmq
              clear hoth hom hq hown hmq
              have hcs : (oth = 2 ∨ oth = 1 ∧ ((md : Int) == 2) = true) ∨ (oth = 1 ∧ ((md : Int) == 2) = false ∨ oth = 0) := by
                by_cases hmd : (md : Int) = 2
                · have : ((md : Int) == 2) = true := by simp [hmd]
                  rw [this]; simp; omega
                · have : ((md : Int) == 2) = false := by simp [hmd]
                  rw [this]; simp; omega
              rcases hcs with hbad | hgood
              · have HBAD : Hid (modeL xs t id true = 2 ∨ modeL xs t id true ≠ 0 ∧ (md : Int) = 2) := Lib.hid (by
                  rw [← HOM.out]
                  rcases hbad with h | ⟨h1, h2⟩
                  · exact .inl h
                  · exact .inr ⟨by omega, by simpa using h2⟩)
                clear HOM hor
                rcases hbad with rfl | ⟨rfl, b5⟩
                all_goals
                  go_wp2_with (first
                    | (go_at_call 26; refine (implOthers_calls A' c' xs F' _ (Rep.sl_ext HSC.out HEF.out) t id).mono ?_; rintro e wf ⟨rfl, hEg⟩; rw [HMO.out]; have HEG := Lib.hid (HEF.out.ext hEg); clear mb; have mb := fun o => cell_of_row _ _ o _ _ _ (hEg.heap HBX.out (by simp)); clear hEg)
                    | (go_at_call 11; refine (askBad_calls A' c' xs F' wd (Rep.sl_ext HSC.out HE4.out) t id md HI.out.lk (by have := HN.out; omega) (by omega) (by omega) (by omega) HBAD.out).mono ?_; rintro e we ⟨Ae, ce, rfl, HEE⟩; have HBX := Lib.hid (heap_alloc_new we (.cells #[.int .i64 1, .slice Ae 0 ce] 26)); have mb := fun o => cell_of_row _ _ o _ _ _ HBX.out; have HEF := Lib.hid ((HE4.out.ext HEE.out).ext (alloc_ext we (.cells #[.int .i64 1, .slice Ae 0 ce] 26)))))
                  go_meet
                  exact ⟨xs, M, A', c', F', rfl, HI, Lib.hid (by have := HN.out; omega), Lib.hid (Rep.sl_ext HSC.out HEG.out), Lib.hid (HMC.out.ext HEG.out), HG, Lib.hid (HXC.out.ext HEG.out)⟩
              · have HOK : Hid (¬ (modeL xs t id true = 2 ∨ modeL xs t id true ≠ 0 ∧ (md : Int) = 2)) := Lib.hid (by
                  rw [← HOM.out]
                  rcases hgood with ⟨h1, h2⟩ | h1
                  · have h3 : ¬ (md : Int) = 2 := by simpa using h2
                    rintro (h | ⟨-, h⟩)
                    · omega
                    · exact h3 h
                  · rintro (h | ⟨h, -⟩)
                    · omega
                    · exact h h1)
                have HLI := Lib.hid (HI.out.ask t id md ht1 ht4 hidn (by omega) HOK.out)
                rw [← HQ.out, ← HOWN.out] at HLI
                clear HOM hor
                by_cases hod : own < (md : Int)
                · rw [if_pos hod] at HLI
                  rcases hgood with ⟨rfl, b5⟩ | rfl
                  all_goals
                    go_wp2_with (first
                      | (go_at_call 26; refine (implOthers_calls A' c' xs F' _ (Rep.sl_ext HSC.out HEF.out) t id).mono ?_; rintro e wf ⟨rfl, hEg⟩; rw [HMO.out]; have HEG := Lib.hid (HEF.out.ext hEg); clear mb; have mb := fun o => cell_of_row _ _ o _ _ _ (hEg.heap HBX.out (by simp)); have HE6 := Lib.hid (((alloc_ext we (.cells #[.int .i64 0, .slice Ae ys.length ce] 26)).ext hEg)); have cq := (HMC.out.ext HEG.out).cell HMQ.out; have fq := (HMC.out.ext HEG.out).frozen q; clear hEg)
                      | (go_at_call 11; refine (askGood_calls A' c' xs F' wd (Rep.sl_ext HSC.out HE4.out) t id md HI.out.lk (by have := HN.out; omega) (by omega) (by omega) (by omega) HOK.out).mono ?_; rintro e we ⟨Ae, ce, Fe, ys, rfl, HY, HSE, HFE, HEE⟩; have HBX := Lib.hid (heap_alloc_new we (.cells #[.int .i64 0, .slice Ae ys.length ce] 26)); have mb := fun o => cell_of_row _ _ o _ _ _ HBX.out; have HEF := Lib.hid ((HE4.out.ext HEE.out).ext (alloc_ext we (.cells #[.int .i64 0, .slice Ae ys.length ce] 26)))))
                    go_meet
                    have hgl : w.heap.size + 1 < wk.heap.size := (Array.getElem?_eq_some_iff.1 HMC.out).1
                    have hnm : w.heap.size + 1 ∉ Fe := fun hm => by have := HFE.out _ hm; have := HE4.out.size; omega
                    have hyl := put_len xs t id ⟨id, t, max (modeL xs t id false) md⟩
                    rw [← HY.out] at hyl
                    have hO : Only [w.heap.size + 1] wf (wf.setCell ⟨w.heap.size + 1, q, none⟩ (.int .i64 (md : Int))) := (Only.refl _ _).setCell (fun _ => by simp) _
                    exact ⟨ys, M.set q md, Ae, ce, Fe, rfl, Lib.hid (by rw [HY.out]; exact HOWN.out ▸ HLI.out), Lib.hid (by have := HN.out; omega), Lib.hid (Rep.sl_only (Rep.sl_ext HSE.out HE6.out) hO (fun b hb hb' => by simp at hb'; subst hb'; exact hnm hb)), Lib.hid ((HMC.out.ext HEG.out).set q md), Lib.hid hnm, Lib.hid ((HXC.out.ext HEG.out).then_ hO (fun g hg hl => by simp at hg; omega))⟩
                · rw [if_neg hod] at HLI
                  rcases hgood with ⟨rfl, b5⟩ | rfl
                  all_goals
                    go_wp2_with (first
                      | (go_at_call 26; refine (implOthers_calls A' c' xs F' _ (Rep.sl_ext HSC.out HEF.out) t id).mono ?_; rintro e wf ⟨rfl, hEg⟩; rw [HMO.out]; have HEG := Lib.hid (HEF.out.ext hEg); clear mb; have mb := fun o => cell_of_row _ _ o _ _ _ (hEg.heap HBX.out (by simp)); have HE6 := Lib.hid (((alloc_ext we (.cells #[.int .i64 0, .slice Ae ys.length ce] 26)).ext hEg)); have cq := (HMC.out.ext HEG.out).cell HMQ.out; have fq := (HMC.out.ext HEG.out).frozen q; clear hEg)
                      | (go_at_call 11; refine (askGood_calls A' c' xs F' wd (Rep.sl_ext HSC.out HE4.out) t id md HI.out.lk (by have := HN.out; omega) (by omega) (by omega) (by omega) HOK.out).mono ?_; rintro e we ⟨Ae, ce, Fe, ys, rfl, HY, HSE, HFE, HEE⟩; have HBX := Lib.hid (heap_alloc_new we (.cells #[.int .i64 0, .slice Ae ys.length ce] 26)); have mb := fun o => cell_of_row _ _ o _ _ _ HBX.out; have HEF := Lib.hid ((HE4.out.ext HEE.out).ext (alloc_ext we (.cells #[.int .i64 0, .slice Ae ys.length ce] 26)))))
                    go_meet
                    have hgl : w.heap.size + 1 < wk.heap.size := (Array.getElem?_eq_some_iff.1 HMC.out).1
                    have hnm : w.heap.size + 1 ∉ Fe := fun hm => by have := HFE.out _ hm; have := HE4.out.size; omega
                    have hyl := put_len xs t id ⟨id, t, max (modeL xs t id false) md⟩
                    rw [← HY.out] at hyl
                    exact ⟨ys, M, Ae, ce, Fe, rfl, Lib.hid (by rw [HY.out]; exact HOWN.out ▸ HLI.out), Lib.hid (by have := HN.out; omega), Lib.hid (Rep.sl_ext HSE.out HE6.out), Lib.hid (HMC.out.ext HEG.out), Lib.hid hnm, Lib.hid (HXC.out.ext HEG.out)⟩
      case rest =>
        obtain ⟨ys, M2, A2, c2, F2, rfl, HI2, HN2, HS2, HM2, HG2, HX2⟩ := hcut
        clear HI HN HS HM HG HX HE1 HE2 HE3 HXC HSC HMC
        have HF0 := Lib.hid (HI2.out.lk.fault (by have := HN2.out; omega))
        go_wp2_with (first
          | (go_at_call 28; refine (specLocksFault_calls A2 c2 ys F2 _ (Rep.sl_ext HS2.out HE6.out)).mono ?_; rintro e w7 ⟨rfl, hE⟩; rw [HF0.out]; have HE7 := Lib.hid (HE6.out.ext hE); clear hE)
          | (go_at_call 27; refine (implLocksFault_calls A2 c2 ys F2 _ HS2.out).mono ?_; rintro e w6 ⟨rfl, hE⟩; rw [HF0.out]; have HE6 := Lib.hid hE; clear hE))
        go_loopg [13] 4 (fun m i wy => ∃ j : Nat, m + j = 4 ∧ i = .int .i64 ((j + 1 : Nat) : Int) ∧ Hid (Ext wc wy))
        case atStart => exact ⟨0, by simp, rfl, HE7⟩
        case round =>
          obtain ⟨j, hj, rfl, HE8⟩ := hrel
          have HJ := Lib.hid hj
          by_cases hjl : j < 4
          · obtain ⟨q, hq⟩ : ∃ q : Nat, q = (j + 1) * 8 + id := ⟨_, rfl⟩
            have a0 : IntKind.i64.wrap (((j + 1 : Nat) : Int) + 1) = ((j + 1 + 1 : Nat) : Int) := by rw [IntKind.wrap_i64] <;> omega
            have a1 : IntKind.i64.wrap (((j + 1 : Nat) : Int) * 8) = ((j + 1 : Nat) : Int) * 8 := by rw [IntKind.wrap_i64] <;> omega
            have a2 : IntKind.i64.wrap (((j + 1 : Nat) : Int) * 8 + (id : Int)) = (q : Int) := by rw [IntKind.wrap_i64] <;> omega
            have hq40 : q < 40 := by omega
            have hq40' : (q : Int) < 40 := by omega
            have hj5 : ((j + 1 : Nat) : Int) < 5 := by omega
            have hmv := HI2.out.md (j + 1) id (by omega) (by omega) hidn
            rw [← hq] at hmv
            obtain ⟨tt, htt⟩ : ∃ n : Nat, n = j + 1 := ⟨_, rfl⟩
            rw [← htt] at a0 a1 a2 hj5 hmv ⊢
            obtain ⟨v, hv⟩ : ∃ v, v = modeL ys tt id false := ⟨_, rfl⟩
            rw [← hv] at hmv
            have HMV : Hid (modeIf ys tt id false = v) := Lib.hid (by rw [modeIf, if_pos HF0.out, hv])
            have cq := (HM2.out.ext HE8.out).cell hmv
            have HTT := Lib.hid htt
            clear hv hmv hj hq htt
            go_wp2_with fail
            refine region_ext (by kernel_rfl) (by kernel_rfl) ?_
            repeat (first
              | (refine WQ.skip (by rfl) ?_
                 try simp only [Act.put, List.setIfInBounds_toArray, List.set_cons_zero, List.set_cons_succ])
              | (refine WQ.take ?_ (by rfl) (fun w' hw => ?_) ?_
                 rotate_left
                 · have cq0 := hw.ecell cq
                   unfold Oper.quietAt
                   go_simp
                   first
                     | done
                     | exact ⟨rfl, rfl⟩
                     | exact rfl
                 try simp only [Act.put, List.setIfInBounds_toArray, List.set_cons_zero, List.set_cons_succ])
              | (refine WQ.take (.int .i64 v) (by rfl) (fun w' hw => ?_) ?_
                 · unfold Oper.quietAt
                   go_simp
                   go_at_call 29
                   exact ((implMode_calls A2 c2 ys F2 _ (Rep.sl_ext HS2.out (HE8.out.ext hw)) tt id).mono (fun e w5 h5 => ⟨h5.1.trans (congrArg (fun b => Ending.returned (.int .i64 b)) HMV.out), hw.ext h5.2⟩))
                 try simp only [Act.put, List.setIfInBounds_toArray, List.set_cons_zero, List.set_cons_succ]))
            refine WQ.nil ?_
            intro w9 hw9
            have HE9 := Lib.hid (HE8.out.ext hw9)
            clear hw9 cq
            go_wp2
            go_roundg (4 - (j + 1))
            case measure => have := HJ.out; omega
            case rel => exact ⟨j + 1, by have := HJ.out; omega, by rw [HTT.out]; rfl, HE9⟩
          · obtain rfl : j = 4 := by omega
            clear hj hjl
            have e7 : IntKind.i64.wrap ((k : Int) + 1) = ((k + 1 : Nat) : Int) := by rw [IntKind.wrap_i64] <;> omega
            go_wp2
            go_roundg (40 - (k + 1))
            case measure => have := HK.out; omega
            case rel => exact ⟨k + 1, ys, M2, A2, c2, F2, by have := HK.out; omega, rfl, rfl, HI2, HN2, Lib.hid (Rep.sl_ext HS2.out HE8.out), Lib.hid (HM2.out.ext HE8.out), HG2, Lib.hid (HX2.out.ext HE8.out)⟩
    · obtain rfl : k = 40 := by omega
      clear hk
      go_wp2
      go_ret
      exact ⟨rfl, HX.out⟩
end Go.Proofs.Ytildfjlekplgjaa
