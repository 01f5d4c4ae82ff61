/- RedoPage: the program's. -/
import Derived.Test.YtghgjddiheebeaaDoorV2a
namespace Go.Proofs.YtghgjddiheebeaaDoor
open Go.RowKit
set_option linter.unusedSimpArgs false
set_option linter.unusedVariables false
set_option maxRecDepth 100000 in
set_option maxHeartbeats 8000000 in
theorem implRedo_new (w : World) (A : Option Addr) (c : Nat) (p : List Int) (F : List Nat) (h : (Rep.int .u8).sl w A c p F) (num : Int) (en : (Lit.int .i64 num).wf = true) (Af : Option Addr) (cf : Nat) (fs : List DLogFrame) (Ff : List Nat) (hf : Rep.LogFrame.sl w Af cf fs Ff) (fr : Int) (er : (Lit.int .i64 fr).wf = true) (hs1 : p.length ≤ 1048576) (hs2 : wtLogFrameS fs ≤ 1048576) :
    Calls Tryd.prog 42 #[.slice A p.length c, .int .i64 num, .slice Af fs.length cf, .int .i64 fr] w (NewPost Rep.PageResult (redoPage p num fs fr) w) := by
  have hu := Tryd.underlying124
  have hu2 := Tryd.underlying49
  have hu3 := Tryd.underlying31
  have hu4 := Tryd.underlying33
  have hm := Nat.le_trans hf.1 hf.2.1
  unfold maxLen at hm
  have HB := Lib.hid (heap_alloc_new w (.cells #[.int .i64 0, .slice none 0 0] 31))
  have HE0 := Lib.hid (alloc_ext w (.cells #[.int .i64 0, .slice none 0 0] 31))
  have HPFC := Lib.hid (fun W (hW : Ext w W) => implPageFault_calls W A c p F (Rep.sl_ext h hW) num)
  by_cases hbad : pageFault p num ≠ 0
  · rw [show redoPage p num fs fr = ⟨1, []⟩ from if_pos hbad]
    have hb : (pageFault p num != 0) = true := bne_iff_ne.2 hbad
    generalize pageFault p num = pf at *
    clear h hf hs1 hs2 hbad
    go_enter Tryd.func42, Tryd.ntmps42
    go_wp2_with (go_at_call 81; refine (HPFC.out _ HE0.out).mono ?_; rintro e w1 ⟨rfl, hE⟩; have m := fun o => cell_of_row _ _ o _ _ _ (hE.heap HB.out (by simp)); have f := fun o => frozen_of_row _ _ o _ _ (hE.heap HB.out (by simp)); have HE1 := Lib.hid (HE0.out.ext hE); clear hE)
    refine bodyPost_ret (v := .agg #[.int .i64 1, .slice none 0 0]) (by simp [results, Tryd.results42, go_sem, m]) rfl ?_
    exact rdRes_code rfl (by repeat (first | with_reducible exact HE1.out | ((with_reducible apply Only.set); · first | (simp; done) | exact fun hq => absurd hq (by dsimp only; omega)) | (with_reducible apply Only.alloc)))
  have hz : pageFault p num = 0 := Classical.byContradiction hbad
  have HPF := Lib.hid hbad
  have hlen := (fault_zero hz).1
  rw [hz] at HPFC
  have HCL := Lib.hid (fun W (hW : Ext w W) => by
    have h := Clone_calls A c p F W (Rep.sl_ext h hW) (by omega)
    rw [hlen] at h
    exact h)
  have HLEN := Lib.hid hlen; have HF := Lib.hid hf; have HWT := Lib.hid hs2
  rw [hlen] at HPFC ⊢
  clear h hf hs1 hs2 hbad hz hlen
  go_enter Tryd.func42, Tryd.ntmps42
  go_wp2_with (first
    | (go_at_call 81; refine (HPFC.out _ HE0.out).mono ?_; rintro e w1 ⟨rfl, hE⟩; have HB1 := Lib.hid (hE.heap HB.out (by simp)); have HE1 := Lib.hid (HE0.out.ext hE); clear hE)
    | (go_at_call 63; refine (HCL.out _ HE1.out).mono ?_; rintro e w2 ⟨v2, G2, rfl, hV2, hN2⟩; obtain ⟨A2', c2', rfl, q2⟩ := Rep.slice_V hV2; rw [HLEN.out]; have HR0 := Lib.hid (show RS w w2 A2' c2' p G2 from ⟨q2, HE1.out.ext hN2.ext, ⟨fun g hg => by have h1 := hN2.new g hg; have h2 := (Array.getElem?_eq_some_iff.1 HB1.out).1; omega, Rep.sl_lt q2, hN2.nodup, hN2.unfr⟩, hN2.ext.heap HB1.out (by simp), HLEN.out⟩); clear hV2 hN2 q2))
  go_loopg [9, 23] (fs.length) (fun m a i wr => ∃ (k : Nat) (A6 : Option Addr) (c6 : Nat) (Q : List Int) (F6 : List Nat), m + k = fs.length ∧ a = .slice A6 4096 c6 ∧ i = .int .i64 k ∧ Hid (RS w wr A6 c6 Q F6) ∧ Hid (redoUp fs num fr p k = some Q))
  case atStart => exact ⟨0, A2', c2', p, G2, by simp, rfl, rfl, HR0, Lib.hid rfl⟩
  case round =>
    obtain ⟨k, A6, c6, Q, F6, hmk, rfl, rfl, HRS, HUP⟩ := hrel
    have HMK := Lib.hid hmk
    clear hmk
    by_cases hlt : k < fs.length
    · obtain ⟨g, off, A1, c1, F1, A2, c2, F2, A3, c3, F3, A4, c4, F4, A5, c5, F5, rfl, hg, hwf, s1, s2, s3, s4, s5, e0, e1, e2, e3, e4, e5, e6, e7, e8, e9, e10, e11, e12, e13, e14, e15⟩ := sl_LogFrame (Rep.sl_ext HF.out HRS.out.ext) k hlt
      have hst := redoUp_at (num := num) (fr := fr) (P := p) k hlt
      rw [HUP.out] at hst
      simp only [Option.bind_some] at hst
      have hwt := Nat.le_trans (mem_wtLogFrameS k hlt) HWT.out
      generalize fs[k] = x at *
      obtain ⟨lsn, ep, ⟨kd, tx, pv, pg, sl, ⟨u1, d1⟩, ⟨u2, d2⟩, un, nt, ts, ds, im⟩⟩ := x
      dsimp only at *
      obtain ⟨pl, hpl⟩ : ∃ x, x = pageLsn Q := ⟨_, rfl⟩
      obtain ⟨R, hR⟩ : ∃ R, R = pageSet Q sl ⟨u2, d2⟩ lsn := ⟨_, rfl⟩
      have HPL := Lib.hid (fun W (hW : Ext wr W) => by
        have h := implPageLSN_calls W A6 c6 Q F6 (Rep.sl_ext HRS.out.sl hW)
        rw [HRS.out.len, ← hpl] at h
        exact h)
      have HPS := Lib.hid (fun W (hW : Ext wr W) => by
        have h := implPageSet_new W A6 c6 Q F6 (Rep.sl_ext HRS.out.sl hW) sl hwf.2.2.2.2.2.2.1 (.agg #[.bool u2, .slice A2 d2.length c2]) ⟨u2, d2⟩ F2 ⟨_, ⟨A2, c2, F2, rfl, rfl, trivial, Rep.sl_ext s2 hW⟩, rfl⟩ lsn hwf.1 (by rw [HRS.out.len]; omega) (by simp only [wtLogFrame, wtLogRecord] at hwt; omega)
        rw [HRS.out.len, ← hR] at h
        exact h)
      have HST := Lib.hid hst; have HR := Lib.hid hR; have HPLE := Lib.hid hpl
      clear hst hR hpl hwf s1 s2 s3 s4 s5 hwt
      by_cases k1 : kd = 1
      rotate_left
      · by_cases k2 : kd = 2
        rotate_left
        · have k1b : (kd == 1) = false := by simpa using k1
          have k2b : (kd == 2) = false := by simpa using k2
          as_aux_lemma =>
            have HUQ := Lib.hid (show redoUp fs num fr p (k + 1) = some Q by rw [HST.out]; exact if_neg (by rintro ⟨h1, h2, h3, h4⟩; exact h1.elim k1 k2))
            go_wp2_with fail
            generalize hW : ((wr.alloc (.cells #[.int .i64 lsn, .int .i64 ep, .int .i64 kd, .int .i64 tx, .int .i64 pv, .int .i64 pg, .int .i64 sl, .bool u1, .slice A1 d1.length c1, .bool u2, .slice A2 d2.length c2, .int .i64 un, .int .i64 nt, .slice A3 ts.length c3, .slice A4 ds.length c4, .slice A5 im.length c5] 124)).alloc (.cells #[.int .i64 kd, .int .i64 tx, .int .i64 pv, .int .i64 pg, .int .i64 sl, .bool u1, .slice A1 d1.length c1, .bool u2, .slice A2 d2.length c2, .int .i64 un, .int .i64 nt, .slice A3 ts.length c3, .slice A4 ds.length c4, .slice A5 im.length c5] 49)) = W1
            have hE1 : Ext wr W1 := hW ▸ ((alloc_ext _ _).ext (alloc_ext _ _))
            have hfr : W1.heap[wr.heap.size]? = some (.cells #[.int .i64 lsn, .int .i64 ep, .int .i64 kd, .int .i64 tx, .int .i64 pv, .int .i64 pg, .int .i64 sl, .bool u1, .slice A1 d1.length c1, .bool u2, .slice A2 d2.length c2, .int .i64 un, .int .i64 nt, .slice A3 ts.length c3, .slice A4 ds.length c4, .slice A5 im.length c5] 124 (0, 0)) := hW ▸ (alloc_ext _ _).heap (heap_alloc_new _ _) (by simp)
            have hrr : W1.heap[wr.heap.size + 1]? = some (.cells #[.int .i64 kd, .int .i64 tx, .int .i64 pv, .int .i64 pg, .int .i64 sl, .bool u1, .slice A1 d1.length c1, .bool u2, .slice A2 d2.length c2, .int .i64 un, .int .i64 nt, .slice A3 ts.length c3, .slice A4 ds.length c4, .slice A5 im.length c5] 49 (0, 0)) := hW ▸ heap_at _ _ (by simp)
            have xl : W1.cell? ⟨wr.heap.size, 0, none⟩ = some (.int .i64 lsn) := cell_of_row _ _ 0 _ _ _ hfr
            have xk : W1.cell? ⟨wr.heap.size + 1, 0, none⟩ = some (.int .i64 kd) := cell_of_row _ _ 0 _ _ _ hrr
            have xp : W1.cell? ⟨wr.heap.size + 1, 3, none⟩ = some (.int .i64 pg) := cell_of_row _ _ 3 _ _ _ hrr
            have HE1 := Lib.hid hE1; have HFR := Lib.hid hfr; have HRR := Lib.hid hrr
            clear hW hE1 hfr hrr
            refine region_ext (by kernel_rfl) (by kernel_rfl) ?_
            repeat (first
              | (refine WQ.skip (by rfl) ?_
                 try simp only [Act.put, List.setIfInBounds_toArray, List.set_cons_zero, List.set_cons_succ])
              | (refine WQ.take ?_ (by rfl) (fun w' hw => ?_) ?_
                 rotate_left
                 · have cq0 := hw.ecell xl
                   have cq1 := hw.ecell xk
                   have cq2 := hw.ecell xp
                   unfold Oper.quietAt
                   go_simp
                   first
                     | done
                     | exact ⟨rfl, rfl⟩
                     | exact rfl
                 try simp only [Act.put, List.setIfInBounds_toArray, List.set_cons_zero, List.set_cons_succ])
              | (refine WQ.take ((.int .i64 pl)) (by rfl) (fun w' hw => ?_) ?_
                 · unfold Oper.quietAt
                   go_simp
                   go_at_call 99
                   exact ((HPL.out _ (HE1.out.ext hw)).mono (fun e w5 h5 => ⟨h5.1, hw.ext h5.2⟩))
                 try simp only [Act.put, List.setIfInBounds_toArray, List.set_cons_zero, List.set_cons_succ]))
            refine WQ.nil ?_
            intro w2 hw2
            have HE2 := Lib.hid (HE1.out.ext hw2); have HFR2 := Lib.hid (hw2.heap HFR.out (by simp)); have HRR2 := Lib.hid (hw2.heap HRR.out (by simp))
            clear hw2 xl xk xp
            go_wp2
            go_roundg (fs.length - (k + 1))
            case measure => have := HMK.out; omega
            case rel => exact ⟨k + 1, A6, c6, Q, F6, by have := HMK.out; omega, rfl, by go_num, Lib.hid (HRS.out.more HE2.out), HUQ⟩
        · subst k2
          have k1b : ((2 : Int) == 1) = false := rfl
          by_cases a2 : pg = num
          rotate_left
          · have a2b : (pg == num) = false := by simpa using a2
            as_aux_lemma =>
              have HUQ := Lib.hid (show redoUp fs num fr p (k + 1) = some Q by rw [HST.out]; exact if_neg (by rintro ⟨h1, h2, h3, h4⟩; exact a2 h2))
              go_wp2_with fail
              generalize hW : ((wr.alloc (.cells #[.int .i64 lsn, .int .i64 ep, .int .i64 2, .int .i64 tx, .int .i64 pv, .int .i64 pg, .int .i64 sl, .bool u1, .slice A1 d1.length c1, .bool u2, .slice A2 d2.length c2, .int .i64 un, .int .i64 nt, .slice A3 ts.length c3, .slice A4 ds.length c4, .slice A5 im.length c5] 124)).alloc (.cells #[.int .i64 2, .int .i64 tx, .int .i64 pv, .int .i64 pg, .int .i64 sl, .bool u1, .slice A1 d1.length c1, .bool u2, .slice A2 d2.length c2, .int .i64 un, .int .i64 nt, .slice A3 ts.length c3, .slice A4 ds.length c4, .slice A5 im.length c5] 49)) = W1
              have hE1 : Ext wr W1 := hW ▸ ((alloc_ext _ _).ext (alloc_ext _ _))
              have hfr : W1.heap[wr.heap.size]? = some (.cells #[.int .i64 lsn, .int .i64 ep, .int .i64 2, .int .i64 tx, .int .i64 pv, .int .i64 pg, .int .i64 sl, .bool u1, .slice A1 d1.length c1, .bool u2, .slice A2 d2.length c2, .int .i64 un, .int .i64 nt, .slice A3 ts.length c3, .slice A4 ds.length c4, .slice A5 im.length c5] 124 (0, 0)) := hW ▸ (alloc_ext _ _).heap (heap_alloc_new _ _) (by simp)
              have hrr : W1.heap[wr.heap.size + 1]? = some (.cells #[.int .i64 2, .int .i64 tx, .int .i64 pv, .int .i64 pg, .int .i64 sl, .bool u1, .slice A1 d1.length c1, .bool u2, .slice A2 d2.length c2, .int .i64 un, .int .i64 nt, .slice A3 ts.length c3, .slice A4 ds.length c4, .slice A5 im.length c5] 49 (0, 0)) := hW ▸ heap_at _ _ (by simp)
              have xl : W1.cell? ⟨wr.heap.size, 0, none⟩ = some (.int .i64 lsn) := cell_of_row _ _ 0 _ _ _ hfr
              have xk : W1.cell? ⟨wr.heap.size + 1, 0, none⟩ = some (.int .i64 2) := cell_of_row _ _ 0 _ _ _ hrr
              have xp : W1.cell? ⟨wr.heap.size + 1, 3, none⟩ = some (.int .i64 pg) := cell_of_row _ _ 3 _ _ _ hrr
              have HE1 := Lib.hid hE1; have HFR := Lib.hid hfr; have HRR := Lib.hid hrr
              clear hW hE1 hfr hrr
              refine region_ext (by kernel_rfl) (by kernel_rfl) ?_
              repeat (first
                | (refine WQ.skip (by rfl) ?_
                   try simp only [Act.put, List.setIfInBounds_toArray, List.set_cons_zero, List.set_cons_succ])
                | (refine WQ.take ?_ (by rfl) (fun w' hw => ?_) ?_
                   rotate_left
                   · have cq0 := hw.ecell xl
                     have cq1 := hw.ecell xk
                     have cq2 := hw.ecell xp
                     unfold Oper.quietAt
                     go_simp
                     first
                       | done
                       | exact ⟨rfl, rfl⟩
                       | exact rfl
                   try simp only [Act.put, List.setIfInBounds_toArray, List.set_cons_zero, List.set_cons_succ])
                | (refine WQ.take ((.int .i64 pl)) (by rfl) (fun w' hw => ?_) ?_
                   · unfold Oper.quietAt
                     go_simp
                     go_at_call 99
                     exact ((HPL.out _ (HE1.out.ext hw)).mono (fun e w5 h5 => ⟨h5.1, hw.ext h5.2⟩))
                   try simp only [Act.put, List.setIfInBounds_toArray, List.set_cons_zero, List.set_cons_succ]))
              refine WQ.nil ?_
              intro w2 hw2
              have HE2 := Lib.hid (HE1.out.ext hw2); have HFR2 := Lib.hid (hw2.heap HFR.out (by simp)); have HRR2 := Lib.hid (hw2.heap HRR.out (by simp))
              clear hw2 xl xk xp
              go_wp2
              go_roundg (fs.length - (k + 1))
              case measure => have := HMK.out; omega
              case rel => exact ⟨k + 1, A6, c6, Q, F6, by have := HMK.out; omega, rfl, by go_num, Lib.hid (HRS.out.more HE2.out), HUQ⟩
          obtain rfl : num = pg := a2.symm
          by_cases a3 : fr ≤ lsn
          rotate_left
          · have a3b : decide (fr ≤ lsn) = false := decide_eq_false a3
            as_aux_lemma =>
              have HUQ := Lib.hid (show redoUp fs num fr p (k + 1) = some Q by rw [HST.out]; exact if_neg (by rintro ⟨h1, h2, h3, h4⟩; exact a3 h3))
              go_wp2_with fail
              generalize hW : ((wr.alloc (.cells #[.int .i64 lsn, .int .i64 ep, .int .i64 2, .int .i64 tx, .int .i64 pv, .int .i64 num, .int .i64 sl, .bool u1, .slice A1 d1.length c1, .bool u2, .slice A2 d2.length c2, .int .i64 un, .int .i64 nt, .slice A3 ts.length c3, .slice A4 ds.length c4, .slice A5 im.length c5] 124)).alloc (.cells #[.int .i64 2, .int .i64 tx, .int .i64 pv, .int .i64 num, .int .i64 sl, .bool u1, .slice A1 d1.length c1, .bool u2, .slice A2 d2.length c2, .int .i64 un, .int .i64 nt, .slice A3 ts.length c3, .slice A4 ds.length c4, .slice A5 im.length c5] 49)) = W1
              have hE1 : Ext wr W1 := hW ▸ ((alloc_ext _ _).ext (alloc_ext _ _))
              have hfr : W1.heap[wr.heap.size]? = some (.cells #[.int .i64 lsn, .int .i64 ep, .int .i64 2, .int .i64 tx, .int .i64 pv, .int .i64 num, .int .i64 sl, .bool u1, .slice A1 d1.length c1, .bool u2, .slice A2 d2.length c2, .int .i64 un, .int .i64 nt, .slice A3 ts.length c3, .slice A4 ds.length c4, .slice A5 im.length c5] 124 (0, 0)) := hW ▸ (alloc_ext _ _).heap (heap_alloc_new _ _) (by simp)
              have hrr : W1.heap[wr.heap.size + 1]? = some (.cells #[.int .i64 2, .int .i64 tx, .int .i64 pv, .int .i64 num, .int .i64 sl, .bool u1, .slice A1 d1.length c1, .bool u2, .slice A2 d2.length c2, .int .i64 un, .int .i64 nt, .slice A3 ts.length c3, .slice A4 ds.length c4, .slice A5 im.length c5] 49 (0, 0)) := hW ▸ heap_at _ _ (by simp)
              have xl : W1.cell? ⟨wr.heap.size, 0, none⟩ = some (.int .i64 lsn) := cell_of_row _ _ 0 _ _ _ hfr
              have xk : W1.cell? ⟨wr.heap.size + 1, 0, none⟩ = some (.int .i64 2) := cell_of_row _ _ 0 _ _ _ hrr
              have xp : W1.cell? ⟨wr.heap.size + 1, 3, none⟩ = some (.int .i64 num) := cell_of_row _ _ 3 _ _ _ hrr
              have HE1 := Lib.hid hE1; have HFR := Lib.hid hfr; have HRR := Lib.hid hrr
              clear hW hE1 hfr hrr
              refine region_ext (by kernel_rfl) (by kernel_rfl) ?_
              repeat (first
                | (refine WQ.skip (by rfl) ?_
                   try simp only [Act.put, List.setIfInBounds_toArray, List.set_cons_zero, List.set_cons_succ])
                | (refine WQ.take ?_ (by rfl) (fun w' hw => ?_) ?_
                   rotate_left
                   · have cq0 := hw.ecell xl
                     have cq1 := hw.ecell xk
                     have cq2 := hw.ecell xp
                     unfold Oper.quietAt
                     go_simp
                     first
                       | done
                       | exact ⟨rfl, rfl⟩
                       | exact rfl
                   try simp only [Act.put, List.setIfInBounds_toArray, List.set_cons_zero, List.set_cons_succ])
                | (refine WQ.take ((.int .i64 pl)) (by rfl) (fun w' hw => ?_) ?_
                   · unfold Oper.quietAt
                     go_simp
                     go_at_call 99
                     exact ((HPL.out _ (HE1.out.ext hw)).mono (fun e w5 h5 => ⟨h5.1, hw.ext h5.2⟩))
                   try simp only [Act.put, List.setIfInBounds_toArray, List.set_cons_zero, List.set_cons_succ]))
              refine WQ.nil ?_
              intro w2 hw2
              have HE2 := Lib.hid (HE1.out.ext hw2); have HFR2 := Lib.hid (hw2.heap HFR.out (by simp)); have HRR2 := Lib.hid (hw2.heap HRR.out (by simp))
              clear hw2 xl xk xp
              go_wp2
              go_roundg (fs.length - (k + 1))
              case measure => have := HMK.out; omega
              case rel => exact ⟨k + 1, A6, c6, Q, F6, by have := HMK.out; omega, rfl, by go_num, Lib.hid (HRS.out.more HE2.out), HUQ⟩
          have a3b : decide (fr ≤ lsn) = true := decide_eq_true a3
          by_cases a4 : pl < lsn
          rotate_left
          · have a4b : decide (pl < lsn) = false := decide_eq_false a4
            as_aux_lemma =>
              have HUQ := Lib.hid (show redoUp fs num fr p (k + 1) = some Q by rw [HST.out]; exact if_neg (by rintro ⟨h1, h2, h3, h4⟩; exact a4 (by rw [HPLE.out]; exact h4)))
              go_wp2_with fail
              generalize hW : ((wr.alloc (.cells #[.int .i64 lsn, .int .i64 ep, .int .i64 2, .int .i64 tx, .int .i64 pv, .int .i64 num, .int .i64 sl, .bool u1, .slice A1 d1.length c1, .bool u2, .slice A2 d2.length c2, .int .i64 un, .int .i64 nt, .slice A3 ts.length c3, .slice A4 ds.length c4, .slice A5 im.length c5] 124)).alloc (.cells #[.int .i64 2, .int .i64 tx, .int .i64 pv, .int .i64 num, .int .i64 sl, .bool u1, .slice A1 d1.length c1, .bool u2, .slice A2 d2.length c2, .int .i64 un, .int .i64 nt, .slice A3 ts.length c3, .slice A4 ds.length c4, .slice A5 im.length c5] 49)) = W1
              have hE1 : Ext wr W1 := hW ▸ ((alloc_ext _ _).ext (alloc_ext _ _))
              have hfr : W1.heap[wr.heap.size]? = some (.cells #[.int .i64 lsn, .int .i64 ep, .int .i64 2, .int .i64 tx, .int .i64 pv, .int .i64 num, .int .i64 sl, .bool u1, .slice A1 d1.length c1, .bool u2, .slice A2 d2.length c2, .int .i64 un, .int .i64 nt, .slice A3 ts.length c3, .slice A4 ds.length c4, .slice A5 im.length c5] 124 (0, 0)) := hW ▸ (alloc_ext _ _).heap (heap_alloc_new _ _) (by simp)
              have hrr : W1.heap[wr.heap.size + 1]? = some (.cells #[.int .i64 2, .int .i64 tx, .int .i64 pv, .int .i64 num, .int .i64 sl, .bool u1, .slice A1 d1.length c1, .bool u2, .slice A2 d2.length c2, .int .i64 un, .int .i64 nt, .slice A3 ts.length c3, .slice A4 ds.length c4, .slice A5 im.length c5] 49 (0, 0)) := hW ▸ heap_at _ _ (by simp)
              have xl : W1.cell? ⟨wr.heap.size, 0, none⟩ = some (.int .i64 lsn) := cell_of_row _ _ 0 _ _ _ hfr
              have xk : W1.cell? ⟨wr.heap.size + 1, 0, none⟩ = some (.int .i64 2) := cell_of_row _ _ 0 _ _ _ hrr
              have xp : W1.cell? ⟨wr.heap.size + 1, 3, none⟩ = some (.int .i64 num) := cell_of_row _ _ 3 _ _ _ hrr
              have HE1 := Lib.hid hE1; have HFR := Lib.hid hfr; have HRR := Lib.hid hrr
              clear hW hE1 hfr hrr
              refine region_ext (by kernel_rfl) (by kernel_rfl) ?_
              repeat (first
                | (refine WQ.skip (by rfl) ?_
                   try simp only [Act.put, List.setIfInBounds_toArray, List.set_cons_zero, List.set_cons_succ])
                | (refine WQ.take ?_ (by rfl) (fun w' hw => ?_) ?_
                   rotate_left
                   · have cq0 := hw.ecell xl
                     have cq1 := hw.ecell xk
                     have cq2 := hw.ecell xp
                     unfold Oper.quietAt
                     go_simp
                     first
                       | done
                       | exact ⟨rfl, rfl⟩
                       | exact rfl
                   try simp only [Act.put, List.setIfInBounds_toArray, List.set_cons_zero, List.set_cons_succ])
                | (refine WQ.take ((.int .i64 pl)) (by rfl) (fun w' hw => ?_) ?_
                   · unfold Oper.quietAt
                     go_simp
                     go_at_call 99
                     exact ((HPL.out _ (HE1.out.ext hw)).mono (fun e w5 h5 => ⟨h5.1, hw.ext h5.2⟩))
                   try simp only [Act.put, List.setIfInBounds_toArray, List.set_cons_zero, List.set_cons_succ]))
              refine WQ.nil ?_
              intro w2 hw2
              have HE2 := Lib.hid (HE1.out.ext hw2); have HFR2 := Lib.hid (hw2.heap HFR.out (by simp)); have HRR2 := Lib.hid (hw2.heap HRR.out (by simp))
              clear hw2 xl xk xp
              go_wp2
              go_roundg (fs.length - (k + 1))
              case measure => have := HMK.out; omega
              case rel => exact ⟨k + 1, A6, c6, Q, F6, by have := HMK.out; omega, rfl, by go_num, Lib.hid (HRS.out.more HE2.out), HUQ⟩
          have a4b : decide (pl < lsn) = true := decide_eq_true a4
          have HSEL := Lib.hid (show redoStep num fr Q ⟨lsn, ep, ⟨2, tx, pv, num, sl, ⟨u1, d1⟩, ⟨u2, d2⟩, un, nt, ts, ds, im⟩⟩ = (if R.Code = 0 then some R.Page else none) by rw [HR.out]; exact if_pos ⟨by simp, rfl, a3, by rw [← HPLE.out]; exact a4⟩)
          by_cases hc : R.Code = 0
          · as_aux_lemma =>
              have HUQ := Lib.hid (show redoUp fs num fr p (k + 1) = some R.Page by rw [HST.out, HSEL.out, if_pos hc])
              have HRL := Lib.hid (show R.Page.length = 4096 by rw [HR.out] at hc ⊢; exact pageSet_len hc)
              have hcb : (R.Code != 0) = false := by simp [hc]
              clear hc
              go_wp2_with fail
              generalize hW : ((wr.alloc (.cells #[.int .i64 lsn, .int .i64 ep, .int .i64 2, .int .i64 tx, .int .i64 pv, .int .i64 num, .int .i64 sl, .bool u1, .slice A1 d1.length c1, .bool u2, .slice A2 d2.length c2, .int .i64 un, .int .i64 nt, .slice A3 ts.length c3, .slice A4 ds.length c4, .slice A5 im.length c5] 124)).alloc (.cells #[.int .i64 2, .int .i64 tx, .int .i64 pv, .int .i64 num, .int .i64 sl, .bool u1, .slice A1 d1.length c1, .bool u2, .slice A2 d2.length c2, .int .i64 un, .int .i64 nt, .slice A3 ts.length c3, .slice A4 ds.length c4, .slice A5 im.length c5] 49)) = W1
              have hE1 : Ext wr W1 := hW ▸ ((alloc_ext _ _).ext (alloc_ext _ _))
              have hfr : W1.heap[wr.heap.size]? = some (.cells #[.int .i64 lsn, .int .i64 ep, .int .i64 2, .int .i64 tx, .int .i64 pv, .int .i64 num, .int .i64 sl, .bool u1, .slice A1 d1.length c1, .bool u2, .slice A2 d2.length c2, .int .i64 un, .int .i64 nt, .slice A3 ts.length c3, .slice A4 ds.length c4, .slice A5 im.length c5] 124 (0, 0)) := hW ▸ (alloc_ext _ _).heap (heap_alloc_new _ _) (by simp)
              have hrr : W1.heap[wr.heap.size + 1]? = some (.cells #[.int .i64 2, .int .i64 tx, .int .i64 pv, .int .i64 num, .int .i64 sl, .bool u1, .slice A1 d1.length c1, .bool u2, .slice A2 d2.length c2, .int .i64 un, .int .i64 nt, .slice A3 ts.length c3, .slice A4 ds.length c4, .slice A5 im.length c5] 49 (0, 0)) := hW ▸ heap_at _ _ (by simp)
              have xl : W1.cell? ⟨wr.heap.size, 0, none⟩ = some (.int .i64 lsn) := cell_of_row _ _ 0 _ _ _ hfr
              have xk : W1.cell? ⟨wr.heap.size + 1, 0, none⟩ = some (.int .i64 2) := cell_of_row _ _ 0 _ _ _ hrr
              have xp : W1.cell? ⟨wr.heap.size + 1, 3, none⟩ = some (.int .i64 num) := cell_of_row _ _ 3 _ _ _ hrr
              have HE1 := Lib.hid hE1; have HFR := Lib.hid hfr; have HRR := Lib.hid hrr
              clear hW hE1 hfr hrr
              refine region_ext (by kernel_rfl) (by kernel_rfl) ?_
              repeat (first
                | (refine WQ.skip (by rfl) ?_
                   try simp only [Act.put, List.setIfInBounds_toArray, List.set_cons_zero, List.set_cons_succ])
                | (refine WQ.take ?_ (by rfl) (fun w' hw => ?_) ?_
                   rotate_left
                   · have cq0 := hw.ecell xl
                     have cq1 := hw.ecell xk
                     have cq2 := hw.ecell xp
                     unfold Oper.quietAt
                     go_simp
                     first
                       | done
                       | exact ⟨rfl, rfl⟩
                       | exact rfl
                   try simp only [Act.put, List.setIfInBounds_toArray, List.set_cons_zero, List.set_cons_succ])
                | (refine WQ.take ((.int .i64 pl)) (by rfl) (fun w' hw => ?_) ?_
                   · unfold Oper.quietAt
                     go_simp
                     go_at_call 99
                     exact ((HPL.out _ (HE1.out.ext hw)).mono (fun e w5 h5 => ⟨h5.1, hw.ext h5.2⟩))
                   try simp only [Act.put, List.setIfInBounds_toArray, List.set_cons_zero, List.set_cons_succ]))
              refine WQ.nil ?_
              intro w2 hw2
              have HE2 := Lib.hid (HE1.out.ext hw2); have HFR2 := Lib.hid (hw2.heap HFR.out (by simp)); have HRR2 := Lib.hid (hw2.heap HRR.out (by simp))
              clear hw2 xl xk xp
              have y4 := cell_of_row _ _ 4 _ _ _ HRR2.out; have y7 := cell_of_row _ _ 7 _ _ _ HRR2.out; have y8 := cell_of_row _ _ 8 _ _ _ HRR2.out; have yl := cell_of_row _ _ 0 _ _ _ HFR2.out
              simp only [List.getElem?_toArray, List.getElem?_cons_succ, List.getElem?_cons_zero] at y4 y7 y8 yl
              have hb2 := HE2.out.heap HRS.out.res (by simp)
              have HB2 := Lib.hid hb2
              clear hb2
              go_wp2_with (go_at_call 20; refine (HPS.out _ HE2.out).mono ?_; rintro e w3 ⟨v3, F3, rfl, hV3, hN3⟩; obtain ⟨_, ⟨A7, c7, Fd3, rfl, rfl, wf3, s3⟩, hv3⟩ := hV3; replace hv3 : v3 = .agg #[_, _] := hv3; subst hv3; clear y4 y7 y8 yl; have hb3 := (alloc_ext w3 (.cells #[.int .i64 R.Code, .slice A7 R.Page.length c7] 31)).heap (hN3.ext.heap HB2.out (by simp)) (by simp); have m := fun o => cell_of_row _ _ o _ _ _ hb3; have f := fun o => frozen_of_row _ _ o _ _ hb3)
              go_roundg (fs.length - (k + 1))
              case measure => have := HMK.out; omega
              case rel => exact ⟨k + 1, A7, c7, R.Page, F3, by have := HMK.out; omega, by rw [HRL.out], by go_num, Lib.hid (((HRS.out.more HE2.out).swap s3 hN3 HRL.out).more (alloc_ext _ _)), HUQ⟩
          · as_aux_lemma =>
              have HUQ := Lib.hid (show redoUp fs num fr p (k + 1) = none by rw [HST.out, HSEL.out, if_neg hc])
              have hcb : (R.Code != 0) = true := bne_iff_ne.2 hc
              clear hc
              go_wp2_with fail
              generalize hW : ((wr.alloc (.cells #[.int .i64 lsn, .int .i64 ep, .int .i64 2, .int .i64 tx, .int .i64 pv, .int .i64 num, .int .i64 sl, .bool u1, .slice A1 d1.length c1, .bool u2, .slice A2 d2.length c2, .int .i64 un, .int .i64 nt, .slice A3 ts.length c3, .slice A4 ds.length c4, .slice A5 im.length c5] 124)).alloc (.cells #[.int .i64 2, .int .i64 tx, .int .i64 pv, .int .i64 num, .int .i64 sl, .bool u1, .slice A1 d1.length c1, .bool u2, .slice A2 d2.length c2, .int .i64 un, .int .i64 nt, .slice A3 ts.length c3, .slice A4 ds.length c4, .slice A5 im.length c5] 49)) = W1
              have hE1 : Ext wr W1 := hW ▸ ((alloc_ext _ _).ext (alloc_ext _ _))
              have hfr : W1.heap[wr.heap.size]? = some (.cells #[.int .i64 lsn, .int .i64 ep, .int .i64 2, .int .i64 tx, .int .i64 pv, .int .i64 num, .int .i64 sl, .bool u1, .slice A1 d1.length c1, .bool u2, .slice A2 d2.length c2, .int .i64 un, .int .i64 nt, .slice A3 ts.length c3, .slice A4 ds.length c4, .slice A5 im.length c5] 124 (0, 0)) := hW ▸ (alloc_ext _ _).heap (heap_alloc_new _ _) (by simp)
              have hrr : W1.heap[wr.heap.size + 1]? = some (.cells #[.int .i64 2, .int .i64 tx, .int .i64 pv, .int .i64 num, .int .i64 sl, .bool u1, .slice A1 d1.length c1, .bool u2, .slice A2 d2.length c2, .int .i64 un, .int .i64 nt, .slice A3 ts.length c3, .slice A4 ds.length c4, .slice A5 im.length c5] 49 (0, 0)) := hW ▸ heap_at _ _ (by simp)
              have xl : W1.cell? ⟨wr.heap.size, 0, none⟩ = some (.int .i64 lsn) := cell_of_row _ _ 0 _ _ _ hfr
              have xk : W1.cell? ⟨wr.heap.size + 1, 0, none⟩ = some (.int .i64 2) := cell_of_row _ _ 0 _ _ _ hrr
              have xp : W1.cell? ⟨wr.heap.size + 1, 3, none⟩ = some (.int .i64 num) := cell_of_row _ _ 3 _ _ _ hrr
              have HE1 := Lib.hid hE1; have HFR := Lib.hid hfr; have HRR := Lib.hid hrr
              clear hW hE1 hfr hrr
              refine region_ext (by kernel_rfl) (by kernel_rfl) ?_
              repeat (first
                | (refine WQ.skip (by rfl) ?_
                   try simp only [Act.put, List.setIfInBounds_toArray, List.set_cons_zero, List.set_cons_succ])
                | (refine WQ.take ?_ (by rfl) (fun w' hw => ?_) ?_
                   rotate_left
                   · have cq0 := hw.ecell xl
                     have cq1 := hw.ecell xk
                     have cq2 := hw.ecell xp
                     unfold Oper.quietAt
                     go_simp
                     first
                       | done
                       | exact ⟨rfl, rfl⟩
                       | exact rfl
                   try simp only [Act.put, List.setIfInBounds_toArray, List.set_cons_zero, List.set_cons_succ])
                | (refine WQ.take ((.int .i64 pl)) (by rfl) (fun w' hw => ?_) ?_
                   · unfold Oper.quietAt
                     go_simp
                     go_at_call 99
                     exact ((HPL.out _ (HE1.out.ext hw)).mono (fun e w5 h5 => ⟨h5.1, hw.ext h5.2⟩))
                   try simp only [Act.put, List.setIfInBounds_toArray, List.set_cons_zero, List.set_cons_succ]))
              refine WQ.nil ?_
              intro w2 hw2
              have HE2 := Lib.hid (HE1.out.ext hw2); have HFR2 := Lib.hid (hw2.heap HFR.out (by simp)); have HRR2 := Lib.hid (hw2.heap HRR.out (by simp))
              clear hw2 xl xk xp
              have y4 := cell_of_row _ _ 4 _ _ _ HRR2.out; have y7 := cell_of_row _ _ 7 _ _ _ HRR2.out; have y8 := cell_of_row _ _ 8 _ _ _ HRR2.out; have yl := cell_of_row _ _ 0 _ _ _ HFR2.out
              simp only [List.getElem?_toArray, List.getElem?_cons_succ, List.getElem?_cons_zero] at y4 y7 y8 yl
              have hb2 := HE2.out.heap HRS.out.res (by simp)
              have HB2 := Lib.hid hb2
              clear hb2
              go_wp2_with (go_at_call 20; refine (HPS.out _ HE2.out).mono ?_; rintro e w3 ⟨v3, F3, rfl, hV3, hN3⟩; obtain ⟨_, ⟨A7, c7, Fd3, rfl, rfl, wf3, s3⟩, hv3⟩ := hV3; replace hv3 : v3 = .agg #[_, _] := hv3; subst hv3; clear y4 y7 y8 yl; have hb3 := (alloc_ext w3 (.cells #[.int .i64 R.Code, .slice A7 R.Page.length c7] 31)).heap (hN3.ext.heap HB2.out (by simp)) (by simp); have m := fun o => cell_of_row _ _ o _ _ _ hb3; have f := fun o => frozen_of_row _ _ o _ _ hb3)
              refine bodyPost_ret (v := .agg #[.int .i64 2, .slice none 0 0]) (by simp [results, Tryd.results42, go_sem, m]) rfl ?_
              rw [show redoPage p num fs fr = ⟨2, []⟩ by rw [redoPage, if_neg HPF.out, redoUp_none HUQ.out fs.length (by have := HMK.out; omega)]]
              exact rdRes_code rfl (by repeat (first | with_reducible exact ((HRS.out.ext.ext HE2.out).ext hN3.ext) | ((with_reducible apply Only.set); · first | (simp; done) | exact fun hq => absurd hq (by dsimp only; omega)) | (with_reducible apply Only.alloc)))
      · subst k1
        by_cases a2 : pg = num
        rotate_left
        · have a2b : (pg == num) = false := by simpa using a2
          as_aux_lemma =>
            have HUQ := Lib.hid (show redoUp fs num fr p (k + 1) = some Q by rw [HST.out]; exact if_neg (by rintro ⟨h1, h2, h3, h4⟩; exact a2 h2))
            go_wp2_with fail
            generalize hW : ((wr.alloc (.cells #[.int .i64 lsn, .int .i64 ep, .int .i64 1, .int .i64 tx, .int .i64 pv, .int .i64 pg, .int .i64 sl, .bool u1, .slice A1 d1.length c1, .bool u2, .slice A2 d2.length c2, .int .i64 un, .int .i64 nt, .slice A3 ts.length c3, .slice A4 ds.length c4, .slice A5 im.length c5] 124)).alloc (.cells #[.int .i64 1, .int .i64 tx, .int .i64 pv, .int .i64 pg, .int .i64 sl, .bool u1, .slice A1 d1.length c1, .bool u2, .slice A2 d2.length c2, .int .i64 un, .int .i64 nt, .slice A3 ts.length c3, .slice A4 ds.length c4, .slice A5 im.length c5] 49)) = W1
            have hE1 : Ext wr W1 := hW ▸ ((alloc_ext _ _).ext (alloc_ext _ _))
            have hfr : W1.heap[wr.heap.size]? = some (.cells #[.int .i64 lsn, .int .i64 ep, .int .i64 1, .int .i64 tx, .int .i64 pv, .int .i64 pg, .int .i64 sl, .bool u1, .slice A1 d1.length c1, .bool u2, .slice A2 d2.length c2, .int .i64 un, .int .i64 nt, .slice A3 ts.length c3, .slice A4 ds.length c4, .slice A5 im.length c5] 124 (0, 0)) := hW ▸ (alloc_ext _ _).heap (heap_alloc_new _ _) (by simp)
            have hrr : W1.heap[wr.heap.size + 1]? = some (.cells #[.int .i64 1, .int .i64 tx, .int .i64 pv, .int .i64 pg, .int .i64 sl, .bool u1, .slice A1 d1.length c1, .bool u2, .slice A2 d2.length c2, .int .i64 un, .int .i64 nt, .slice A3 ts.length c3, .slice A4 ds.length c4, .slice A5 im.length c5] 49 (0, 0)) := hW ▸ heap_at _ _ (by simp)
            have xl : W1.cell? ⟨wr.heap.size, 0, none⟩ = some (.int .i64 lsn) := cell_of_row _ _ 0 _ _ _ hfr
            have xk : W1.cell? ⟨wr.heap.size + 1, 0, none⟩ = some (.int .i64 1) := cell_of_row _ _ 0 _ _ _ hrr
            have xp : W1.cell? ⟨wr.heap.size + 1, 3, none⟩ = some (.int .i64 pg) := cell_of_row _ _ 3 _ _ _ hrr
            have HE1 := Lib.hid hE1; have HFR := Lib.hid hfr; have HRR := Lib.hid hrr
            clear hW hE1 hfr hrr
            refine region_ext (by kernel_rfl) (by kernel_rfl) ?_
            repeat (first
              | (refine WQ.skip (by rfl) ?_
                 try simp only [Act.put, List.setIfInBounds_toArray, List.set_cons_zero, List.set_cons_succ])
              | (refine WQ.take ?_ (by rfl) (fun w' hw => ?_) ?_
                 rotate_left
                 · have cq0 := hw.ecell xl
                   have cq1 := hw.ecell xk
                   have cq2 := hw.ecell xp
                   unfold Oper.quietAt
                   go_simp
                   first
                     | done
                     | exact ⟨rfl, rfl⟩
                     | exact rfl
                 try simp only [Act.put, List.setIfInBounds_toArray, List.set_cons_zero, List.set_cons_succ])
              | (refine WQ.take ((.int .i64 pl)) (by rfl) (fun w' hw => ?_) ?_
                 · unfold Oper.quietAt
                   go_simp
                   go_at_call 99
                   exact ((HPL.out _ (HE1.out.ext hw)).mono (fun e w5 h5 => ⟨h5.1, hw.ext h5.2⟩))
                 try simp only [Act.put, List.setIfInBounds_toArray, List.set_cons_zero, List.set_cons_succ]))
            refine WQ.nil ?_
            intro w2 hw2
            have HE2 := Lib.hid (HE1.out.ext hw2); have HFR2 := Lib.hid (hw2.heap HFR.out (by simp)); have HRR2 := Lib.hid (hw2.heap HRR.out (by simp))
            clear hw2 xl xk xp
            go_wp2
            go_roundg (fs.length - (k + 1))
            case measure => have := HMK.out; omega
            case rel => exact ⟨k + 1, A6, c6, Q, F6, by have := HMK.out; omega, rfl, by go_num, Lib.hid (HRS.out.more HE2.out), HUQ⟩
        obtain rfl : num = pg := a2.symm
        by_cases a3 : fr ≤ lsn
        rotate_left
        · have a3b : decide (fr ≤ lsn) = false := decide_eq_false a3
          as_aux_lemma =>
            have HUQ := Lib.hid (show redoUp fs num fr p (k + 1) = some Q by rw [HST.out]; exact if_neg (by rintro ⟨h1, h2, h3, h4⟩; exact a3 h3))
            go_wp2_with fail
            generalize hW : ((wr.alloc (.cells #[.int .i64 lsn, .int .i64 ep, .int .i64 1, .int .i64 tx, .int .i64 pv, .int .i64 num, .int .i64 sl, .bool u1, .slice A1 d1.length c1, .bool u2, .slice A2 d2.length c2, .int .i64 un, .int .i64 nt, .slice A3 ts.length c3, .slice A4 ds.length c4, .slice A5 im.length c5] 124)).alloc (.cells #[.int .i64 1, .int .i64 tx, .int .i64 pv, .int .i64 num, .int .i64 sl, .bool u1, .slice A1 d1.length c1, .bool u2, .slice A2 d2.length c2, .int .i64 un, .int .i64 nt, .slice A3 ts.length c3, .slice A4 ds.length c4, .slice A5 im.length c5] 49)) = W1
            have hE1 : Ext wr W1 := hW ▸ ((alloc_ext _ _).ext (alloc_ext _ _))
            have hfr : W1.heap[wr.heap.size]? = some (.cells #[.int .i64 lsn, .int .i64 ep, .int .i64 1, .int .i64 tx, .int .i64 pv, .int .i64 num, .int .i64 sl, .bool u1, .slice A1 d1.length c1, .bool u2, .slice A2 d2.length c2, .int .i64 un, .int .i64 nt, .slice A3 ts.length c3, .slice A4 ds.length c4, .slice A5 im.length c5] 124 (0, 0)) := hW ▸ (alloc_ext _ _).heap (heap_alloc_new _ _) (by simp)
            have hrr : W1.heap[wr.heap.size + 1]? = some (.cells #[.int .i64 1, .int .i64 tx, .int .i64 pv, .int .i64 num, .int .i64 sl, .bool u1, .slice A1 d1.length c1, .bool u2, .slice A2 d2.length c2, .int .i64 un, .int .i64 nt, .slice A3 ts.length c3, .slice A4 ds.length c4, .slice A5 im.length c5] 49 (0, 0)) := hW ▸ heap_at _ _ (by simp)
            have xl : W1.cell? ⟨wr.heap.size, 0, none⟩ = some (.int .i64 lsn) := cell_of_row _ _ 0 _ _ _ hfr
            have xk : W1.cell? ⟨wr.heap.size + 1, 0, none⟩ = some (.int .i64 1) := cell_of_row _ _ 0 _ _ _ hrr
            have xp : W1.cell? ⟨wr.heap.size + 1, 3, none⟩ = some (.int .i64 num) := cell_of_row _ _ 3 _ _ _ hrr
            have HE1 := Lib.hid hE1; have HFR := Lib.hid hfr; have HRR := Lib.hid hrr
            clear hW hE1 hfr hrr
            refine region_ext (by kernel_rfl) (by kernel_rfl) ?_
            repeat (first
              | (refine WQ.skip (by rfl) ?_
                 try simp only [Act.put, List.setIfInBounds_toArray, List.set_cons_zero, List.set_cons_succ])
              | (refine WQ.take ?_ (by rfl) (fun w' hw => ?_) ?_
                 rotate_left
                 · have cq0 := hw.ecell xl
                   have cq1 := hw.ecell xk
                   have cq2 := hw.ecell xp
                   unfold Oper.quietAt
                   go_simp
                   first
                     | done
                     | exact ⟨rfl, rfl⟩
                     | exact rfl
                 try simp only [Act.put, List.setIfInBounds_toArray, List.set_cons_zero, List.set_cons_succ])
              | (refine WQ.take ((.int .i64 pl)) (by rfl) (fun w' hw => ?_) ?_
                 · unfold Oper.quietAt
                   go_simp
                   go_at_call 99
                   exact ((HPL.out _ (HE1.out.ext hw)).mono (fun e w5 h5 => ⟨h5.1, hw.ext h5.2⟩))
                 try simp only [Act.put, List.setIfInBounds_toArray, List.set_cons_zero, List.set_cons_succ]))
            refine WQ.nil ?_
            intro w2 hw2
            have HE2 := Lib.hid (HE1.out.ext hw2); have HFR2 := Lib.hid (hw2.heap HFR.out (by simp)); have HRR2 := Lib.hid (hw2.heap HRR.out (by simp))
            clear hw2 xl xk xp
            go_wp2
            go_roundg (fs.length - (k + 1))
            case measure => have := HMK.out; omega
            case rel => exact ⟨k + 1, A6, c6, Q, F6, by have := HMK.out; omega, rfl, by go_num, Lib.hid (HRS.out.more HE2.out), HUQ⟩
        have a3b : decide (fr ≤ lsn) = true := decide_eq_true a3
        by_cases a4 : pl < lsn
        rotate_left
        · have a4b : decide (pl < lsn) = false := decide_eq_false a4
          as_aux_lemma =>
            have HUQ := Lib.hid (show redoUp fs num fr p (k + 1) = some Q by rw [HST.out]; exact if_neg (by rintro ⟨h1, h2, h3, h4⟩; exact a4 (by rw [HPLE.out]; exact h4)))
            go_wp2_with fail
            generalize hW : ((wr.alloc (.cells #[.int .i64 lsn, .int .i64 ep, .int .i64 1, .int .i64 tx, .int .i64 pv, .int .i64 num, .int .i64 sl, .bool u1, .slice A1 d1.length c1, .bool u2, .slice A2 d2.length c2, .int .i64 un, .int .i64 nt, .slice A3 ts.length c3, .slice A4 ds.length c4, .slice A5 im.length c5] 124)).alloc (.cells #[.int .i64 1, .int .i64 tx, .int .i64 pv, .int .i64 num, .int .i64 sl, .bool u1, .slice A1 d1.length c1, .bool u2, .slice A2 d2.length c2, .int .i64 un, .int .i64 nt, .slice A3 ts.length c3, .slice A4 ds.length c4, .slice A5 im.length c5] 49)) = W1
            have hE1 : Ext wr W1 := hW ▸ ((alloc_ext _ _).ext (alloc_ext _ _))
            have hfr : W1.heap[wr.heap.size]? = some (.cells #[.int .i64 lsn, .int .i64 ep, .int .i64 1, .int .i64 tx, .int .i64 pv, .int .i64 num, .int .i64 sl, .bool u1, .slice A1 d1.length c1, .bool u2, .slice A2 d2.length c2, .int .i64 un, .int .i64 nt, .slice A3 ts.length c3, .slice A4 ds.length c4, .slice A5 im.length c5] 124 (0, 0)) := hW ▸ (alloc_ext _ _).heap (heap_alloc_new _ _) (by simp)
            have hrr : W1.heap[wr.heap.size + 1]? = some (.cells #[.int .i64 1, .int .i64 tx, .int .i64 pv, .int .i64 num, .int .i64 sl, .bool u1, .slice A1 d1.length c1, .bool u2, .slice A2 d2.length c2, .int .i64 un, .int .i64 nt, .slice A3 ts.length c3, .slice A4 ds.length c4, .slice A5 im.length c5] 49 (0, 0)) := hW ▸ heap_at _ _ (by simp)
            have xl : W1.cell? ⟨wr.heap.size, 0, none⟩ = some (.int .i64 lsn) := cell_of_row _ _ 0 _ _ _ hfr
            have xk : W1.cell? ⟨wr.heap.size + 1, 0, none⟩ = some (.int .i64 1) := cell_of_row _ _ 0 _ _ _ hrr
            have xp : W1.cell? ⟨wr.heap.size + 1, 3, none⟩ = some (.int .i64 num) := cell_of_row _ _ 3 _ _ _ hrr
            have HE1 := Lib.hid hE1; have HFR := Lib.hid hfr; have HRR := Lib.hid hrr
            clear hW hE1 hfr hrr
            refine region_ext (by kernel_rfl) (by kernel_rfl) ?_
            repeat (first
              | (refine WQ.skip (by rfl) ?_
                 try simp only [Act.put, List.setIfInBounds_toArray, List.set_cons_zero, List.set_cons_succ])
              | (refine WQ.take ?_ (by rfl) (fun w' hw => ?_) ?_
                 rotate_left
                 · have cq0 := hw.ecell xl
                   have cq1 := hw.ecell xk
                   have cq2 := hw.ecell xp
                   unfold Oper.quietAt
                   go_simp
                   first
                     | done
                     | exact ⟨rfl, rfl⟩
                     | exact rfl
                 try simp only [Act.put, List.setIfInBounds_toArray, List.set_cons_zero, List.set_cons_succ])
              | (refine WQ.take ((.int .i64 pl)) (by rfl) (fun w' hw => ?_) ?_
                 · unfold Oper.quietAt
                   go_simp
                   go_at_call 99
                   exact ((HPL.out _ (HE1.out.ext hw)).mono (fun e w5 h5 => ⟨h5.1, hw.ext h5.2⟩))
                 try simp only [Act.put, List.setIfInBounds_toArray, List.set_cons_zero, List.set_cons_succ]))
            refine WQ.nil ?_
            intro w2 hw2
            have HE2 := Lib.hid (HE1.out.ext hw2); have HFR2 := Lib.hid (hw2.heap HFR.out (by simp)); have HRR2 := Lib.hid (hw2.heap HRR.out (by simp))
            clear hw2 xl xk xp
            go_wp2
            go_roundg (fs.length - (k + 1))
            case measure => have := HMK.out; omega
            case rel => exact ⟨k + 1, A6, c6, Q, F6, by have := HMK.out; omega, rfl, by go_num, Lib.hid (HRS.out.more HE2.out), HUQ⟩
        have a4b : decide (pl < lsn) = true := decide_eq_true a4
        have HSEL := Lib.hid (show redoStep num fr Q ⟨lsn, ep, ⟨1, tx, pv, num, sl, ⟨u1, d1⟩, ⟨u2, d2⟩, un, nt, ts, ds, im⟩⟩ = (if R.Code = 0 then some R.Page else none) by rw [HR.out]; exact if_pos ⟨by simp, rfl, a3, by rw [← HPLE.out]; exact a4⟩)
        by_cases hc : R.Code = 0
        · as_aux_lemma =>
            have HUQ := Lib.hid (show redoUp fs num fr p (k + 1) = some R.Page by rw [HST.out, HSEL.out, if_pos hc])
            have HRL := Lib.hid (show R.Page.length = 4096 by rw [HR.out] at hc ⊢; exact pageSet_len hc)
            have hcb : (R.Code != 0) = false := by simp [hc]
            clear hc
            go_wp2_with fail
            generalize hW : ((wr.alloc (.cells #[.int .i64 lsn, .int .i64 ep, .int .i64 1, .int .i64 tx, .int .i64 pv, .int .i64 num, .int .i64 sl, .bool u1, .slice A1 d1.length c1, .bool u2, .slice A2 d2.length c2, .int .i64 un, .int .i64 nt, .slice A3 ts.length c3, .slice A4 ds.length c4, .slice A5 im.length c5] 124)).alloc (.cells #[.int .i64 1, .int .i64 tx, .int .i64 pv, .int .i64 num, .int .i64 sl, .bool u1, .slice A1 d1.length c1, .bool u2, .slice A2 d2.length c2, .int .i64 un, .int .i64 nt, .slice A3 ts.length c3, .slice A4 ds.length c4, .slice A5 im.length c5] 49)) = W1
            have hE1 : Ext wr W1 := hW ▸ ((alloc_ext _ _).ext (alloc_ext _ _))
            have hfr : W1.heap[wr.heap.size]? = some (.cells #[.int .i64 lsn, .int .i64 ep, .int .i64 1, .int .i64 tx, .int .i64 pv, .int .i64 num, .int .i64 sl, .bool u1, .slice A1 d1.length c1, .bool u2, .slice A2 d2.length c2, .int .i64 un, .int .i64 nt, .slice A3 ts.length c3, .slice A4 ds.length c4, .slice A5 im.length c5] 124 (0, 0)) := hW ▸ (alloc_ext _ _).heap (heap_alloc_new _ _) (by simp)
            have hrr : W1.heap[wr.heap.size + 1]? = some (.cells #[.int .i64 1, .int .i64 tx, .int .i64 pv, .int .i64 num, .int .i64 sl, .bool u1, .slice A1 d1.length c1, .bool u2, .slice A2 d2.length c2, .int .i64 un, .int .i64 nt, .slice A3 ts.length c3, .slice A4 ds.length c4, .slice A5 im.length c5] 49 (0, 0)) := hW ▸ heap_at _ _ (by simp)
            have xl : W1.cell? ⟨wr.heap.size, 0, none⟩ = some (.int .i64 lsn) := cell_of_row _ _ 0 _ _ _ hfr
            have xk : W1.cell? ⟨wr.heap.size + 1, 0, none⟩ = some (.int .i64 1) := cell_of_row _ _ 0 _ _ _ hrr
            have xp : W1.cell? ⟨wr.heap.size + 1, 3, none⟩ = some (.int .i64 num) := cell_of_row _ _ 3 _ _ _ hrr
            have HE1 := Lib.hid hE1; have HFR := Lib.hid hfr; have HRR := Lib.hid hrr
            clear hW hE1 hfr hrr
            refine region_ext (by kernel_rfl) (by kernel_rfl) ?_
            repeat (first
              | (refine WQ.skip (by rfl) ?_
                 try simp only [Act.put, List.setIfInBounds_toArray, List.set_cons_zero, List.set_cons_succ])
              | (refine WQ.take ?_ (by rfl) (fun w' hw => ?_) ?_
                 rotate_left
                 · have cq0 := hw.ecell xl
                   have cq1 := hw.ecell xk
                   have cq2 := hw.ecell xp
                   unfold Oper.quietAt
                   go_simp
                   first
                     | done
                     | exact ⟨rfl, rfl⟩
                     | exact rfl
                 try simp only [Act.put, List.setIfInBounds_toArray, List.set_cons_zero, List.set_cons_succ])
              | (refine WQ.take ((.int .i64 pl)) (by rfl) (fun w' hw => ?_) ?_
                 · unfold Oper.quietAt
                   go_simp
                   go_at_call 99
                   exact ((HPL.out _ (HE1.out.ext hw)).mono (fun e w5 h5 => ⟨h5.1, hw.ext h5.2⟩))
                 try simp only [Act.put, List.setIfInBounds_toArray, List.set_cons_zero, List.set_cons_succ]))
            refine WQ.nil ?_
            intro w2 hw2
            have HE2 := Lib.hid (HE1.out.ext hw2); have HFR2 := Lib.hid (hw2.heap HFR.out (by simp)); have HRR2 := Lib.hid (hw2.heap HRR.out (by simp))
            clear hw2 xl xk xp
            have y4 := cell_of_row _ _ 4 _ _ _ HRR2.out; have y7 := cell_of_row _ _ 7 _ _ _ HRR2.out; have y8 := cell_of_row _ _ 8 _ _ _ HRR2.out; have yl := cell_of_row _ _ 0 _ _ _ HFR2.out
            simp only [List.getElem?_toArray, List.getElem?_cons_succ, List.getElem?_cons_zero] at y4 y7 y8 yl
            have hb2 := HE2.out.heap HRS.out.res (by simp)
            have HB2 := Lib.hid hb2
            clear hb2
            go_wp2_with (go_at_call 20; refine (HPS.out _ HE2.out).mono ?_; rintro e w3 ⟨v3, F3, rfl, hV3, hN3⟩; obtain ⟨_, ⟨A7, c7, Fd3, rfl, rfl, wf3, s3⟩, hv3⟩ := hV3; replace hv3 : v3 = .agg #[_, _] := hv3; subst hv3; clear y4 y7 y8 yl; have hb3 := (alloc_ext w3 (.cells #[.int .i64 R.Code, .slice A7 R.Page.length c7] 31)).heap (hN3.ext.heap HB2.out (by simp)) (by simp); have m := fun o => cell_of_row _ _ o _ _ _ hb3; have f := fun o => frozen_of_row _ _ o _ _ hb3)
            go_roundg (fs.length - (k + 1))
            case measure => have := HMK.out; omega
            case rel => exact ⟨k + 1, A7, c7, R.Page, F3, by have := HMK.out; omega, by rw [HRL.out], by go_num, Lib.hid (((HRS.out.more HE2.out).swap s3 hN3 HRL.out).more (alloc_ext _ _)), HUQ⟩
        · as_aux_lemma =>
            have HUQ := Lib.hid (show redoUp fs num fr p (k + 1) = none by rw [HST.out, HSEL.out, if_neg hc])
            have hcb : (R.Code != 0) = true := bne_iff_ne.2 hc
            clear hc
            go_wp2_with fail
            generalize hW : ((wr.alloc (.cells #[.int .i64 lsn, .int .i64 ep, .int .i64 1, .int .i64 tx, .int .i64 pv, .int .i64 num, .int .i64 sl, .bool u1, .slice A1 d1.length c1, .bool u2, .slice A2 d2.length c2, .int .i64 un, .int .i64 nt, .slice A3 ts.length c3, .slice A4 ds.length c4, .slice A5 im.length c5] 124)).alloc (.cells #[.int .i64 1, .int .i64 tx, .int .i64 pv, .int .i64 num, .int .i64 sl, .bool u1, .slice A1 d1.length c1, .bool u2, .slice A2 d2.length c2, .int .i64 un, .int .i64 nt, .slice A3 ts.length c3, .slice A4 ds.length c4, .slice A5 im.length c5] 49)) = W1
            have hE1 : Ext wr W1 := hW ▸ ((alloc_ext _ _).ext (alloc_ext _ _))
            have hfr : W1.heap[wr.heap.size]? = some (.cells #[.int .i64 lsn, .int .i64 ep, .int .i64 1, .int .i64 tx, .int .i64 pv, .int .i64 num, .int .i64 sl, .bool u1, .slice A1 d1.length c1, .bool u2, .slice A2 d2.length c2, .int .i64 un, .int .i64 nt, .slice A3 ts.length c3, .slice A4 ds.length c4, .slice A5 im.length c5] 124 (0, 0)) := hW ▸ (alloc_ext _ _).heap (heap_alloc_new _ _) (by simp)
            have hrr : W1.heap[wr.heap.size + 1]? = some (.cells #[.int .i64 1, .int .i64 tx, .int .i64 pv, .int .i64 num, .int .i64 sl, .bool u1, .slice A1 d1.length c1, .bool u2, .slice A2 d2.length c2, .int .i64 un, .int .i64 nt, .slice A3 ts.length c3, .slice A4 ds.length c4, .slice A5 im.length c5] 49 (0, 0)) := hW ▸ heap_at _ _ (by simp)
            have xl : W1.cell? ⟨wr.heap.size, 0, none⟩ = some (.int .i64 lsn) := cell_of_row _ _ 0 _ _ _ hfr
            have xk : W1.cell? ⟨wr.heap.size + 1, 0, none⟩ = some (.int .i64 1) := cell_of_row _ _ 0 _ _ _ hrr
            have xp : W1.cell? ⟨wr.heap.size + 1, 3, none⟩ = some (.int .i64 num) := cell_of_row _ _ 3 _ _ _ hrr
            have HE1 := Lib.hid hE1; have HFR := Lib.hid hfr; have HRR := Lib.hid hrr
            clear hW hE1 hfr hrr
            refine region_ext (by kernel_rfl) (by kernel_rfl) ?_
            repeat (first
              | (refine WQ.skip (by rfl) ?_
                 try simp only [Act.put, List.setIfInBounds_toArray, List.set_cons_zero, List.set_cons_succ])
              | (refine WQ.take ?_ (by rfl) (fun w' hw => ?_) ?_
                 rotate_left
                 · have cq0 := hw.ecell xl
                   have cq1 := hw.ecell xk
                   have cq2 := hw.ecell xp
                   unfold Oper.quietAt
                   go_simp
                   first
                     | done
                     | exact ⟨rfl, rfl⟩
                     | exact rfl
                 try simp only [Act.put, List.setIfInBounds_toArray, List.set_cons_zero, List.set_cons_succ])
              | (refine WQ.take ((.int .i64 pl)) (by rfl) (fun w' hw => ?_) ?_
                 · unfold Oper.quietAt
                   go_simp
                   go_at_call 99
                   exact ((HPL.out _ (HE1.out.ext hw)).mono (fun e w5 h5 => ⟨h5.1, hw.ext h5.2⟩))
                 try simp only [Act.put, List.setIfInBounds_toArray, List.set_cons_zero, List.set_cons_succ]))
            refine WQ.nil ?_
            intro w2 hw2
            have HE2 := Lib.hid (HE1.out.ext hw2); have HFR2 := Lib.hid (hw2.heap HFR.out (by simp)); have HRR2 := Lib.hid (hw2.heap HRR.out (by simp))
            clear hw2 xl xk xp
            have y4 := cell_of_row _ _ 4 _ _ _ HRR2.out; have y7 := cell_of_row _ _ 7 _ _ _ HRR2.out; have y8 := cell_of_row _ _ 8 _ _ _ HRR2.out; have yl := cell_of_row _ _ 0 _ _ _ HFR2.out
            simp only [List.getElem?_toArray, List.getElem?_cons_succ, List.getElem?_cons_zero] at y4 y7 y8 yl
            have hb2 := HE2.out.heap HRS.out.res (by simp)
            have HB2 := Lib.hid hb2
            clear hb2
            go_wp2_with (go_at_call 20; refine (HPS.out _ HE2.out).mono ?_; rintro e w3 ⟨v3, F3, rfl, hV3, hN3⟩; obtain ⟨_, ⟨A7, c7, Fd3, rfl, rfl, wf3, s3⟩, hv3⟩ := hV3; replace hv3 : v3 = .agg #[_, _] := hv3; subst hv3; clear y4 y7 y8 yl; have hb3 := (alloc_ext w3 (.cells #[.int .i64 R.Code, .slice A7 R.Page.length c7] 31)).heap (hN3.ext.heap HB2.out (by simp)) (by simp); have m := fun o => cell_of_row _ _ o _ _ _ hb3; have f := fun o => frozen_of_row _ _ o _ _ hb3)
            refine bodyPost_ret (v := .agg #[.int .i64 2, .slice none 0 0]) (by simp [results, Tryd.results42, go_sem, m]) rfl ?_
            rw [show redoPage p num fs fr = ⟨2, []⟩ by rw [redoPage, if_neg HPF.out, redoUp_none HUQ.out fs.length (by have := HMK.out; omega)]]
            exact rdRes_code rfl (by repeat (first | with_reducible exact ((HRS.out.ext.ext HE2.out).ext hN3.ext) | ((with_reducible apply Only.set); · first | (simp; done) | exact fun hq => absurd hq (by dsimp only; omega)) | (with_reducible apply Only.alloc)))
    · have hk : k = fs.length := by have := HMK.out; omega
      subst hk
      have m := fun o => cell_of_row _ _ o _ _ _ HRS.out.res
      have f := fun o => frozen_of_row _ _ o _ _ HRS.out.res
      go_wp2
      refine bodyPost_ret (v := .agg #[.int .i64 0, .slice A6 4096 c6]) (by simp [results, Tryd.results42, go_sem, m]) rfl ?_
      rw [show redoPage p num fs fr = ⟨0, Q⟩ by rw [redoPage, if_neg HPF.out, HUP.out]; exact if_pos HRS.out.len]
      exact rdRes_new HRS.out (by repeat (first | with_reducible exact Only.refl _ _ | ((with_reducible apply Only.set); · first | (simp; done) | exact fun hq => absurd hq (by dsimp only; omega)) | (with_reducible apply Only.alloc)))
end Go.Proofs.YtghgjddiheebeaaDoor
