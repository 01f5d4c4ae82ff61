/- RedoPage: the reference's. -/
import Derived.Test.YtghgjddiheebeaaDoorV2a
import Derived.Test.YtghgjddiheebeaaDoorZ6
namespace Go.Proofs.YtghgjddiheebeaaDoor
open Go.RowKit
set_option linter.unusedSimpArgs false
set_option linter.unusedVariables false
theorem New.of {w0 w w' : World} {F : List Nat} (hE : Ext w0 w) (hN : New w w' F) : New w0 w' F := ⟨hE.ext hN.ext, fun g hg => Nat.le_trans hE.size (hN.new g hg), hN.nodup, hN.unfr⟩
theorem New.onto {w0 w w' : World} {F : List Nat} {b : Nat} (hN : New w0 w F) (hlt : ∀ g ∈ F, g < w.heap.size) (hO : Only [b] w w') (hb : w0.heap.size ≤ b) (hF : b ∉ F) : New w0 w' F :=
  ⟨hN.ext.then_ hO (fun g hg hlt => by simp at hg; omega), hN.new, hN.nodup, hN.unfr.only hO hlt (fun g hg hm => by simp at hm; subst hm; exact hF hg)⟩
theorem New.al {w0 w : World} {F : List Nat} (hN : New w0 w F) (hlt : ∀ g ∈ F, g < w.heap.size) (o : Obj) : New w0 (w.alloc o) F := ⟨hN.ext.alloc _, hN.new, hN.nodup, hN.unfr.ext (alloc_ext _ _) hlt⟩
theorem set2_only {w : World} {b : Nat} {x y : Value} : Only [b] w ((w.setCell ⟨b, 0, none⟩ x).setCell ⟨b, 1, none⟩ y) := ((Only.refl [b] w).setCell (fun _ => by simp) _).setCell (fun _ => by simp) _
set_option maxRecDepth 100000 in
set_option maxHeartbeats 8000000 in
theorem specRedo_new (w : World) (A : Option Addr) (c : Nat) (p : List Int) (F : List Nat) (h : (Rep.int .u8).sl w A c p F) (num : Int) (en : (Lit.int .i64 num).wf = true) (Af : Option Addr) (cf : Nat) (fs : List DLogFrame) (Ff : List Nat) (hf : Rep.LogFrame.sl w Af cf fs Ff) (fr : Int) (er : (Lit.int .i64 fr).wf = true) (hs1 : p.length ≤ 1048576) (hs2 : wtLogFrameS fs ≤ 1048576) :
    Calls Tryd.prog 40 #[.slice A p.length c, .int .i64 num, .slice Af fs.length cf, .int .i64 fr] w (NewPost Rep.PageResult (redoPage p num fs fr) w) := by
  have hu := Tryd.underlying124
  have hu2 := Tryd.underlying49
  have hu3 := Tryd.underlying31
  have hu4 := Tryd.underlying33
  have hm := Nat.le_trans hf.1 hf.2.1
  unfold maxLen at hm
  have HB := Lib.hid (heap_alloc_new w (.cells #[.int .i64 0, .slice none 0 0] 31))
  have HE0 := Lib.hid (alloc_ext w (.cells #[.int .i64 0, .slice none 0 0] 31))
  have HPFC := Lib.hid (fun W (hW : Ext w W) => specPageFault_calls W A c p F (Rep.sl_ext h hW) num)
  by_cases hbad : pageFault p num ≠ 0
  · rw [show redoPage p num fs fr = ⟨1, []⟩ from if_pos hbad]
    have hb : (pageFault p num != 0) = true := bne_iff_ne.2 hbad
    generalize pageFault p num = pf at *
    clear h hf hs1 hs2 hbad
    go_enter Tryd.func40, Tryd.ntmps40
    go_wp2_with (go_at_call 74; refine (HPFC.out _ HE0.out).mono ?_; rintro e w1 ⟨rfl, hE⟩; have m := fun o => cell_of_row _ _ o _ _ _ (hE.heap HB.out (by simp)); have f := fun o => frozen_of_row _ _ o _ _ (hE.heap HB.out (by simp)); have HE1 := Lib.hid (HE0.out.ext hE); clear hE)
    refine bodyPost_ret (v := .agg #[.int .i64 1, .slice none 0 0]) (by simp [results, Tryd.results40, go_sem, m]) rfl ?_
    exact rdRes_code rfl (by repeat (first | with_reducible exact HE1.out | ((with_reducible apply Only.set); · first | (simp; done) | exact fun hq => absurd hq (by dsimp only; omega)) | (with_reducible apply Only.alloc)))
  have hz : pageFault p num = 0 := Classical.byContradiction hbad
  have HPF := Lib.hid hbad
  have hlen := (fault_zero hz).1
  rw [hz] at HPFC
  have HCL := Lib.hid (fun W (hW : Ext w W) => by
    have h := l1Copy_calls A c p F W (Rep.sl_ext h hW) (by omega)
    rw [hlen] at h
    exact h)
  have HLEN := Lib.hid hlen; have HF := Lib.hid hf; have HWT := Lib.hid hs2
  rw [hlen] at HPFC ⊢
  clear h hf hs1 hs2 hbad hz hlen
  go_enter Tryd.func40, Tryd.ntmps40
  go_wp2_with (first
    | (go_at_call 74; refine (HPFC.out _ HE0.out).mono ?_; rintro e w1 ⟨rfl, hE⟩; have HB1 := Lib.hid (hE.heap HB.out (by simp)); have HE1 := Lib.hid (HE0.out.ext hE); clear hE)
    | (go_at_call 51; refine (HCL.out _ HE1.out).mono ?_; rintro e w2 ⟨v2, G2, rfl, hV2, hN2⟩; obtain ⟨A2', c2', rfl, q2⟩ := Rep.slice_V hV2; rw [HLEN.out]; have HR0 := Lib.hid (show RS w w2 A2' c2' p G2 from ⟨q2, HE1.out.ext hN2.ext, ⟨fun g hg => by have h1 := hN2.new g hg; have h2 := (Array.getElem?_eq_some_iff.1 HB1.out).1; omega, Rep.sl_lt q2, hN2.nodup, hN2.unfr⟩, hN2.ext.heap HB1.out (by simp), HLEN.out⟩); clear hV2 hN2 q2))
  go_loopg [9, 10] (fs.length) (fun m a i wr => ∃ (k : Nat) (A6 : Option Addr) (c6 : Nat) (Q : List Int) (F6 : List Nat), m + k = fs.length ∧ a = .slice A6 4096 c6 ∧ i = .int .i64 k ∧ Hid (RS w wr A6 c6 Q F6) ∧ Hid (redoUp fs num fr p k = some Q))
  case atStart => exact ⟨0, A2', c2', p, G2, by simp, rfl, rfl, HR0, Lib.hid rfl⟩
  case round =>
    obtain ⟨k, A6, c6, Q, F6, hmk, rfl, rfl, HRS, HUP⟩ := hrel
    have HMK := Lib.hid hmk
    clear hmk
    by_cases hlt : k < fs.length
    · obtain ⟨g, off, A1, c1, F1, A2, c2, F2, A3, c3, F3, A4, c4, F4, A5, c5, F5, rfl, hg, hwf, s1, s2, s3, s4, s5, e0, e1, e2, e3, e4, e5, e6, e7, e8, e9, e10, e11, e12, e13, e14, e15⟩ := sl_LogFrame (Rep.sl_ext HF.out HRS.out.ext) k hlt
      have hst := redoUp_at (num := num) (fr := fr) (P := p) k hlt
      rw [HUP.out] at hst
      simp only [Option.bind_some] at hst
      have hwt := Nat.le_trans (mem_wtLogFrameS k hlt) HWT.out
      generalize fs[k] = x at *
      obtain ⟨lsn, ep, ⟨kd, tx, pv, pg, sl, ⟨u1, d1⟩, ⟨u2, d2⟩, un, nt, ts, ds, im⟩⟩ := x
      dsimp only at *
      obtain ⟨pl, hpl⟩ : ∃ x, x = pageLsn Q := ⟨_, rfl⟩
      obtain ⟨R, hR⟩ : ∃ R, R = pageSet Q sl ⟨u2, d2⟩ lsn := ⟨_, rfl⟩
      have HPL := Lib.hid (fun W (hW : Ext wr W) => by
        have h := specPageLSN_calls W A6 c6 Q F6 (Rep.sl_ext HRS.out.sl hW)
        rw [HRS.out.len, ← hpl] at h
        exact h)
      have HPS := Lib.hid (fun W (hW : Ext wr W) => by
        have h := specPageSet_new W A6 c6 Q F6 (Rep.sl_ext HRS.out.sl hW) sl hwf.2.2.2.2.2.2.1 (.agg #[.bool u2, .slice A2 d2.length c2]) ⟨u2, d2⟩ F2 ⟨_, ⟨A2, c2, F2, rfl, rfl, trivial, Rep.sl_ext s2 hW⟩, rfl⟩ lsn hwf.1 (by rw [HRS.out.len]; omega) (by simp only [wtLogFrame, wtLogRecord] at hwt; omega)
        rw [HRS.out.len, ← hR] at h
        exact h)
      have HST := Lib.hid hst; have HR := Lib.hid hR; have HPLE := Lib.hid hpl
      clear hst hR hpl hwf s1 s2 s3 s4 s5 hwt
      have i1 : (0 : Int) ≤ (k : Int) := by omega
      have i2 : (k : Int) < (fs.length : Int) := by omega
      have i3 : (k : Int).toNat = k := by omega
      by_cases k1 : kd = 1
      rotate_left
      · by_cases k2 : kd = 2
        rotate_left
        · have k1b : (kd != 1) = true := bne_iff_ne.2 k1
          have k2b : (kd != 2) = true := bne_iff_ne.2 k2
          as_aux_lemma =>
            have HUQ := Lib.hid (show redoUp fs num fr p (k + 1) = some Q by rw [HST.out]; exact if_neg (by rintro ⟨h1, h2, h3, h4⟩; exact h1.elim k1 k2))
            go_wp2_with fail
            generalize hW : (wr.alloc (.cells #[.int .i64 kd, .int .i64 tx, .int .i64 pv, .int .i64 pg, .int .i64 sl, .bool u1, .slice A1 d1.length c1, .bool u2, .slice A2 d2.length c2, .int .i64 un, .int .i64 nt, .slice A3 ts.length c3, .slice A4 ds.length c4, .slice A5 im.length c5] 49)) = W1
            have hE1 : Ext wr W1 := hW ▸ (alloc_ext _ _)
            have hrr : W1.heap[wr.heap.size]? = some (.cells #[.int .i64 kd, .int .i64 tx, .int .i64 pv, .int .i64 pg, .int .i64 sl, .bool u1, .slice A1 d1.length c1, .bool u2, .slice A2 d2.length c2, .int .i64 un, .int .i64 nt, .slice A3 ts.length c3, .slice A4 ds.length c4, .slice A5 im.length c5] 49 (0, 0)) := hW ▸ heap_alloc_new _ _
            have xl := hE1.ecell e0
            have xk : W1.cell? ⟨wr.heap.size, 0, none⟩ = some (.int .i64 kd) := cell_of_row _ _ 0 _ _ _ hrr
            have xp : W1.cell? ⟨wr.heap.size, 3, none⟩ = some (.int .i64 pg) := cell_of_row _ _ 3 _ _ _ hrr
            have HE1 := Lib.hid hE1; have HRR := Lib.hid hrr
            clear hW hE1 hrr
            refine region_ext (by kernel_rfl) (by kernel_rfl) ?_
            repeat (first
              | (refine WQ.skip (by rfl) ?_
                 try simp only [Act.put, List.setIfInBounds_toArray, List.set_cons_zero, List.set_cons_succ])
              | (refine WQ.take ?_ (by rfl) (fun w' hw => ?_) ?_
                 rotate_left
                 · have cq0 := hw.ecell xl
                   have cq1 := hw.ecell xk
                   have cq2 := hw.ecell xp
                   unfold Oper.quietAt
                   go_simp
                   first
                     | done
                     | exact ⟨rfl, rfl⟩
                     | exact rfl
                 try simp only [Act.put, List.setIfInBounds_toArray, List.set_cons_zero, List.set_cons_succ])
              | (refine WQ.take ((.int .i64 pl)) (by rfl) (fun w' hw => ?_) ?_
                 · unfold Oper.quietAt
                   go_simp
                   go_at_call 97
                   exact ((HPL.out _ (HE1.out.ext hw)).mono (fun e w5 h5 => ⟨h5.1, hw.ext h5.2⟩))
                 try simp only [Act.put, List.setIfInBounds_toArray, List.set_cons_zero, List.set_cons_succ]))
            refine WQ.nil ?_
            intro w2 hw2
            have HE2 := Lib.hid (HE1.out.ext hw2); have HRR2 := Lib.hid (hw2.heap HRR.out (by simp))
            clear hw2 xl xk xp
            go_wp2
            go_roundg (fs.length - (k + 1))
            case measure => have := HMK.out; omega
            case rel => exact ⟨k + 1, A6, c6, Q, F6, by have := HMK.out; omega, rfl, by go_num, Lib.hid (HRS.out.more HE2.out), HUQ⟩
        · subst k2
          have k1b : ((2 : Int) != 1) = true := rfl
          by_cases a2 : pg = num
          rotate_left
          · have a2b : (pg != num) = true := bne_iff_ne.2 a2
            as_aux_lemma =>
              have HUQ := Lib.hid (show redoUp fs num fr p (k + 1) = some Q by rw [HST.out]; exact if_neg (by rintro ⟨h1, h2, h3, h4⟩; exact a2 h2))
              go_wp2_with fail
              generalize hW : (wr.alloc (.cells #[.int .i64 2, .int .i64 tx, .int .i64 pv, .int .i64 pg, .int .i64 sl, .bool u1, .slice A1 d1.length c1, .bool u2, .slice A2 d2.length c2, .int .i64 un, .int .i64 nt, .slice A3 ts.length c3, .slice A4 ds.length c4, .slice A5 im.length c5] 49)) = W1
              have hE1 : Ext wr W1 := hW ▸ (alloc_ext _ _)
              have hrr : W1.heap[wr.heap.size]? = some (.cells #[.int .i64 2, .int .i64 tx, .int .i64 pv, .int .i64 pg, .int .i64 sl, .bool u1, .slice A1 d1.length c1, .bool u2, .slice A2 d2.length c2, .int .i64 un, .int .i64 nt, .slice A3 ts.length c3, .slice A4 ds.length c4, .slice A5 im.length c5] 49 (0, 0)) := hW ▸ heap_alloc_new _ _
              have xl := hE1.ecell e0
              have xk : W1.cell? ⟨wr.heap.size, 0, none⟩ = some (.int .i64 2) := cell_of_row _ _ 0 _ _ _ hrr
              have xp : W1.cell? ⟨wr.heap.size, 3, none⟩ = some (.int .i64 pg) := cell_of_row _ _ 3 _ _ _ hrr
              have HE1 := Lib.hid hE1; have HRR := Lib.hid hrr
              clear hW hE1 hrr
              refine region_ext (by kernel_rfl) (by kernel_rfl) ?_
              repeat (first
                | (refine WQ.skip (by rfl) ?_
                   try simp only [Act.put, List.setIfInBounds_toArray, List.set_cons_zero, List.set_cons_succ])
                | (refine WQ.take ?_ (by rfl) (fun w' hw => ?_) ?_
                   rotate_left
                   · have cq0 := hw.ecell xl
                     have cq1 := hw.ecell xk
                     have cq2 := hw.ecell xp
                     unfold Oper.quietAt
                     go_simp
                     first
                       | done
                       | exact ⟨rfl, rfl⟩
                       | exact rfl
                   try simp only [Act.put, List.setIfInBounds_toArray, List.set_cons_zero, List.set_cons_succ])
                | (refine WQ.take ((.int .i64 pl)) (by rfl) (fun w' hw => ?_) ?_
                   · unfold Oper.quietAt
                     go_simp
                     go_at_call 97
                     exact ((HPL.out _ (HE1.out.ext hw)).mono (fun e w5 h5 => ⟨h5.1, hw.ext h5.2⟩))
                   try simp only [Act.put, List.setIfInBounds_toArray, List.set_cons_zero, List.set_cons_succ]))
              refine WQ.nil ?_
              intro w2 hw2
              have HE2 := Lib.hid (HE1.out.ext hw2); have HRR2 := Lib.hid (hw2.heap HRR.out (by simp))
              clear hw2 xl xk xp
              go_wp2
              go_roundg (fs.length - (k + 1))
              case measure => have := HMK.out; omega
              case rel => exact ⟨k + 1, A6, c6, Q, F6, by have := HMK.out; omega, rfl, by go_num, Lib.hid (HRS.out.more HE2.out), HUQ⟩
          obtain rfl : num = pg := a2.symm
          by_cases a3 : fr ≤ lsn
          rotate_left
          · have a3b : decide (lsn < fr) = true := decide_eq_true (by omega)
            as_aux_lemma =>
              have HUQ := Lib.hid (show redoUp fs num fr p (k + 1) = some Q by rw [HST.out]; exact if_neg (by rintro ⟨h1, h2, h3, h4⟩; exact a3 h3))
              go_wp2_with fail
              generalize hW : (wr.alloc (.cells #[.int .i64 2, .int .i64 tx, .int .i64 pv, .int .i64 num, .int .i64 sl, .bool u1, .slice A1 d1.length c1, .bool u2, .slice A2 d2.length c2, .int .i64 un, .int .i64 nt, .slice A3 ts.length c3, .slice A4 ds.length c4, .slice A5 im.length c5] 49)) = W1
              have hE1 : Ext wr W1 := hW ▸ (alloc_ext _ _)
              have hrr : W1.heap[wr.heap.size]? = some (.cells #[.int .i64 2, .int .i64 tx, .int .i64 pv, .int .i64 num, .int .i64 sl, .bool u1, .slice A1 d1.length c1, .bool u2, .slice A2 d2.length c2, .int .i64 un, .int .i64 nt, .slice A3 ts.length c3, .slice A4 ds.length c4, .slice A5 im.length c5] 49 (0, 0)) := hW ▸ heap_alloc_new _ _
              have xl := hE1.ecell e0
              have xk : W1.cell? ⟨wr.heap.size, 0, none⟩ = some (.int .i64 2) := cell_of_row _ _ 0 _ _ _ hrr
              have xp : W1.cell? ⟨wr.heap.size, 3, none⟩ = some (.int .i64 num) := cell_of_row _ _ 3 _ _ _ hrr
              have HE1 := Lib.hid hE1; have HRR := Lib.hid hrr
              clear hW hE1 hrr
              refine region_ext (by kernel_rfl) (by kernel_rfl) ?_
              repeat (first
                | (refine WQ.skip (by rfl) ?_
                   try simp only [Act.put, List.setIfInBounds_toArray, List.set_cons_zero, List.set_cons_succ])
                | (refine WQ.take ?_ (by rfl) (fun w' hw => ?_) ?_
                   rotate_left
                   · have cq0 := hw.ecell xl
                     have cq1 := hw.ecell xk
                     have cq2 := hw.ecell xp
                     unfold Oper.quietAt
                     go_simp
                     first
                       | done
                       | exact ⟨rfl, rfl⟩
                       | exact rfl
                   try simp only [Act.put, List.setIfInBounds_toArray, List.set_cons_zero, List.set_cons_succ])
                | (refine WQ.take ((.int .i64 pl)) (by rfl) (fun w' hw => ?_) ?_
                   · unfold Oper.quietAt
                     go_simp
                     go_at_call 97
                     exact ((HPL.out _ (HE1.out.ext hw)).mono (fun e w5 h5 => ⟨h5.1, hw.ext h5.2⟩))
                   try simp only [Act.put, List.setIfInBounds_toArray, List.set_cons_zero, List.set_cons_succ]))
              refine WQ.nil ?_
              intro w2 hw2
              have HE2 := Lib.hid (HE1.out.ext hw2); have HRR2 := Lib.hid (hw2.heap HRR.out (by simp))
              clear hw2 xl xk xp
              go_wp2
              go_roundg (fs.length - (k + 1))
              case measure => have := HMK.out; omega
              case rel => exact ⟨k + 1, A6, c6, Q, F6, by have := HMK.out; omega, rfl, by go_num, Lib.hid (HRS.out.more HE2.out), HUQ⟩
          have a3b : decide (lsn < fr) = false := decide_eq_false (by omega)
          by_cases a4 : pl < lsn
          rotate_left
          · have a4b : decide (lsn ≤ pl) = true := decide_eq_true (by omega)
            as_aux_lemma =>
              have HUQ := Lib.hid (show redoUp fs num fr p (k + 1) = some Q by rw [HST.out]; exact if_neg (by rintro ⟨h1, h2, h3, h4⟩; exact a4 (by rw [HPLE.out]; exact h4)))
              go_wp2_with fail
              generalize hW : (wr.alloc (.cells #[.int .i64 2, .int .i64 tx, .int .i64 pv, .int .i64 num, .int .i64 sl, .bool u1, .slice A1 d1.length c1, .bool u2, .slice A2 d2.length c2, .int .i64 un, .int .i64 nt, .slice A3 ts.length c3, .slice A4 ds.length c4, .slice A5 im.length c5] 49)) = W1
              have hE1 : Ext wr W1 := hW ▸ (alloc_ext _ _)
              have hrr : W1.heap[wr.heap.size]? = some (.cells #[.int .i64 2, .int .i64 tx, .int .i64 pv, .int .i64 num, .int .i64 sl, .bool u1, .slice A1 d1.length c1, .bool u2, .slice A2 d2.length c2, .int .i64 un, .int .i64 nt, .slice A3 ts.length c3, .slice A4 ds.length c4, .slice A5 im.length c5] 49 (0, 0)) := hW ▸ heap_alloc_new _ _
              have xl := hE1.ecell e0
              have xk : W1.cell? ⟨wr.heap.size, 0, none⟩ = some (.int .i64 2) := cell_of_row _ _ 0 _ _ _ hrr
              have xp : W1.cell? ⟨wr.heap.size, 3, none⟩ = some (.int .i64 num) := cell_of_row _ _ 3 _ _ _ hrr
              have HE1 := Lib.hid hE1; have HRR := Lib.hid hrr
              clear hW hE1 hrr
              refine region_ext (by kernel_rfl) (by kernel_rfl) ?_
              repeat (first
                | (refine WQ.skip (by rfl) ?_
                   try simp only [Act.put, List.setIfInBounds_toArray, List.set_cons_zero, List.set_cons_succ])
                | (refine WQ.take ?_ (by rfl) (fun w' hw => ?_) ?_
                   rotate_left
                   · have cq0 := hw.ecell xl
                     have cq1 := hw.ecell xk
                     have cq2 := hw.ecell xp
                     unfold Oper.quietAt
                     go_simp
                     first
                       | done
                       | exact ⟨rfl, rfl⟩
                       | exact rfl
                   try simp only [Act.put, List.setIfInBounds_toArray, List.set_cons_zero, List.set_cons_succ])
                | (refine WQ.take ((.int .i64 pl)) (by rfl) (fun w' hw => ?_) ?_
                   · unfold Oper.quietAt
                     go_simp
                     go_at_call 97
                     exact ((HPL.out _ (HE1.out.ext hw)).mono (fun e w5 h5 => ⟨h5.1, hw.ext h5.2⟩))
                   try simp only [Act.put, List.setIfInBounds_toArray, List.set_cons_zero, List.set_cons_succ]))
              refine WQ.nil ?_
              intro w2 hw2
              have HE2 := Lib.hid (HE1.out.ext hw2); have HRR2 := Lib.hid (hw2.heap HRR.out (by simp))
              clear hw2 xl xk xp
              go_wp2
              go_roundg (fs.length - (k + 1))
              case measure => have := HMK.out; omega
              case rel => exact ⟨k + 1, A6, c6, Q, F6, by have := HMK.out; omega, rfl, by go_num, Lib.hid (HRS.out.more HE2.out), HUQ⟩
          have a4b : decide (lsn ≤ pl) = false := decide_eq_false (by omega)
          as_aux_lemma =>
            have HSEL := Lib.hid (show redoStep num fr Q ⟨lsn, ep, ⟨2, tx, pv, num, sl, ⟨u1, d1⟩, ⟨u2, d2⟩, un, nt, ts, ds, im⟩⟩ = (if R.Code = 0 then some R.Page else none) by rw [HR.out]; exact if_pos ⟨by simp, rfl, a3, by rw [← HPLE.out]; exact a4⟩)
            go_wp2_with fail
            generalize hW : (wr.alloc (.cells #[.int .i64 2, .int .i64 tx, .int .i64 pv, .int .i64 num, .int .i64 sl, .bool u1, .slice A1 d1.length c1, .bool u2, .slice A2 d2.length c2, .int .i64 un, .int .i64 nt, .slice A3 ts.length c3, .slice A4 ds.length c4, .slice A5 im.length c5] 49)) = W1
            have hE1 : Ext wr W1 := hW ▸ (alloc_ext _ _)
            have hrr : W1.heap[wr.heap.size]? = some (.cells #[.int .i64 2, .int .i64 tx, .int .i64 pv, .int .i64 num, .int .i64 sl, .bool u1, .slice A1 d1.length c1, .bool u2, .slice A2 d2.length c2, .int .i64 un, .int .i64 nt, .slice A3 ts.length c3, .slice A4 ds.length c4, .slice A5 im.length c5] 49 (0, 0)) := hW ▸ heap_alloc_new _ _
            have xl := hE1.ecell e0
            have xk : W1.cell? ⟨wr.heap.size, 0, none⟩ = some (.int .i64 2) := cell_of_row _ _ 0 _ _ _ hrr
            have xp : W1.cell? ⟨wr.heap.size, 3, none⟩ = some (.int .i64 num) := cell_of_row _ _ 3 _ _ _ hrr
            have HE1 := Lib.hid hE1; have HRR := Lib.hid hrr
            clear hW hE1 hrr
            refine region_ext (by kernel_rfl) (by kernel_rfl) ?_
            repeat (first
              | (refine WQ.skip (by rfl) ?_
                 try simp only [Act.put, List.setIfInBounds_toArray, List.set_cons_zero, List.set_cons_succ])
              | (refine WQ.take ?_ (by rfl) (fun w' hw => ?_) ?_
                 rotate_left
                 · have cq0 := hw.ecell xl
                   have cq1 := hw.ecell xk
                   have cq2 := hw.ecell xp
                   unfold Oper.quietAt
                   go_simp
                   first
                     | done
                     | exact ⟨rfl, rfl⟩
                     | exact rfl
                 try simp only [Act.put, List.setIfInBounds_toArray, List.set_cons_zero, List.set_cons_succ])
              | (refine WQ.take ((.int .i64 pl)) (by rfl) (fun w' hw => ?_) ?_
                 · unfold Oper.quietAt
                   go_simp
                   go_at_call 97
                   exact ((HPL.out _ (HE1.out.ext hw)).mono (fun e w5 h5 => ⟨h5.1, hw.ext h5.2⟩))
                 try simp only [Act.put, List.setIfInBounds_toArray, List.set_cons_zero, List.set_cons_succ]))
            refine WQ.nil ?_
            intro w2 hw2
            have HE2 := Lib.hid (HE1.out.ext hw2); have HRR2 := Lib.hid (hw2.heap HRR.out (by simp))
            clear hw2 xl xk xp
            have y4 := cell_of_row _ _ 4 _ _ _ HRR2.out; have y7 := cell_of_row _ _ 7 _ _ _ HRR2.out; have y8 := cell_of_row _ _ 8 _ _ _ HRR2.out; have yl := HE2.out.ecell e0
            simp only [List.getElem?_toArray, List.getElem?_cons_succ, List.getElem?_cons_zero] at y4 y7 y8
            obtain ⟨W2, hW2⟩ : ∃ W, W = w2 := ⟨_, rfl⟩
            go_wp2_with fail
            go_cut [12] from 64 to 74 (fun q wx => ∃ (wn : World) (b : Nat) (A : Option Addr) (c : Nat) (F : List Nat), wn = wx ∧ q = .pointer (some ⟨b, 0, none⟩) ∧ Hid (Rl w2 wn b R A c F) ∧ Hid (New w2 wn F))
            case first =>
              have HX := Lib.hid (show Ext w2 w2.drew from (Only.refl _ _).drew)
              go_region_held3 (fun w' => w'.cell? ⟨wr.heap.size, 4, none⟩ = some (.int .i64 sl) ∧ w'.cell? ⟨wr.heap.size, 7, none⟩ = some (.bool u2) ∧ w'.cell? ⟨wr.heap.size, 8, none⟩ = some (.slice A2 d2.length c2) ∧ w'.cell? ⟨g, off + k * 16, none⟩ = some (.int .i64 lsn))
                (first | go_keep | exact ⟨HX.out.ecell y4, HX.out.ecell y7, HX.out.ecell y8, HX.out.ecell yl⟩ | exact ⟨(HX.out.alloc _).ecell y4, (HX.out.alloc _).ecell y7, (HX.out.alloc _).ecell y8, (HX.out.alloc _).ecell yl⟩ | exact ⟨set2_cell (HX.out.ecell y4) (Nat.ne_of_lt (Nat.lt_of_lt_of_le (block_lt_of_cell y4) HBG.out)), set2_cell (HX.out.ecell y7) (Nat.ne_of_lt (Nat.lt_of_lt_of_le (block_lt_of_cell y7) HBG.out)), set2_cell (HX.out.ecell y8) (Nat.ne_of_lt (Nat.lt_of_lt_of_le (block_lt_of_cell y8) HBG.out)), set2_cell (HX.out.ecell yl) (Nat.ne_of_lt (Nat.lt_of_lt_of_le (block_lt_of_cell yl) HBG.out))⟩)
                (first
                  | (go_at_call 18; refine (HPS.out _ (Only.ext HE2.out (by repeat (first | with_reducible exact HX.out | with_reducible exact Only.refl _ _ | with_reducible apply Only.alloc | with_reducible apply Only.drew)))).mono ?_; rintro e wC ⟨vC, FC, rfl, hVC, hNC⟩; obtain ⟨_, ⟨AC, cC, FdC, rfl, rfl, wfC, sC⟩, hvC⟩ := hVC; replace hvC : vC = .agg #[_, _] := hvC; subst hvC; have HN2 := Lib.hid (show New w2 wC _ from New.of (by repeat (first | with_reducible exact HX.out | with_reducible exact Only.refl _ _ | with_reducible apply Only.alloc | with_reducible apply Only.drew)) hNC); (first | have HBN := Lib.hid (notin_old hNC (heap_alloc_new _ _)) | skip); (first | (have HBR := Lib.hid (hNC.ext.heap (heap_alloc_new _ _) (by simp)); have HBG := Lib.hid (show w2.heap.size ≤ _ from HX.out.size)) | skip); (try have mb := fun o => cell_of_row _ _ o _ _ _ HBR.out); (try have fb := fun o => frozen_of_row _ _ o _ _ HBR.out); replace HX := Lib.hid (show Ext w2 wC from Only.ext (by repeat (first | with_reducible exact HX.out | with_reducible exact Only.refl _ _ | with_reducible apply Only.alloc | with_reducible apply Only.drew)) hNC.ext)))
              all_goals
                go_wp2_with fail
                go_meet
                first
                  | exact ⟨_, _, AC, cC, _, rfl, rfl, Lib.hid (Rl.alloc HX.out wfC sC), Lib.hid (HN2.out.al (fun b hb => Rep.sl_lt sC b hb) _)⟩
                  | exact ⟨_, _, AC, cC, _, rfl, rfl, Lib.hid (Rl.set HX.out wfC sC HBG.out HBR.out rfl HBN.out), Lib.hid (HN2.out.onto (fun b hb => Rep.sl_lt sC b hb) set2_only HBG.out HBN.out)⟩
            obtain ⟨w3, b3, A7, c7, F3, rfl, rfl, HRL3, HN3⟩ := hcut
            have z0 := cell_of_row _ _ 0 _ _ _ HRL3.out.row
            have z1 := cell_of_row _ _ 1 _ _ _ HRL3.out.row
            simp only [List.getElem?_toArray, List.getElem?_cons_succ, List.getElem?_cons_zero] at z0 z1
            clear y4 y7 y8 yl
            by_cases hc : R.Code = 0
            · have HUQ := Lib.hid (show redoUp fs num fr p (k + 1) = some R.Page by rw [HST.out, HSEL.out, if_pos hc])
              have hrl : R.Page.length = 4096 := by rw [HR.out] at hc ⊢; exact pageSet_len hc
              have hcb : (R.Code != 0) = false := by simp [hc]
              rw [hrl] at z1
              clear hc hrl
              go_wp2
              go_roundg (fs.length - (k + 1))
              case measure => have := HMK.out; omega
              case rel => exact ⟨k + 1, A7, c7, R.Page, F3, by have := HMK.out; omega, rfl, by go_num, Lib.hid ((HRS.out.more HE2.out).swap HRL3.out.sl HN3.out (by
                  have h := HUQ.out
                  exact redoUp_len HLEN.out _ _ h)), HUQ⟩
            · have HUQ := Lib.hid (show redoUp fs num fr p (k + 1) = none by rw [HST.out, HSEL.out, if_neg hc])
              have hcb : (R.Code != 0) = true := bne_iff_ne.2 hc
              clear hc
              have hb3 := HRL3.out.ext.heap (HE2.out.heap HRS.out.res (by simp)) (by simp)
              have m := fun o => cell_of_row _ _ o _ _ _ hb3
              have f := fun o => frozen_of_row _ _ o _ _ hb3
              go_wp2
              refine bodyPost_ret (v := .agg #[.int .i64 2, .slice none 0 0]) (by simp [results, Tryd.results40, go_sem, m]) rfl ?_
              rw [show redoPage p num fs fr = ⟨2, []⟩ by rw [redoPage, if_neg HPF.out, redoUp_none HUQ.out fs.length (by have := HMK.out; omega)]]
              exact rdRes_code rfl (by repeat (first | with_reducible exact ((HRS.out.ext.ext HE2.out).ext HRL3.out.ext) | ((with_reducible apply Only.set); · first | (simp; done) | exact fun hq => absurd hq (by dsimp only; omega)) | (with_reducible apply Only.alloc)))
      · subst k1
        by_cases a2 : pg = num
        rotate_left
        · have a2b : (pg != num) = true := bne_iff_ne.2 a2
          as_aux_lemma =>
            have HUQ := Lib.hid (show redoUp fs num fr p (k + 1) = some Q by rw [HST.out]; exact if_neg (by rintro ⟨h1, h2, h3, h4⟩; exact a2 h2))
            go_wp2_with fail
            generalize hW : (wr.alloc (.cells #[.int .i64 1, .int .i64 tx, .int .i64 pv, .int .i64 pg, .int .i64 sl, .bool u1, .slice A1 d1.length c1, .bool u2, .slice A2 d2.length c2, .int .i64 un, .int .i64 nt, .slice A3 ts.length c3, .slice A4 ds.length c4, .slice A5 im.length c5] 49)) = W1
            have hE1 : Ext wr W1 := hW ▸ (alloc_ext _ _)
            have hrr : W1.heap[wr.heap.size]? = some (.cells #[.int .i64 1, .int .i64 tx, .int .i64 pv, .int .i64 pg, .int .i64 sl, .bool u1, .slice A1 d1.length c1, .bool u2, .slice A2 d2.length c2, .int .i64 un, .int .i64 nt, .slice A3 ts.length c3, .slice A4 ds.length c4, .slice A5 im.length c5] 49 (0, 0)) := hW ▸ heap_alloc_new _ _
            have xl := hE1.ecell e0
            have xk : W1.cell? ⟨wr.heap.size, 0, none⟩ = some (.int .i64 1) := cell_of_row _ _ 0 _ _ _ hrr
            have xp : W1.cell? ⟨wr.heap.size, 3, none⟩ = some (.int .i64 pg) := cell_of_row _ _ 3 _ _ _ hrr
            have HE1 := Lib.hid hE1; have HRR := Lib.hid hrr
            clear hW hE1 hrr
            refine region_ext (by kernel_rfl) (by kernel_rfl) ?_
            repeat (first
              | (refine WQ.skip (by rfl) ?_
                 try simp only [Act.put, List.setIfInBounds_toArray, List.set_cons_zero, List.set_cons_succ])
              | (refine WQ.take ?_ (by rfl) (fun w' hw => ?_) ?_
                 rotate_left
                 · have cq0 := hw.ecell xl
                   have cq1 := hw.ecell xk
                   have cq2 := hw.ecell xp
                   unfold Oper.quietAt
                   go_simp
                   first
                     | done
                     | exact ⟨rfl, rfl⟩
                     | exact rfl
                 try simp only [Act.put, List.setIfInBounds_toArray, List.set_cons_zero, List.set_cons_succ])
              | (refine WQ.take ((.int .i64 pl)) (by rfl) (fun w' hw => ?_) ?_
                 · unfold Oper.quietAt
                   go_simp
                   go_at_call 97
                   exact ((HPL.out _ (HE1.out.ext hw)).mono (fun e w5 h5 => ⟨h5.1, hw.ext h5.2⟩))
                 try simp only [Act.put, List.setIfInBounds_toArray, List.set_cons_zero, List.set_cons_succ]))
            refine WQ.nil ?_
            intro w2 hw2
            have HE2 := Lib.hid (HE1.out.ext hw2); have HRR2 := Lib.hid (hw2.heap HRR.out (by simp))
            clear hw2 xl xk xp
            go_wp2
            go_roundg (fs.length - (k + 1))
            case measure => have := HMK.out; omega
            case rel => exact ⟨k + 1, A6, c6, Q, F6, by have := HMK.out; omega, rfl, by go_num, Lib.hid (HRS.out.more HE2.out), HUQ⟩
        obtain rfl : num = pg := a2.symm
        by_cases a3 : fr ≤ lsn
        rotate_left
        · have a3b : decide (lsn < fr) = true := decide_eq_true (by omega)
          as_aux_lemma =>
            have HUQ := Lib.hid (show redoUp fs num fr p (k + 1) = some Q by rw [HST.out]; exact if_neg (by rintro ⟨h1, h2, h3, h4⟩; exact a3 h3))
            go_wp2_with fail
            generalize hW : (wr.alloc (.cells #[.int .i64 1, .int .i64 tx, .int .i64 pv, .int .i64 num, .int .i64 sl, .bool u1, .slice A1 d1.length c1, .bool u2, .slice A2 d2.length c2, .int .i64 un, .int .i64 nt, .slice A3 ts.length c3, .slice A4 ds.length c4, .slice A5 im.length c5] 49)) = W1
            have hE1 : Ext wr W1 := hW ▸ (alloc_ext _ _)
            have hrr : W1.heap[wr.heap.size]? = some (.cells #[.int .i64 1, .int .i64 tx, .int .i64 pv, .int .i64 num, .int .i64 sl, .bool u1, .slice A1 d1.length c1, .bool u2, .slice A2 d2.length c2, .int .i64 un, .int .i64 nt, .slice A3 ts.length c3, .slice A4 ds.length c4, .slice A5 im.length c5] 49 (0, 0)) := hW ▸ heap_alloc_new _ _
            have xl := hE1.ecell e0
            have xk : W1.cell? ⟨wr.heap.size, 0, none⟩ = some (.int .i64 1) := cell_of_row _ _ 0 _ _ _ hrr
            have xp : W1.cell? ⟨wr.heap.size, 3, none⟩ = some (.int .i64 num) := cell_of_row _ _ 3 _ _ _ hrr
            have HE1 := Lib.hid hE1; have HRR := Lib.hid hrr
            clear hW hE1 hrr
            refine region_ext (by kernel_rfl) (by kernel_rfl) ?_
            repeat (first
              | (refine WQ.skip (by rfl) ?_
                 try simp only [Act.put, List.setIfInBounds_toArray, List.set_cons_zero, List.set_cons_succ])
              | (refine WQ.take ?_ (by rfl) (fun w' hw => ?_) ?_
                 rotate_left
                 · have cq0 := hw.ecell xl
                   have cq1 := hw.ecell xk
                   have cq2 := hw.ecell xp
                   unfold Oper.quietAt
                   go_simp
                   first
                     | done
                     | exact ⟨rfl, rfl⟩
                     | exact rfl
                 try simp only [Act.put, List.setIfInBounds_toArray, List.set_cons_zero, List.set_cons_succ])
              | (refine WQ.take ((.int .i64 pl)) (by rfl) (fun w' hw => ?_) ?_
                 · unfold Oper.quietAt
                   go_simp
                   go_at_call 97
                   exact ((HPL.out _ (HE1.out.ext hw)).mono (fun e w5 h5 => ⟨h5.1, hw.ext h5.2⟩))
                 try simp only [Act.put, List.setIfInBounds_toArray, List.set_cons_zero, List.set_cons_succ]))
            refine WQ.nil ?_
            intro w2 hw2
            have HE2 := Lib.hid (HE1.out.ext hw2); have HRR2 := Lib.hid (hw2.heap HRR.out (by simp))
            clear hw2 xl xk xp
            go_wp2
            go_roundg (fs.length - (k + 1))
            case measure => have := HMK.out; omega
            case rel => exact ⟨k + 1, A6, c6, Q, F6, by have := HMK.out; omega, rfl, by go_num, Lib.hid (HRS.out.more HE2.out), HUQ⟩
        have a3b : decide (lsn < fr) = false := decide_eq_false (by omega)
        by_cases a4 : pl < lsn
        rotate_left
        · have a4b : decide (lsn ≤ pl) = true := decide_eq_true (by omega)
          as_aux_lemma =>
            have HUQ := Lib.hid (show redoUp fs num fr p (k + 1) = some Q by rw [HST.out]; exact if_neg (by rintro ⟨h1, h2, h3, h4⟩; exact a4 (by rw [HPLE.out]; exact h4)))
            go_wp2_with fail
            generalize hW : (wr.alloc (.cells #[.int .i64 1, .int .i64 tx, .int .i64 pv, .int .i64 num, .int .i64 sl, .bool u1, .slice A1 d1.length c1, .bool u2, .slice A2 d2.length c2, .int .i64 un, .int .i64 nt, .slice A3 ts.length c3, .slice A4 ds.length c4, .slice A5 im.length c5] 49)) = W1
            have hE1 : Ext wr W1 := hW ▸ (alloc_ext _ _)
            have hrr : W1.heap[wr.heap.size]? = some (.cells #[.int .i64 1, .int .i64 tx, .int .i64 pv, .int .i64 num, .int .i64 sl, .bool u1, .slice A1 d1.length c1, .bool u2, .slice A2 d2.length c2, .int .i64 un, .int .i64 nt, .slice A3 ts.length c3, .slice A4 ds.length c4, .slice A5 im.length c5] 49 (0, 0)) := hW ▸ heap_alloc_new _ _
            have xl := hE1.ecell e0
            have xk : W1.cell? ⟨wr.heap.size, 0, none⟩ = some (.int .i64 1) := cell_of_row _ _ 0 _ _ _ hrr
            have xp : W1.cell? ⟨wr.heap.size, 3, none⟩ = some (.int .i64 num) := cell_of_row _ _ 3 _ _ _ hrr
            have HE1 := Lib.hid hE1; have HRR := Lib.hid hrr
            clear hW hE1 hrr
            refine region_ext (by kernel_rfl) (by kernel_rfl) ?_
            repeat (first
              | (refine WQ.skip (by rfl) ?_
                 try simp only [Act.put, List.setIfInBounds_toArray, List.set_cons_zero, List.set_cons_succ])
              | (refine WQ.take ?_ (by rfl) (fun w' hw => ?_) ?_
                 rotate_left
                 · have cq0 := hw.ecell xl
                   have cq1 := hw.ecell xk
                   have cq2 := hw.ecell xp
                   unfold Oper.quietAt
                   go_simp
                   first
                     | done
                     | exact ⟨rfl, rfl⟩
                     | exact rfl
                 try simp only [Act.put, List.setIfInBounds_toArray, List.set_cons_zero, List.set_cons_succ])
              | (refine WQ.take ((.int .i64 pl)) (by rfl) (fun w' hw => ?_) ?_
                 · unfold Oper.quietAt
                   go_simp
                   go_at_call 97
                   exact ((HPL.out _ (HE1.out.ext hw)).mono (fun e w5 h5 => ⟨h5.1, hw.ext h5.2⟩))
                 try simp only [Act.put, List.setIfInBounds_toArray, List.set_cons_zero, List.set_cons_succ]))
            refine WQ.nil ?_
            intro w2 hw2
            have HE2 := Lib.hid (HE1.out.ext hw2); have HRR2 := Lib.hid (hw2.heap HRR.out (by simp))
            clear hw2 xl xk xp
            go_wp2
            go_roundg (fs.length - (k + 1))
            case measure => have := HMK.out; omega
            case rel => exact ⟨k + 1, A6, c6, Q, F6, by have := HMK.out; omega, rfl, by go_num, Lib.hid (HRS.out.more HE2.out), HUQ⟩
        have a4b : decide (lsn ≤ pl) = false := decide_eq_false (by omega)
        as_aux_lemma =>
          have HSEL := Lib.hid (show redoStep num fr Q ⟨lsn, ep, ⟨1, tx, pv, num, sl, ⟨u1, d1⟩, ⟨u2, d2⟩, un, nt, ts, ds, im⟩⟩ = (if R.Code = 0 then some R.Page else none) by rw [HR.out]; exact if_pos ⟨by simp, rfl, a3, by rw [← HPLE.out]; exact a4⟩)
          go_wp2_with fail
          generalize hW : (wr.alloc (.cells #[.int .i64 1, .int .i64 tx, .int .i64 pv, .int .i64 num, .int .i64 sl, .bool u1, .slice A1 d1.length c1, .bool u2, .slice A2 d2.length c2, .int .i64 un, .int .i64 nt, .slice A3 ts.length c3, .slice A4 ds.length c4, .slice A5 im.length c5] 49)) = W1
          have hE1 : Ext wr W1 := hW ▸ (alloc_ext _ _)
          have hrr : W1.heap[wr.heap.size]? = some (.cells #[.int .i64 1, .int .i64 tx, .int .i64 pv, .int .i64 num, .int .i64 sl, .bool u1, .slice A1 d1.length c1, .bool u2, .slice A2 d2.length c2, .int .i64 un, .int .i64 nt, .slice A3 ts.length c3, .slice A4 ds.length c4, .slice A5 im.length c5] 49 (0, 0)) := hW ▸ heap_alloc_new _ _
          have xl := hE1.ecell e0
          have xk : W1.cell? ⟨wr.heap.size, 0, none⟩ = some (.int .i64 1) := cell_of_row _ _ 0 _ _ _ hrr
          have xp : W1.cell? ⟨wr.heap.size, 3, none⟩ = some (.int .i64 num) := cell_of_row _ _ 3 _ _ _ hrr
          have HE1 := Lib.hid hE1; have HRR := Lib.hid hrr
          clear hW hE1 hrr
          refine region_ext (by kernel_rfl) (by kernel_rfl) ?_
          repeat (first
            | (refine WQ.skip (by rfl) ?_
               try simp only [Act.put, List.setIfInBounds_toArray, List.set_cons_zero, List.set_cons_succ])
            | (refine WQ.take ?_ (by rfl) (fun w' hw => ?_) ?_
               rotate_left
               · have cq0 := hw.ecell xl
                 have cq1 := hw.ecell xk
                 have cq2 := hw.ecell xp
                 unfold Oper.quietAt
                 go_simp
                 first
                   | done
                   | exact ⟨rfl, rfl⟩
                   | exact rfl
               try simp only [Act.put, List.setIfInBounds_toArray, List.set_cons_zero, List.set_cons_succ])
            | (refine WQ.take ((.int .i64 pl)) (by rfl) (fun w' hw => ?_) ?_
               · unfold Oper.quietAt
                 go_simp
                 go_at_call 97
                 exact ((HPL.out _ (HE1.out.ext hw)).mono (fun e w5 h5 => ⟨h5.1, hw.ext h5.2⟩))
               try simp only [Act.put, List.setIfInBounds_toArray, List.set_cons_zero, List.set_cons_succ]))
          refine WQ.nil ?_
          intro w2 hw2
          have HE2 := Lib.hid (HE1.out.ext hw2); have HRR2 := Lib.hid (hw2.heap HRR.out (by simp))
          clear hw2 xl xk xp
          have y4 := cell_of_row _ _ 4 _ _ _ HRR2.out; have y7 := cell_of_row _ _ 7 _ _ _ HRR2.out; have y8 := cell_of_row _ _ 8 _ _ _ HRR2.out; have yl := HE2.out.ecell e0
          simp only [List.getElem?_toArray, List.getElem?_cons_succ, List.getElem?_cons_zero] at y4 y7 y8
          obtain ⟨W2, hW2⟩ : ∃ W, W = w2 := ⟨_, rfl⟩
          go_wp2_with fail
          go_cut [12] from 64 to 74 (fun q wx => ∃ (wn : World) (b : Nat) (A : Option Addr) (c : Nat) (F : List Nat), wn = wx ∧ q = .pointer (some ⟨b, 0, none⟩) ∧ Hid (Rl w2 wn b R A c F) ∧ Hid (New w2 wn F))
          case first =>
            have HX := Lib.hid (show Ext w2 w2.drew from (Only.refl _ _).drew)
            go_region_held3 (fun w' => w'.cell? ⟨wr.heap.size, 4, none⟩ = some (.int .i64 sl) ∧ w'.cell? ⟨wr.heap.size, 7, none⟩ = some (.bool u2) ∧ w'.cell? ⟨wr.heap.size, 8, none⟩ = some (.slice A2 d2.length c2) ∧ w'.cell? ⟨g, off + k * 16, none⟩ = some (.int .i64 lsn))
              (first | go_keep | exact ⟨HX.out.ecell y4, HX.out.ecell y7, HX.out.ecell y8, HX.out.ecell yl⟩ | exact ⟨(HX.out.alloc _).ecell y4, (HX.out.alloc _).ecell y7, (HX.out.alloc _).ecell y8, (HX.out.alloc _).ecell yl⟩ | exact ⟨set2_cell (HX.out.ecell y4) (Nat.ne_of_lt (Nat.lt_of_lt_of_le (block_lt_of_cell y4) HBG.out)), set2_cell (HX.out.ecell y7) (Nat.ne_of_lt (Nat.lt_of_lt_of_le (block_lt_of_cell y7) HBG.out)), set2_cell (HX.out.ecell y8) (Nat.ne_of_lt (Nat.lt_of_lt_of_le (block_lt_of_cell y8) HBG.out)), set2_cell (HX.out.ecell yl) (Nat.ne_of_lt (Nat.lt_of_lt_of_le (block_lt_of_cell yl) HBG.out))⟩)
              (first
                | (go_at_call 18; refine (HPS.out _ (Only.ext HE2.out (by repeat (first | with_reducible exact HX.out | with_reducible exact Only.refl _ _ | with_reducible apply Only.alloc | with_reducible apply Only.drew)))).mono ?_; rintro e wC ⟨vC, FC, rfl, hVC, hNC⟩; obtain ⟨_, ⟨AC, cC, FdC, rfl, rfl, wfC, sC⟩, hvC⟩ := hVC; replace hvC : vC = .agg #[_, _] := hvC; subst hvC; have HN2 := Lib.hid (show New w2 wC _ from New.of (by repeat (first | with_reducible exact HX.out | with_reducible exact Only.refl _ _ | with_reducible apply Only.alloc | with_reducible apply Only.drew)) hNC); (first | have HBN := Lib.hid (notin_old hNC (heap_alloc_new _ _)) | skip); (first | (have HBR := Lib.hid (hNC.ext.heap (heap_alloc_new _ _) (by simp)); have HBG := Lib.hid (show w2.heap.size ≤ _ from HX.out.size)) | skip); (try have mb := fun o => cell_of_row _ _ o _ _ _ HBR.out); (try have fb := fun o => frozen_of_row _ _ o _ _ HBR.out); replace HX := Lib.hid (show Ext w2 wC from Only.ext (by repeat (first | with_reducible exact HX.out | with_reducible exact Only.refl _ _ | with_reducible apply Only.alloc | with_reducible apply Only.drew)) hNC.ext)))
            all_goals
              go_wp2_with fail
              go_meet
              first
                | exact ⟨_, _, AC, cC, _, rfl, rfl, Lib.hid (Rl.alloc HX.out wfC sC), Lib.hid (HN2.out.al (fun b hb => Rep.sl_lt sC b hb) _)⟩
                | exact ⟨_, _, AC, cC, _, rfl, rfl, Lib.hid (Rl.set HX.out wfC sC HBG.out HBR.out rfl HBN.out), Lib.hid (HN2.out.onto (fun b hb => Rep.sl_lt sC b hb) set2_only HBG.out HBN.out)⟩
          obtain ⟨w3, b3, A7, c7, F3, rfl, rfl, HRL3, HN3⟩ := hcut
          have z0 := cell_of_row _ _ 0 _ _ _ HRL3.out.row
          have z1 := cell_of_row _ _ 1 _ _ _ HRL3.out.row
          simp only [List.getElem?_toArray, List.getElem?_cons_succ, List.getElem?_cons_zero] at z0 z1
          clear y4 y7 y8 yl
          by_cases hc : R.Code = 0
          · have HUQ := Lib.hid (show redoUp fs num fr p (k + 1) = some R.Page by rw [HST.out, HSEL.out, if_pos hc])
            have hrl : R.Page.length = 4096 := by rw [HR.out] at hc ⊢; exact pageSet_len hc
            have hcb : (R.Code != 0) = false := by simp [hc]
            rw [hrl] at z1
            clear hc hrl
            go_wp2
            go_roundg (fs.length - (k + 1))
            case measure => have := HMK.out; omega
            case rel => exact ⟨k + 1, A7, c7, R.Page, F3, by have := HMK.out; omega, rfl, by go_num, Lib.hid ((HRS.out.more HE2.out).swap HRL3.out.sl HN3.out (by
                have h := HUQ.out
                exact redoUp_len HLEN.out _ _ h)), HUQ⟩
          · have HUQ := Lib.hid (show redoUp fs num fr p (k + 1) = none by rw [HST.out, HSEL.out, if_neg hc])
            have hcb : (R.Code != 0) = true := bne_iff_ne.2 hc
            clear hc
            have hb3 := HRL3.out.ext.heap (HE2.out.heap HRS.out.res (by simp)) (by simp)
            have m := fun o => cell_of_row _ _ o _ _ _ hb3
            have f := fun o => frozen_of_row _ _ o _ _ hb3
            go_wp2
            refine bodyPost_ret (v := .agg #[.int .i64 2, .slice none 0 0]) (by simp [results, Tryd.results40, go_sem, m]) rfl ?_
            rw [show redoPage p num fs fr = ⟨2, []⟩ by rw [redoPage, if_neg HPF.out, redoUp_none HUQ.out fs.length (by have := HMK.out; omega)]]
            exact rdRes_code rfl (by repeat (first | with_reducible exact ((HRS.out.ext.ext HE2.out).ext HRL3.out.ext) | ((with_reducible apply Only.set); · first | (simp; done) | exact fun hq => absurd hq (by dsimp only; omega)) | (with_reducible apply Only.alloc)))
    · have hk : k = fs.length := by have := HMK.out; omega
      subst hk
      have m := fun o => cell_of_row _ _ o _ _ _ HRS.out.res
      have f := fun o => frozen_of_row _ _ o _ _ HRS.out.res
      go_wp2
      refine bodyPost_ret (v := .agg #[.int .i64 0, .slice A6 4096 c6]) (by simp [results, Tryd.results40, go_sem, m]) rfl ?_
      rw [show redoPage p num fs fr = ⟨0, Q⟩ by rw [redoPage, if_neg HPF.out, HUP.out]; exact if_pos HRS.out.len]
      exact rdRes_new HRS.out (by repeat (first | with_reducible exact Only.refl _ _ | ((with_reducible apply Only.set); · first | (simp; done) | exact fun hq => absurd hq (by dsimp only; omega)) | (with_reducible apply Only.alloc)))
end Go.Proofs.YtghgjddiheebeaaDoor
