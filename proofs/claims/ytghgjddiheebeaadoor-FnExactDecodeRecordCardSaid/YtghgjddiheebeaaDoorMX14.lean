/- Records: the tables of a checkpoint, both packages. -/
import Derived.Test.YtghgjddiheebeaaDoorMX13
import Derived.Test.YtghgjddiheebeaaDoorMFLogRecord
namespace Go.Proofs.YtghgjddiheebeaaDoor
open Go.RowKit
set_option linter.unusedSimpArgs false
set_option linter.unusedVariables false
theorem inC (w : World) (x lo hi : Int) (b : Bool) (h : inR x lo hi = b) : Calls Tryd.prog 77 #[.int .i64 x, .int .i64 lo, .int .i64 hi] w fun e w' => e = .returned (.bool b) ∧ w = w' := by
  rw [← h]; exact in_calls w x lo hi
theorem l4InC (w : World) (x lo hi : Int) (b : Bool) (h : inR x lo hi = b) : Calls Tryd.prog 70 #[.int .i64 x, .int .i64 lo, .int .i64 hi] w fun e w' => e = .returned (.bool b) ∧ w = w' := by
  rw [← h]; exact l4In_calls w x lo hi
def tB (fst : Bool) (pv tx st la un : Int) : Bool := (!fst && decide (tx ≤ pv)) || !inR tx 1 2147483647 || !inR st 1 3 || !inR la 1 1099511627776 || !inR un 0 la
def dB (fst : Bool) (pv pg rl : Int) : Bool := (!fst && decide (pg ≤ pv)) || !inR pg 0 15 || !inR rl 1 1099511627776
def tBad (ts : List DTxnEntry) (i : Nat) : Bool := match ts[i]? with
  | none => false
  | some t => tB (decide (i = 0)) ((ts[i - 1]?.map (·.Txn)).getD 0) t.Txn t.State t.Last t.UndoNext
def dBad (ds : List DDirtyEntry) (i : Nat) : Bool := match ds[i]? with
  | none => false
  | some t => dB (decide (i = 0)) ((ds[i - 1]?.map (·.Page)).getD 0) t.Page t.RecLSN
def tabBad (nt : Int) (ts : List DTxnEntry) (ds : List DDirtyEntry) : Bool :=
  !inR nt 1 2147483648 || decide (8 < ts.length) || decide (16 < ds.length) || (List.range ts.length).any (tBad ts) || (List.range ds.length).any (dBad ds)
theorem tBad_at {ts : List DTxnEntry} {k : Nat} (hk : k < ts.length) : tBad ts k = tB (decide (k = 0)) ((ts[k - 1]?.map (·.Txn)).getD 0) ts[k].Txn ts[k].State ts[k].Last ts[k].UndoNext := by
  rw [tBad, List.getElem?_eq_getElem hk]
theorem dBad_at {ts : List DDirtyEntry} {k : Nat} (hk : k < ts.length) : dBad ts k = dB (decide (k = 0)) ((ts[k - 1]?.map (·.Page)).getD 0) ts[k].Page ts[k].RecLSN := by
  rw [dBad, List.getElem?_eq_getElem hk]
theorem any_true {n k : Nat} {f : Nat → Bool} (hk : k < n) (h : f k = true) : (List.range n).any f = true := List.any_eq_true.2 ⟨k, List.mem_range.2 hk, h⟩
theorem any_false {n : Nat} {f : Nat → Bool} (h : ∀ k, k < n → f k = false) : (List.range n).any f = false := by
  rw [Bool.eq_false_iff]
  intro h1
  obtain ⟨k, hk, h2⟩ := List.any_eq_true.1 h1
  rw [h k (List.mem_range.1 hk)] at h2
  cases h2
set_option maxRecDepth 100000 in
set_option maxHeartbeats 8000000 in
theorem l4Tables_calls (w : World) (v0 v1 v2 v3 v4 v5 v6 v7 v8 v9 v13 : Value) (nt : Int) (A3 : Option Addr) (c3 : Nat) (ts : List DTxnEntry) (F3 : List Nat) (A4 : Option Addr) (c4 : Nat) (ds : List DDirtyEntry) (F4 : List Nat)
    (h3 : Rep.TxnEntry.sl w A3 c3 ts F3) (h4 : Rep.DirtyEntry.sl w A4 c4 ds F4) :
    Calls Tryd.prog 73 #[.agg #[v0, v1, v2, v3, v4, v5, v6, v7, v8, v9, .int .i64 nt, .slice A3 ts.length c3, .slice A4 ds.length c4, v13]] w fun e w' => e = .returned (.bool (!tabBad nt ts ds)) ∧ Ext w w' := by
  have hu := Tryd.underlying49
  have hu2 := Tryd.underlying104
  have hu3 := Tryd.underlying106
  obtain ⟨R, hR⟩ : ∃ R, R = (!tabBad nt ts ds) := ⟨_, rfl⟩
  rw [← hR]
  rw [tabBad] at hR
  by_cases a1 : inR nt 1 2147483648 = true
  case neg =>
    replace a1 : inR nt 1 2147483648 = false := by simpa using a1
    have HR := Lib.hid (show R = false by rw [hR, a1]; rfl)
    clear hR h3 h4
    go_enter Tryd.func73, Tryd.ntmps73
    go_wp2_with (go_at_call 70; refine (l4InC _ _ _ _ _ a1).mono ?_; rintro e w1 ⟨rfl, rfl⟩)
    go_ret
    exact ⟨by rw [HR.out]; rfl, (Only.refl _ _).alloc _⟩
  by_cases a2 : 8 < ts.length
  · have HR := Lib.hid (show R = false by rw [hR, a1, decide_eq_true a2]; rfl)
    have b2 : (8 : Int) < (ts.length : Int) := by omega
    clear hR h3 h4
    go_enter Tryd.func73, Tryd.ntmps73
    go_wp2_with (go_at_call 70; refine (l4InC _ _ _ _ _ a1).mono ?_; rintro e w1 ⟨rfl, rfl⟩)
    go_ret
    exact ⟨by rw [HR.out]; rfl, (Only.refl _ _).alloc _⟩
  by_cases a3 : 16 < ds.length
  · have HR := Lib.hid (show R = false by rw [hR, a1, decide_eq_false a2, decide_eq_true a3]; rfl)
    have b2 : ¬ (8 : Int) < (ts.length : Int) := by omega
    have b3 : (16 : Int) < (ds.length : Int) := by omega
    clear hR h3 h4
    go_enter Tryd.func73, Tryd.ntmps73
    go_wp2_with (go_at_call 70; refine (l4InC _ _ _ _ _ a1).mono ?_; rintro e w1 ⟨rfl, rfl⟩)
    go_ret
    exact ⟨by rw [HR.out]; rfl, (Only.refl _ _).alloc _⟩
  rw [a1, decide_eq_false a2, decide_eq_false a3] at hR
  have HRt := Lib.hid (show (List.range ts.length).any (tBad ts) = true → R = false from fun h => by rw [hR, h]; rfl)
  have HRd := Lib.hid (show (List.range ds.length).any (dBad ds) = true → R = false from fun h => by rw [hR, h]; simp)
  have HR0 := Lib.hid (show (List.range ts.length).any (tBad ts) = false → (List.range ds.length).any (dBad ds) = false → R = true from fun h h' => by rw [hR, h, h']; rfl)
  have b2 : ¬ (8 : Int) < (ts.length : Int) := by omega
  have b3 : ¬ (16 : Int) < (ds.length : Int) := by omega
  have H3 := Lib.hid (Rep.sl_ext h3 (alloc_ext w (.cells #[v0, v1, v2, v3, v4, v5, v6, v7, v8, v9, .int .i64 nt, .slice A3 ts.length c3, .slice A4 ds.length c4, v13] 49)))
  have H4 := Lib.hid (Rep.sl_ext h4 (alloc_ext w (.cells #[v0, v1, v2, v3, v4, v5, v6, v7, v8, v9, .int .i64 nt, .slice A3 ts.length c3, .slice A4 ds.length c4, v13] 49)))
  have HEW := Lib.hid (alloc_ext w (.cells #[v0, v1, v2, v3, v4, v5, v6, v7, v8, v9, .int .i64 nt, .slice A3 ts.length c3, .slice A4 ds.length c4, v13] 49))
  have M11 := Lib.hid (alloc_cell (Only.refl [] (w.alloc (.cells #[v0, v1, v2, v3, v4, v5, v6, v7, v8, v9, .int .i64 nt, .slice A3 ts.length c3, .slice A4 ds.length c4, v13] 49))) 11)
  have M12 := Lib.hid (alloc_cell (Only.refl [] (w.alloc (.cells #[v0, v1, v2, v3, v4, v5, v6, v7, v8, v9, .int .i64 nt, .slice A3 ts.length c3, .slice A4 ds.length c4, v13] 49))) 12)
  clear hR h3 h4
  go_enter Tryd.func73, Tryd.ntmps73
  go_wp2_with (go_at_call 70; refine (l4InC _ _ _ _ _ a1).mono ?_; rintro e w1 ⟨rfl, rfl⟩)
  generalize w.alloc (.cells #[v0, v1, v2, v3, v4, v5, v6, v7, v8, v9, .int .i64 nt, .slice A3 ts.length c3, .slice A4 ds.length c4, v13] 49) = W0 at *
  go_loopg [3] ts.length (fun m i wr => ∃ k : Nat, m + k = ts.length ∧ i = .int .i64 k ∧ Hid (∀ j, j < k → tBad ts j = false) ∧ Ext W0 wr)
  case atStart => exact ⟨0, by simp, rfl, Lib.hid (fun j hj => absurd hj (by omega)), Only.refl _ _⟩
  case round =>
    obtain ⟨k, hmk, rfl, HG, hE⟩ := hrel
    have HE := Lib.hid hE; have HMK := Lib.hid hmk
    clear hE hmk
    have m0 := HE.out.ecell M11.out
    by_cases hlt : (k : Int) < (ts.length : Int)
    · have hk : k < ts.length := by omega
      obtain ⟨g, off, rfl, hg, hwf, e0, e1, e2, e3⟩ := sl_TxnEntry (Rep.sl_ext H3.out HE.out) k hk
      have hbk := tBad_at hk
      have HB := Lib.hid hbk
      have hin : ∀ j, j + 1 = k → ∃ pv, ts[k - 1]?.map (·.Txn) = some pv ∧ wr.cell? ⟨g, off + j * 4, none⟩ = some (.int .i64 pv) := by
        intro j hj
        obtain ⟨g', off', e', -, -, f0, f1, f2, f3⟩ := sl_TxnEntry (Rep.sl_ext H3.out HE.out) j (by omega)
        injection e' with e'
        injection e' with e1' e2'
        subst e1'; subst e2'
        exact ⟨_, by rw [show k - 1 = j by omega, List.getElem?_eq_getElem (by omega)]; rfl, f0⟩
      have HIN := Lib.hid hin
      generalize ts[k].Txn = tx at *
      generalize ts[k].State = st at *
      generalize ts[k].Last = la at *
      generalize ts[k].UndoNext = un at *
      clear hbk hwf hin
      have hfst : (k = 0 ∧ Hid (decide (k = 0) = true)) ∨ (∃ j, j + 1 = k ∧ Hid (decide (k = 0) = false)) := by
        rcases k with _ | j
        · exact .inl ⟨rfl, Lib.hid rfl⟩
        · exact .inr ⟨j, rfl, Lib.hid (by simp)⟩
      rcases hfst with ⟨hk0, HF⟩ | ⟨j, hj, HF⟩
      ·
        obtain ⟨P, hP⟩ : ∃ P, (ts[k - 1]?.map (·.Txn)).getD 0 = P := ⟨_, rfl⟩
        rw [hP] at HB
        clear hP
        have z0 : decide (0 < k) = false := decide_eq_false (by omega)
        clear hk0
        by_cases a0 : inR tx 1 2147483647 = true
        rotate_left
        · replace a0 : inR tx 1 2147483647 = false := by simpa using a0
          have HBK := Lib.hid (show tBad ts k = true from by rw [HB.out, HF.out, tB]; simp [a0])
          go_wp2_with fail
          generalize hW : wr.alloc (.cells #[.int .i64 tx, .int .i64 st, .int .i64 la, .int .i64 un] 104) = W1
          have hE1 : Ext wr W1 := hW ▸ alloc_ext _ _
          have x0 : W1.cell? ⟨wr.heap.size, 0, none⟩ = some (.int .i64 tx) := by rw [← hW]; exact alloc_cell (Only.refl _ _) 0
          have x1 : W1.cell? ⟨wr.heap.size, 1, none⟩ = some (.int .i64 st) := by rw [← hW]; exact alloc_cell (Only.refl _ _) 1
          have x2 : W1.cell? ⟨wr.heap.size, 2, none⟩ = some (.int .i64 la) := by rw [← hW]; exact alloc_cell (Only.refl _ _) 2
          have x3 : W1.cell? ⟨wr.heap.size, 3, none⟩ = some (.int .i64 un) := by rw [← hW]; exact alloc_cell (Only.refl _ _) 3
          have x9 := hE1.ecell m0
          have HE1 := Lib.hid (HE.out.ext hE1)
          clear hW hE1
          refine region_ext (by kernel_rfl) (by kernel_rfl) ?_
          repeat (first
            | (refine WQ.skip (by rfl) ?_
               try simp only [Act.put, List.setIfInBounds_toArray, List.set_cons_zero, List.set_cons_succ])
            | (refine WQ.take ?_ (by rfl) (fun w' hw => ?_) ?_
               rotate_left
               · have cq0 := hw.ecell x0
                 have cq1 := hw.ecell x1
                 have cq2 := hw.ecell x2
                 have cq3 := hw.ecell x3
                 have cq4 := hw.ecell x9
                 unfold Oper.quietAt
                 go_simp
                 first
                   | done
                   | exact ⟨rfl, rfl⟩
                   | exact rfl
               try simp only [Act.put, List.setIfInBounds_toArray, List.set_cons_zero, List.set_cons_succ])
            | (refine WQ.take ((.bool false)) (by rfl) (fun w' hw => ?_) ?_
               · unfold Oper.quietAt
                 go_simp
                 go_at_call_of 70 (tx)
                 exact ((l4InC _ _ _ _ _ a0).mono (fun e w5 h5 => ⟨h5.1, h5.2 ▸ hw⟩))
               try simp only [Act.put, List.setIfInBounds_toArray, List.set_cons_zero, List.set_cons_succ]))
          refine WQ.nil ?_
          intro w2 hw2
          have HE2 := Lib.hid (HE1.out.ext hw2)
          clear hw2
          go_wp2
          go_ret
          exact ⟨by rw [HRt.out (any_true hk HBK.out)]; rfl, HEW.out.ext HE2.out⟩
        by_cases a1 : inR st 1 3 = true
        rotate_left
        · replace a1 : inR st 1 3 = false := by simpa using a1
          have HBK := Lib.hid (show tBad ts k = true from by rw [HB.out, HF.out, tB]; simp [a0, a1])
          go_wp2_with fail
          generalize hW : wr.alloc (.cells #[.int .i64 tx, .int .i64 st, .int .i64 la, .int .i64 un] 104) = W1
          have hE1 : Ext wr W1 := hW ▸ alloc_ext _ _
          have x0 : W1.cell? ⟨wr.heap.size, 0, none⟩ = some (.int .i64 tx) := by rw [← hW]; exact alloc_cell (Only.refl _ _) 0
          have x1 : W1.cell? ⟨wr.heap.size, 1, none⟩ = some (.int .i64 st) := by rw [← hW]; exact alloc_cell (Only.refl _ _) 1
          have x2 : W1.cell? ⟨wr.heap.size, 2, none⟩ = some (.int .i64 la) := by rw [← hW]; exact alloc_cell (Only.refl _ _) 2
          have x3 : W1.cell? ⟨wr.heap.size, 3, none⟩ = some (.int .i64 un) := by rw [← hW]; exact alloc_cell (Only.refl _ _) 3
          have x9 := hE1.ecell m0
          have HE1 := Lib.hid (HE.out.ext hE1)
          clear hW hE1
          refine region_ext (by kernel_rfl) (by kernel_rfl) ?_
          repeat (first
            | (refine WQ.skip (by rfl) ?_
               try simp only [Act.put, List.setIfInBounds_toArray, List.set_cons_zero, List.set_cons_succ])
            | (refine WQ.take ?_ (by rfl) (fun w' hw => ?_) ?_
               rotate_left
               · have cq0 := hw.ecell x0
                 have cq1 := hw.ecell x1
                 have cq2 := hw.ecell x2
                 have cq3 := hw.ecell x3
                 have cq4 := hw.ecell x9
                 unfold Oper.quietAt
                 go_simp
                 first
                   | done
                   | exact ⟨rfl, rfl⟩
                   | exact rfl
               try simp only [Act.put, List.setIfInBounds_toArray, List.set_cons_zero, List.set_cons_succ])
            | (refine WQ.take ((.bool false)) (by rfl) (fun w' hw => ?_) ?_
               · unfold Oper.quietAt
                 go_simp
                 go_at_call_of 70 (st)
                 exact ((l4InC _ _ _ _ _ a1).mono (fun e w5 h5 => ⟨h5.1, h5.2 ▸ hw⟩))
               try simp only [Act.put, List.setIfInBounds_toArray, List.set_cons_zero, List.set_cons_succ])
            | (refine WQ.take ((.bool true)) (by rfl) (fun w' hw => ?_) ?_
               · unfold Oper.quietAt
                 go_simp
                 go_at_call_of 70 (tx)
                 exact ((l4InC _ _ _ _ _ a0).mono (fun e w5 h5 => ⟨h5.1, h5.2 ▸ hw⟩))
               try simp only [Act.put, List.setIfInBounds_toArray, List.set_cons_zero, List.set_cons_succ]))
          refine WQ.nil ?_
          intro w2 hw2
          have HE2 := Lib.hid (HE1.out.ext hw2)
          clear hw2
          go_wp2
          go_ret
          exact ⟨by rw [HRt.out (any_true hk HBK.out)]; rfl, HEW.out.ext HE2.out⟩
        by_cases a2 : inR la 1 1099511627776 = true
        rotate_left
        · replace a2 : inR la 1 1099511627776 = false := by simpa using a2
          have HBK := Lib.hid (show tBad ts k = true from by rw [HB.out, HF.out, tB]; simp [a0, a1, a2])
          go_wp2_with fail
          generalize hW : wr.alloc (.cells #[.int .i64 tx, .int .i64 st, .int .i64 la, .int .i64 un] 104) = W1
          have hE1 : Ext wr W1 := hW ▸ alloc_ext _ _
          have x0 : W1.cell? ⟨wr.heap.size, 0, none⟩ = some (.int .i64 tx) := by rw [← hW]; exact alloc_cell (Only.refl _ _) 0
          have x1 : W1.cell? ⟨wr.heap.size, 1, none⟩ = some (.int .i64 st) := by rw [← hW]; exact alloc_cell (Only.refl _ _) 1
          have x2 : W1.cell? ⟨wr.heap.size, 2, none⟩ = some (.int .i64 la) := by rw [← hW]; exact alloc_cell (Only.refl _ _) 2
          have x3 : W1.cell? ⟨wr.heap.size, 3, none⟩ = some (.int .i64 un) := by rw [← hW]; exact alloc_cell (Only.refl _ _) 3
          have x9 := hE1.ecell m0
          have HE1 := Lib.hid (HE.out.ext hE1)
          clear hW hE1
          refine region_ext (by kernel_rfl) (by kernel_rfl) ?_
          repeat (first
            | (refine WQ.skip (by rfl) ?_
               try simp only [Act.put, List.setIfInBounds_toArray, List.set_cons_zero, List.set_cons_succ])
            | (refine WQ.take ?_ (by rfl) (fun w' hw => ?_) ?_
               rotate_left
               · have cq0 := hw.ecell x0
                 have cq1 := hw.ecell x1
                 have cq2 := hw.ecell x2
                 have cq3 := hw.ecell x3
                 have cq4 := hw.ecell x9
                 unfold Oper.quietAt
                 go_simp
                 first
                   | done
                   | exact ⟨rfl, rfl⟩
                   | exact rfl
               try simp only [Act.put, List.setIfInBounds_toArray, List.set_cons_zero, List.set_cons_succ])
            | (refine WQ.take ((.bool false)) (by rfl) (fun w' hw => ?_) ?_
               · unfold Oper.quietAt
                 go_simp
                 go_at_call_of 70 (la)
                 exact ((l4InC _ _ _ _ _ a2).mono (fun e w5 h5 => ⟨h5.1, h5.2 ▸ hw⟩))
               try simp only [Act.put, List.setIfInBounds_toArray, List.set_cons_zero, List.set_cons_succ])
            | (refine WQ.take ((.bool true)) (by rfl) (fun w' hw => ?_) ?_
               · unfold Oper.quietAt
                 go_simp
                 go_at_call_of 70 (st)
                 exact ((l4InC _ _ _ _ _ a1).mono (fun e w5 h5 => ⟨h5.1, h5.2 ▸ hw⟩))
               try simp only [Act.put, List.setIfInBounds_toArray, List.set_cons_zero, List.set_cons_succ])
            | (refine WQ.take ((.bool true)) (by rfl) (fun w' hw => ?_) ?_
               · unfold Oper.quietAt
                 go_simp
                 go_at_call_of 70 (tx)
                 exact ((l4InC _ _ _ _ _ a0).mono (fun e w5 h5 => ⟨h5.1, h5.2 ▸ hw⟩))
               try simp only [Act.put, List.setIfInBounds_toArray, List.set_cons_zero, List.set_cons_succ]))
          refine WQ.nil ?_
          intro w2 hw2
          have HE2 := Lib.hid (HE1.out.ext hw2)
          clear hw2
          go_wp2
          go_ret
          exact ⟨by rw [HRt.out (any_true hk HBK.out)]; rfl, HEW.out.ext HE2.out⟩
        by_cases a3 : inR un 0 la = true
        rotate_left
        · replace a3 : inR un 0 la = false := by simpa using a3
          have HBK := Lib.hid (show tBad ts k = true from by rw [HB.out, HF.out, tB]; simp [a0, a1, a2, a3])
          go_wp2_with fail
          generalize hW : wr.alloc (.cells #[.int .i64 tx, .int .i64 st, .int .i64 la, .int .i64 un] 104) = W1
          have hE1 : Ext wr W1 := hW ▸ alloc_ext _ _
          have x0 : W1.cell? ⟨wr.heap.size, 0, none⟩ = some (.int .i64 tx) := by rw [← hW]; exact alloc_cell (Only.refl _ _) 0
          have x1 : W1.cell? ⟨wr.heap.size, 1, none⟩ = some (.int .i64 st) := by rw [← hW]; exact alloc_cell (Only.refl _ _) 1
          have x2 : W1.cell? ⟨wr.heap.size, 2, none⟩ = some (.int .i64 la) := by rw [← hW]; exact alloc_cell (Only.refl _ _) 2
          have x3 : W1.cell? ⟨wr.heap.size, 3, none⟩ = some (.int .i64 un) := by rw [← hW]; exact alloc_cell (Only.refl _ _) 3
          have x9 := hE1.ecell m0
          have HE1 := Lib.hid (HE.out.ext hE1)
          clear hW hE1
          refine region_ext (by kernel_rfl) (by kernel_rfl) ?_
          repeat (first
            | (refine WQ.skip (by rfl) ?_
               try simp only [Act.put, List.setIfInBounds_toArray, List.set_cons_zero, List.set_cons_succ])
            | (refine WQ.take ?_ (by rfl) (fun w' hw => ?_) ?_
               rotate_left
               · have cq0 := hw.ecell x0
                 have cq1 := hw.ecell x1
                 have cq2 := hw.ecell x2
                 have cq3 := hw.ecell x3
                 have cq4 := hw.ecell x9
                 unfold Oper.quietAt
                 go_simp
                 first
                   | done
                   | exact ⟨rfl, rfl⟩
                   | exact rfl
               try simp only [Act.put, List.setIfInBounds_toArray, List.set_cons_zero, List.set_cons_succ])
            | (refine WQ.take ((.bool false)) (by rfl) (fun w' hw => ?_) ?_
               · unfold Oper.quietAt
                 go_simp
                 go_at_call_of 70 (un)
                 exact ((l4InC _ _ _ _ _ a3).mono (fun e w5 h5 => ⟨h5.1, h5.2 ▸ hw⟩))
               try simp only [Act.put, List.setIfInBounds_toArray, List.set_cons_zero, List.set_cons_succ])
            | (refine WQ.take ((.bool true)) (by rfl) (fun w' hw => ?_) ?_
               · unfold Oper.quietAt
                 go_simp
                 go_at_call_of 70 (la)
                 exact ((l4InC _ _ _ _ _ a2).mono (fun e w5 h5 => ⟨h5.1, h5.2 ▸ hw⟩))
               try simp only [Act.put, List.setIfInBounds_toArray, List.set_cons_zero, List.set_cons_succ])
            | (refine WQ.take ((.bool true)) (by rfl) (fun w' hw => ?_) ?_
               · unfold Oper.quietAt
                 go_simp
                 go_at_call_of 70 (st)
                 exact ((l4InC _ _ _ _ _ a1).mono (fun e w5 h5 => ⟨h5.1, h5.2 ▸ hw⟩))
               try simp only [Act.put, List.setIfInBounds_toArray, List.set_cons_zero, List.set_cons_succ])
            | (refine WQ.take ((.bool true)) (by rfl) (fun w' hw => ?_) ?_
               · unfold Oper.quietAt
                 go_simp
                 go_at_call_of 70 (tx)
                 exact ((l4InC _ _ _ _ _ a0).mono (fun e w5 h5 => ⟨h5.1, h5.2 ▸ hw⟩))
               try simp only [Act.put, List.setIfInBounds_toArray, List.set_cons_zero, List.set_cons_succ]))
          refine WQ.nil ?_
          intro w2 hw2
          have HE2 := Lib.hid (HE1.out.ext hw2)
          clear hw2
          go_wp2
          go_ret
          exact ⟨by rw [HRt.out (any_true hk HBK.out)]; rfl, HEW.out.ext HE2.out⟩
        ·
          have HBK := Lib.hid (show tBad ts k = false from by rw [HB.out, HF.out, tB]; simp [a0, a1, a2, a3])
          go_wp2_with fail
          generalize hW : wr.alloc (.cells #[.int .i64 tx, .int .i64 st, .int .i64 la, .int .i64 un] 104) = W1
          have hE1 : Ext wr W1 := hW ▸ alloc_ext _ _
          have x0 : W1.cell? ⟨wr.heap.size, 0, none⟩ = some (.int .i64 tx) := by rw [← hW]; exact alloc_cell (Only.refl _ _) 0
          have x1 : W1.cell? ⟨wr.heap.size, 1, none⟩ = some (.int .i64 st) := by rw [← hW]; exact alloc_cell (Only.refl _ _) 1
          have x2 : W1.cell? ⟨wr.heap.size, 2, none⟩ = some (.int .i64 la) := by rw [← hW]; exact alloc_cell (Only.refl _ _) 2
          have x3 : W1.cell? ⟨wr.heap.size, 3, none⟩ = some (.int .i64 un) := by rw [← hW]; exact alloc_cell (Only.refl _ _) 3
          have x9 := hE1.ecell m0
          have HE1 := Lib.hid (HE.out.ext hE1)
          clear hW hE1
          refine region_ext (by kernel_rfl) (by kernel_rfl) ?_
          repeat (first
            | (refine WQ.skip (by rfl) ?_
               try simp only [Act.put, List.setIfInBounds_toArray, List.set_cons_zero, List.set_cons_succ])
            | (refine WQ.take ?_ (by rfl) (fun w' hw => ?_) ?_
               rotate_left
               · have cq0 := hw.ecell x0
                 have cq1 := hw.ecell x1
                 have cq2 := hw.ecell x2
                 have cq3 := hw.ecell x3
                 have cq4 := hw.ecell x9
                 unfold Oper.quietAt
                 go_simp
                 first
                   | done
                   | exact ⟨rfl, rfl⟩
                   | exact rfl
               try simp only [Act.put, List.setIfInBounds_toArray, List.set_cons_zero, List.set_cons_succ])
            | (refine WQ.take ((.bool true)) (by rfl) (fun w' hw => ?_) ?_
               · unfold Oper.quietAt
                 go_simp
                 go_at_call_of 70 (un)
                 exact ((l4InC _ _ _ _ _ a3).mono (fun e w5 h5 => ⟨h5.1, h5.2 ▸ hw⟩))
               try simp only [Act.put, List.setIfInBounds_toArray, List.set_cons_zero, List.set_cons_succ])
            | (refine WQ.take ((.bool true)) (by rfl) (fun w' hw => ?_) ?_
               · unfold Oper.quietAt
                 go_simp
                 go_at_call_of 70 (la)
                 exact ((l4InC _ _ _ _ _ a2).mono (fun e w5 h5 => ⟨h5.1, h5.2 ▸ hw⟩))
               try simp only [Act.put, List.setIfInBounds_toArray, List.set_cons_zero, List.set_cons_succ])
            | (refine WQ.take ((.bool true)) (by rfl) (fun w' hw => ?_) ?_
               · unfold Oper.quietAt
                 go_simp
                 go_at_call_of 70 (st)
                 exact ((l4InC _ _ _ _ _ a1).mono (fun e w5 h5 => ⟨h5.1, h5.2 ▸ hw⟩))
               try simp only [Act.put, List.setIfInBounds_toArray, List.set_cons_zero, List.set_cons_succ])
            | (refine WQ.take ((.bool true)) (by rfl) (fun w' hw => ?_) ?_
               · unfold Oper.quietAt
                 go_simp
                 go_at_call_of 70 (tx)
                 exact ((l4InC _ _ _ _ _ a0).mono (fun e w5 h5 => ⟨h5.1, h5.2 ▸ hw⟩))
               try simp only [Act.put, List.setIfInBounds_toArray, List.set_cons_zero, List.set_cons_succ]))
          refine WQ.nil ?_
          intro w2 hw2
          have HE2 := Lib.hid (HE1.out.ext hw2)
          clear hw2
          go_wp2
          go_roundg (ts.length - (k + 1))
          case measure => have := HMK.out; omega
          case rel =>
            refine ⟨k + 1, by have := HMK.out; omega, rfl, Lib.hid (fun j hj => ?_), HE2.out⟩
            rcases Nat.lt_or_ge j k with h | h
            · exact HG.out j h
            · obtain rfl : j = k := by omega
              exact HBK.out
      ·
        obtain ⟨P, hP, cP⟩ := HIN.out j hj
        rw [hP] at HB
        replace HB := Lib.hid HB.out
        simp only [Option.getD_some] at HB
        clear hP
        have z0 : decide (0 < k) = true := decide_eq_true (by omega)
        have z1 : IntKind.i64.wrap ((k : Int) - 1) = (j : Int) := by rw [IntKind.wrap_i64]; omega
        have z2 : (0 : Int) ≤ (j : Int) := by omega
        have z3 : (j : Int) < (ts.length : Int) := by omega
        have z4 : (j : Int).toNat = j := by omega
        by_cases a0 : tx ≤ P
        · have d0 : decide (tx ≤ P) = true := decide_eq_true a0
          have HBK := Lib.hid (show tBad ts k = true from by rw [HB.out, HF.out, tB]; simp [a0])
          go_wp2_with fail
          generalize hW : wr.alloc (.cells #[.int .i64 tx, .int .i64 st, .int .i64 la, .int .i64 un] 104) = W1
          have hE1 : Ext wr W1 := hW ▸ alloc_ext _ _
          have x0 : W1.cell? ⟨wr.heap.size, 0, none⟩ = some (.int .i64 tx) := by rw [← hW]; exact alloc_cell (Only.refl _ _) 0
          have x1 : W1.cell? ⟨wr.heap.size, 1, none⟩ = some (.int .i64 st) := by rw [← hW]; exact alloc_cell (Only.refl _ _) 1
          have x2 : W1.cell? ⟨wr.heap.size, 2, none⟩ = some (.int .i64 la) := by rw [← hW]; exact alloc_cell (Only.refl _ _) 2
          have x3 : W1.cell? ⟨wr.heap.size, 3, none⟩ = some (.int .i64 un) := by rw [← hW]; exact alloc_cell (Only.refl _ _) 3
          have x9 := hE1.ecell m0
          have x8 := hE1.ecell cP
          have HE1 := Lib.hid (HE.out.ext hE1)
          clear hW hE1
          refine region_ext (by kernel_rfl) (by kernel_rfl) ?_
          repeat (first
            | (refine WQ.skip (by rfl) ?_
               try simp only [Act.put, List.setIfInBounds_toArray, List.set_cons_zero, List.set_cons_succ])
            | (refine WQ.take ?_ (by rfl) (fun w' hw => ?_) ?_
               rotate_left
               · have cq0 := hw.ecell x0
                 have cq1 := hw.ecell x1
                 have cq2 := hw.ecell x2
                 have cq3 := hw.ecell x3
                 have cq4 := hw.ecell x9
                 have cq5 := hw.ecell x8
                 unfold Oper.quietAt
                 go_simp
                 first
                   | done
                   | exact ⟨rfl, rfl⟩
                   | exact rfl
               try simp only [Act.put, List.setIfInBounds_toArray, List.set_cons_zero, List.set_cons_succ]))
          refine WQ.nil ?_
          intro w2 hw2
          have HE2 := Lib.hid (HE1.out.ext hw2)
          clear hw2
          go_wp2
          go_ret
          exact ⟨by rw [HRt.out (any_true hk HBK.out)]; rfl, HEW.out.ext HE2.out⟩
        have d0 : decide (tx ≤ P) = false := decide_eq_false a0
        by_cases a1 : inR tx 1 2147483647 = true
        rotate_left
        · replace a1 : inR tx 1 2147483647 = false := by simpa using a1
          have HBK := Lib.hid (show tBad ts k = true from by rw [HB.out, HF.out, tB]; simp [a0, a1])
          go_wp2_with fail
          generalize hW : wr.alloc (.cells #[.int .i64 tx, .int .i64 st, .int .i64 la, .int .i64 un] 104) = W1
          have hE1 : Ext wr W1 := hW ▸ alloc_ext _ _
          have x0 : W1.cell? ⟨wr.heap.size, 0, none⟩ = some (.int .i64 tx) := by rw [← hW]; exact alloc_cell (Only.refl _ _) 0
          have x1 : W1.cell? ⟨wr.heap.size, 1, none⟩ = some (.int .i64 st) := by rw [← hW]; exact alloc_cell (Only.refl _ _) 1
          have x2 : W1.cell? ⟨wr.heap.size, 2, none⟩ = some (.int .i64 la) := by rw [← hW]; exact alloc_cell (Only.refl _ _) 2
          have x3 : W1.cell? ⟨wr.heap.size, 3, none⟩ = some (.int .i64 un) := by rw [← hW]; exact alloc_cell (Only.refl _ _) 3
          have x9 := hE1.ecell m0
          have x8 := hE1.ecell cP
          have HE1 := Lib.hid (HE.out.ext hE1)
          clear hW hE1
          refine region_ext (by kernel_rfl) (by kernel_rfl) ?_
          repeat (first
            | (refine WQ.skip (by rfl) ?_
               try simp only [Act.put, List.setIfInBounds_toArray, List.set_cons_zero, List.set_cons_succ])
            | (refine WQ.take ?_ (by rfl) (fun w' hw => ?_) ?_
               rotate_left
               · have cq0 := hw.ecell x0
                 have cq1 := hw.ecell x1
                 have cq2 := hw.ecell x2
                 have cq3 := hw.ecell x3
                 have cq4 := hw.ecell x9
                 have cq5 := hw.ecell x8
                 unfold Oper.quietAt
                 go_simp
                 first
                   | done
                   | exact ⟨rfl, rfl⟩
                   | exact rfl
               try simp only [Act.put, List.setIfInBounds_toArray, List.set_cons_zero, List.set_cons_succ])
            | (refine WQ.take ((.bool false)) (by rfl) (fun w' hw => ?_) ?_
               · unfold Oper.quietAt
                 go_simp
                 go_at_call_of 70 (tx)
                 exact ((l4InC _ _ _ _ _ a1).mono (fun e w5 h5 => ⟨h5.1, h5.2 ▸ hw⟩))
               try simp only [Act.put, List.setIfInBounds_toArray, List.set_cons_zero, List.set_cons_succ]))
          refine WQ.nil ?_
          intro w2 hw2
          have HE2 := Lib.hid (HE1.out.ext hw2)
          clear hw2
          go_wp2
          go_ret
          exact ⟨by rw [HRt.out (any_true hk HBK.out)]; rfl, HEW.out.ext HE2.out⟩
        by_cases a2 : inR st 1 3 = true
        rotate_left
        · replace a2 : inR st 1 3 = false := by simpa using a2
          have HBK := Lib.hid (show tBad ts k = true from by rw [HB.out, HF.out, tB]; simp [a0, a1, a2])
          go_wp2_with fail
          generalize hW : wr.alloc (.cells #[.int .i64 tx, .int .i64 st, .int .i64 la, .int .i64 un] 104) = W1
          have hE1 : Ext wr W1 := hW ▸ alloc_ext _ _
          have x0 : W1.cell? ⟨wr.heap.size, 0, none⟩ = some (.int .i64 tx) := by rw [← hW]; exact alloc_cell (Only.refl _ _) 0
          have x1 : W1.cell? ⟨wr.heap.size, 1, none⟩ = some (.int .i64 st) := by rw [← hW]; exact alloc_cell (Only.refl _ _) 1
          have x2 : W1.cell? ⟨wr.heap.size, 2, none⟩ = some (.int .i64 la) := by rw [← hW]; exact alloc_cell (Only.refl _ _) 2
          have x3 : W1.cell? ⟨wr.heap.size, 3, none⟩ = some (.int .i64 un) := by rw [← hW]; exact alloc_cell (Only.refl _ _) 3
          have x9 := hE1.ecell m0
          have x8 := hE1.ecell cP
          have HE1 := Lib.hid (HE.out.ext hE1)
          clear hW hE1
          refine region_ext (by kernel_rfl) (by kernel_rfl) ?_
          repeat (first
            | (refine WQ.skip (by rfl) ?_
               try simp only [Act.put, List.setIfInBounds_toArray, List.set_cons_zero, List.set_cons_succ])
            | (refine WQ.take ?_ (by rfl) (fun w' hw => ?_) ?_
               rotate_left
               · have cq0 := hw.ecell x0
                 have cq1 := hw.ecell x1
                 have cq2 := hw.ecell x2
                 have cq3 := hw.ecell x3
                 have cq4 := hw.ecell x9
                 have cq5 := hw.ecell x8
                 unfold Oper.quietAt
                 go_simp
                 first
                   | done
                   | exact ⟨rfl, rfl⟩
                   | exact rfl
               try simp only [Act.put, List.setIfInBounds_toArray, List.set_cons_zero, List.set_cons_succ])
            | (refine WQ.take ((.bool false)) (by rfl) (fun w' hw => ?_) ?_
               · unfold Oper.quietAt
                 go_simp
                 go_at_call_of 70 (st)
                 exact ((l4InC _ _ _ _ _ a2).mono (fun e w5 h5 => ⟨h5.1, h5.2 ▸ hw⟩))
               try simp only [Act.put, List.setIfInBounds_toArray, List.set_cons_zero, List.set_cons_succ])
            | (refine WQ.take ((.bool true)) (by rfl) (fun w' hw => ?_) ?_
               · unfold Oper.quietAt
                 go_simp
                 go_at_call_of 70 (tx)
                 exact ((l4InC _ _ _ _ _ a1).mono (fun e w5 h5 => ⟨h5.1, h5.2 ▸ hw⟩))
               try simp only [Act.put, List.setIfInBounds_toArray, List.set_cons_zero, List.set_cons_succ]))
          refine WQ.nil ?_
          intro w2 hw2
          have HE2 := Lib.hid (HE1.out.ext hw2)
          clear hw2
          go_wp2
          go_ret
          exact ⟨by rw [HRt.out (any_true hk HBK.out)]; rfl, HEW.out.ext HE2.out⟩
        by_cases a3 : inR la 1 1099511627776 = true
        rotate_left
        · replace a3 : inR la 1 1099511627776 = false := by simpa using a3
          have HBK := Lib.hid (show tBad ts k = true from by rw [HB.out, HF.out, tB]; simp [a0, a1, a2, a3])
          go_wp2_with fail
          generalize hW : wr.alloc (.cells #[.int .i64 tx, .int .i64 st, .int .i64 la, .int .i64 un] 104) = W1
          have hE1 : Ext wr W1 := hW ▸ alloc_ext _ _
          have x0 : W1.cell? ⟨wr.heap.size, 0, none⟩ = some (.int .i64 tx) := by rw [← hW]; exact alloc_cell (Only.refl _ _) 0
          have x1 : W1.cell? ⟨wr.heap.size, 1, none⟩ = some (.int .i64 st) := by rw [← hW]; exact alloc_cell (Only.refl _ _) 1
          have x2 : W1.cell? ⟨wr.heap.size, 2, none⟩ = some (.int .i64 la) := by rw [← hW]; exact alloc_cell (Only.refl _ _) 2
          have x3 : W1.cell? ⟨wr.heap.size, 3, none⟩ = some (.int .i64 un) := by rw [← hW]; exact alloc_cell (Only.refl _ _) 3
          have x9 := hE1.ecell m0
          have x8 := hE1.ecell cP
          have HE1 := Lib.hid (HE.out.ext hE1)
          clear hW hE1
          refine region_ext (by kernel_rfl) (by kernel_rfl) ?_
          repeat (first
            | (refine WQ.skip (by rfl) ?_
               try simp only [Act.put, List.setIfInBounds_toArray, List.set_cons_zero, List.set_cons_succ])
            | (refine WQ.take ?_ (by rfl) (fun w' hw => ?_) ?_
               rotate_left
               · have cq0 := hw.ecell x0
                 have cq1 := hw.ecell x1
                 have cq2 := hw.ecell x2
                 have cq3 := hw.ecell x3
                 have cq4 := hw.ecell x9
                 have cq5 := hw.ecell x8
                 unfold Oper.quietAt
                 go_simp
                 first
                   | done
                   | exact ⟨rfl, rfl⟩
                   | exact rfl
               try simp only [Act.put, List.setIfInBounds_toArray, List.set_cons_zero, List.set_cons_succ])
            | (refine WQ.take ((.bool false)) (by rfl) (fun w' hw => ?_) ?_
               · unfold Oper.quietAt
                 go_simp
                 go_at_call_of 70 (la)
                 exact ((l4InC _ _ _ _ _ a3).mono (fun e w5 h5 => ⟨h5.1, h5.2 ▸ hw⟩))
               try simp only [Act.put, List.setIfInBounds_toArray, List.set_cons_zero, List.set_cons_succ])
            | (refine WQ.take ((.bool true)) (by rfl) (fun w' hw => ?_) ?_
               · unfold Oper.quietAt
                 go_simp
                 go_at_call_of 70 (st)
                 exact ((l4InC _ _ _ _ _ a2).mono (fun e w5 h5 => ⟨h5.1, h5.2 ▸ hw⟩))
               try simp only [Act.put, List.setIfInBounds_toArray, List.set_cons_zero, List.set_cons_succ])
            | (refine WQ.take ((.bool true)) (by rfl) (fun w' hw => ?_) ?_
               · unfold Oper.quietAt
                 go_simp
                 go_at_call_of 70 (tx)
                 exact ((l4InC _ _ _ _ _ a1).mono (fun e w5 h5 => ⟨h5.1, h5.2 ▸ hw⟩))
               try simp only [Act.put, List.setIfInBounds_toArray, List.set_cons_zero, List.set_cons_succ]))
          refine WQ.nil ?_
          intro w2 hw2
          have HE2 := Lib.hid (HE1.out.ext hw2)
          clear hw2
          go_wp2
          go_ret
          exact ⟨by rw [HRt.out (any_true hk HBK.out)]; rfl, HEW.out.ext HE2.out⟩
        by_cases a4 : inR un 0 la = true
        rotate_left
        · replace a4 : inR un 0 la = false := by simpa using a4
          have HBK := Lib.hid (show tBad ts k = true from by rw [HB.out, HF.out, tB]; simp [a0, a1, a2, a3, a4])
          go_wp2_with fail
          generalize hW : wr.alloc (.cells #[.int .i64 tx, .int .i64 st, .int .i64 la, .int .i64 un] 104) = W1
          have hE1 : Ext wr W1 := hW ▸ alloc_ext _ _
          have x0 : W1.cell? ⟨wr.heap.size, 0, none⟩ = some (.int .i64 tx) := by rw [← hW]; exact alloc_cell (Only.refl _ _) 0
          have x1 : W1.cell? ⟨wr.heap.size, 1, none⟩ = some (.int .i64 st) := by rw [← hW]; exact alloc_cell (Only.refl _ _) 1
          have x2 : W1.cell? ⟨wr.heap.size, 2, none⟩ = some (.int .i64 la) := by rw [← hW]; exact alloc_cell (Only.refl _ _) 2
          have x3 : W1.cell? ⟨wr.heap.size, 3, none⟩ = some (.int .i64 un) := by rw [← hW]; exact alloc_cell (Only.refl _ _) 3
          have x9 := hE1.ecell m0
          have x8 := hE1.ecell cP
          have HE1 := Lib.hid (HE.out.ext hE1)
          clear hW hE1
          refine region_ext (by kernel_rfl) (by kernel_rfl) ?_
          repeat (first
            | (refine WQ.skip (by rfl) ?_
               try simp only [Act.put, List.setIfInBounds_toArray, List.set_cons_zero, List.set_cons_succ])
            | (refine WQ.take ?_ (by rfl) (fun w' hw => ?_) ?_
               rotate_left
               · have cq0 := hw.ecell x0
                 have cq1 := hw.ecell x1
                 have cq2 := hw.ecell x2
                 have cq3 := hw.ecell x3
                 have cq4 := hw.ecell x9
                 have cq5 := hw.ecell x8
                 unfold Oper.quietAt
                 go_simp
                 first
                   | done
                   | exact ⟨rfl, rfl⟩
                   | exact rfl
               try simp only [Act.put, List.setIfInBounds_toArray, List.set_cons_zero, List.set_cons_succ])
            | (refine WQ.take ((.bool false)) (by rfl) (fun w' hw => ?_) ?_
               · unfold Oper.quietAt
                 go_simp
                 go_at_call_of 70 (un)
                 exact ((l4InC _ _ _ _ _ a4).mono (fun e w5 h5 => ⟨h5.1, h5.2 ▸ hw⟩))
               try simp only [Act.put, List.setIfInBounds_toArray, List.set_cons_zero, List.set_cons_succ])
            | (refine WQ.take ((.bool true)) (by rfl) (fun w' hw => ?_) ?_
               · unfold Oper.quietAt
                 go_simp
                 go_at_call_of 70 (la)
                 exact ((l4InC _ _ _ _ _ a3).mono (fun e w5 h5 => ⟨h5.1, h5.2 ▸ hw⟩))
               try simp only [Act.put, List.setIfInBounds_toArray, List.set_cons_zero, List.set_cons_succ])
            | (refine WQ.take ((.bool true)) (by rfl) (fun w' hw => ?_) ?_
               · unfold Oper.quietAt
                 go_simp
                 go_at_call_of 70 (st)
                 exact ((l4InC _ _ _ _ _ a2).mono (fun e w5 h5 => ⟨h5.1, h5.2 ▸ hw⟩))
               try simp only [Act.put, List.setIfInBounds_toArray, List.set_cons_zero, List.set_cons_succ])
            | (refine WQ.take ((.bool true)) (by rfl) (fun w' hw => ?_) ?_
               · unfold Oper.quietAt
                 go_simp
                 go_at_call_of 70 (tx)
                 exact ((l4InC _ _ _ _ _ a1).mono (fun e w5 h5 => ⟨h5.1, h5.2 ▸ hw⟩))
               try simp only [Act.put, List.setIfInBounds_toArray, List.set_cons_zero, List.set_cons_succ]))
          refine WQ.nil ?_
          intro w2 hw2
          have HE2 := Lib.hid (HE1.out.ext hw2)
          clear hw2
          go_wp2
          go_ret
          exact ⟨by rw [HRt.out (any_true hk HBK.out)]; rfl, HEW.out.ext HE2.out⟩
        ·
          have HBK := Lib.hid (show tBad ts k = false from by rw [HB.out, HF.out, tB]; simp [a0, a1, a2, a3, a4])
          go_wp2_with fail
          generalize hW : wr.alloc (.cells #[.int .i64 tx, .int .i64 st, .int .i64 la, .int .i64 un] 104) = W1
          have hE1 : Ext wr W1 := hW ▸ alloc_ext _ _
          have x0 : W1.cell? ⟨wr.heap.size, 0, none⟩ = some (.int .i64 tx) := by rw [← hW]; exact alloc_cell (Only.refl _ _) 0
          have x1 : W1.cell? ⟨wr.heap.size, 1, none⟩ = some (.int .i64 st) := by rw [← hW]; exact alloc_cell (Only.refl _ _) 1
          have x2 : W1.cell? ⟨wr.heap.size, 2, none⟩ = some (.int .i64 la) := by rw [← hW]; exact alloc_cell (Only.refl _ _) 2
          have x3 : W1.cell? ⟨wr.heap.size, 3, none⟩ = some (.int .i64 un) := by rw [← hW]; exact alloc_cell (Only.refl _ _) 3
          have x9 := hE1.ecell m0
          have x8 := hE1.ecell cP
          have HE1 := Lib.hid (HE.out.ext hE1)
          clear hW hE1
          refine region_ext (by kernel_rfl) (by kernel_rfl) ?_
          repeat (first
            | (refine WQ.skip (by rfl) ?_
               try simp only [Act.put, List.setIfInBounds_toArray, List.set_cons_zero, List.set_cons_succ])
            | (refine WQ.take ?_ (by rfl) (fun w' hw => ?_) ?_
               rotate_left
               · have cq0 := hw.ecell x0
                 have cq1 := hw.ecell x1
                 have cq2 := hw.ecell x2
                 have cq3 := hw.ecell x3
                 have cq4 := hw.ecell x9
                 have cq5 := hw.ecell x8
                 unfold Oper.quietAt
                 go_simp
                 first
                   | done
                   | exact ⟨rfl, rfl⟩
                   | exact rfl
               try simp only [Act.put, List.setIfInBounds_toArray, List.set_cons_zero, List.set_cons_succ])
            | (refine WQ.take ((.bool true)) (by rfl) (fun w' hw => ?_) ?_
               · unfold Oper.quietAt
                 go_simp
                 go_at_call_of 70 (un)
                 exact ((l4InC _ _ _ _ _ a4).mono (fun e w5 h5 => ⟨h5.1, h5.2 ▸ hw⟩))
               try simp only [Act.put, List.setIfInBounds_toArray, List.set_cons_zero, List.set_cons_succ])
            | (refine WQ.take ((.bool true)) (by rfl) (fun w' hw => ?_) ?_
               · unfold Oper.quietAt
                 go_simp
                 go_at_call_of 70 (la)
                 exact ((l4InC _ _ _ _ _ a3).mono (fun e w5 h5 => ⟨h5.1, h5.2 ▸ hw⟩))
               try simp only [Act.put, List.setIfInBounds_toArray, List.set_cons_zero, List.set_cons_succ])
            | (refine WQ.take ((.bool true)) (by rfl) (fun w' hw => ?_) ?_
               · unfold Oper.quietAt
                 go_simp
                 go_at_call_of 70 (st)
                 exact ((l4InC _ _ _ _ _ a2).mono (fun e w5 h5 => ⟨h5.1, h5.2 ▸ hw⟩))
               try simp only [Act.put, List.setIfInBounds_toArray, List.set_cons_zero, List.set_cons_succ])
            | (refine WQ.take ((.bool true)) (by rfl) (fun w' hw => ?_) ?_
               · unfold Oper.quietAt
                 go_simp
                 go_at_call_of 70 (tx)
                 exact ((l4InC _ _ _ _ _ a1).mono (fun e w5 h5 => ⟨h5.1, h5.2 ▸ hw⟩))
               try simp only [Act.put, List.setIfInBounds_toArray, List.set_cons_zero, List.set_cons_succ]))
          refine WQ.nil ?_
          intro w2 hw2
          have HE2 := Lib.hid (HE1.out.ext hw2)
          clear hw2
          go_wp2
          go_roundg (ts.length - (k + 1))
          case measure => have := HMK.out; omega
          case rel =>
            refine ⟨k + 1, by have := HMK.out; omega, rfl, Lib.hid (fun j hj => ?_), HE2.out⟩
            rcases Nat.lt_or_ge j k with h | h
            · exact HG.out j h
            · obtain rfl : j = k := by omega
              exact HBK.out
    · have hkn : k = ts.length := by have := HMK.out; omega
      subst hkn
      have HAFT := Lib.hid (any_false HG.out)
      have HEL := HE
      have m9 := HE.out.ecell M12.out
      go_wp2
      clear m0 m9 HE HMK HG hlt
      go_loopg [5] ds.length (fun m i wr => ∃ k : Nat, m + k = ds.length ∧ i = .int .i64 k ∧ Hid (∀ j, j < k → dBad ds j = false) ∧ Ext W0 wr)
      case atStart => exact ⟨0, by simp, rfl, Lib.hid (fun j hj => absurd hj (by omega)), HEL.out⟩
      case round =>
        obtain ⟨k, hmk, rfl, HG, hE⟩ := hrel
        have HE := Lib.hid hE; have HMK := Lib.hid hmk
        clear hE hmk
        have m0 := HE.out.ecell M12.out
        by_cases hlt : (k : Int) < (ds.length : Int)
        · have hk : k < ds.length := by omega
          obtain ⟨g, off, rfl, hg, hwf, e0, e1⟩ := sl_DirtyEntry (Rep.sl_ext H4.out HE.out) k hk
          have hbk := dBad_at hk
          have HB := Lib.hid hbk
          have hin : ∀ j, j + 1 = k → ∃ pv, ds[k - 1]?.map (·.Page) = some pv ∧ wr.cell? ⟨g, off + j * 2, none⟩ = some (.int .i64 pv) := by
            intro j hj
            obtain ⟨g', off', e', -, -, f0, f1⟩ := sl_DirtyEntry (Rep.sl_ext H4.out HE.out) j (by omega)
            injection e' with e'
            injection e' with e1' e2'
            subst e1'; subst e2'
            exact ⟨_, by rw [show k - 1 = j by omega, List.getElem?_eq_getElem (by omega)]; rfl, f0⟩
          have HIN := Lib.hid hin
          generalize ds[k].Page = pg at *
          generalize ds[k].RecLSN = rl at *
          clear hbk hwf hin
          have hfst : (k = 0 ∧ Hid (decide (k = 0) = true)) ∨ (∃ j, j + 1 = k ∧ Hid (decide (k = 0) = false)) := by
            rcases k with _ | j
            · exact .inl ⟨rfl, Lib.hid rfl⟩
            · exact .inr ⟨j, rfl, Lib.hid (by simp)⟩
          rcases hfst with ⟨hk0, HF⟩ | ⟨j, hj, HF⟩
          ·
            obtain ⟨P, hP⟩ : ∃ P, (ds[k - 1]?.map (·.Page)).getD 0 = P := ⟨_, rfl⟩
            rw [hP] at HB
            clear hP
            have z0 : decide (0 < k) = false := decide_eq_false (by omega)
            clear hk0
            by_cases a0 : inR pg 0 15 = true
            rotate_left
            · replace a0 : inR pg 0 15 = false := by simpa using a0
              have HBK := Lib.hid (show dBad ds k = true from by rw [HB.out, HF.out, dB]; simp [a0])
              go_wp2_with fail
              generalize hW : wr.alloc (.cells #[.int .i64 pg, .int .i64 rl] 106) = W1
              have hE1 : Ext wr W1 := hW ▸ alloc_ext _ _
              have x0 : W1.cell? ⟨wr.heap.size, 0, none⟩ = some (.int .i64 pg) := by rw [← hW]; exact alloc_cell (Only.refl _ _) 0
              have x1 : W1.cell? ⟨wr.heap.size, 1, none⟩ = some (.int .i64 rl) := by rw [← hW]; exact alloc_cell (Only.refl _ _) 1
              have x9 := hE1.ecell m0
              have HE1 := Lib.hid (HE.out.ext hE1)
              clear hW hE1
              refine region_ext (by kernel_rfl) (by kernel_rfl) ?_
              repeat (first
                | (refine WQ.skip (by rfl) ?_
                   try simp only [Act.put, List.setIfInBounds_toArray, List.set_cons_zero, List.set_cons_succ])
                | (refine WQ.take ?_ (by rfl) (fun w' hw => ?_) ?_
                   rotate_left
                   · have cq0 := hw.ecell x0
                     have cq1 := hw.ecell x1
                     have cq2 := hw.ecell x9
                     unfold Oper.quietAt
                     go_simp
                     first
                       | done
                       | exact ⟨rfl, rfl⟩
                       | exact rfl
                   try simp only [Act.put, List.setIfInBounds_toArray, List.set_cons_zero, List.set_cons_succ])
                | (refine WQ.take ((.bool false)) (by rfl) (fun w' hw => ?_) ?_
                   · unfold Oper.quietAt
                     go_simp
                     go_at_call_of 70 (pg)
                     exact ((l4InC _ _ _ _ _ a0).mono (fun e w5 h5 => ⟨h5.1, h5.2 ▸ hw⟩))
                   try simp only [Act.put, List.setIfInBounds_toArray, List.set_cons_zero, List.set_cons_succ]))
              refine WQ.nil ?_
              intro w2 hw2
              have HE2 := Lib.hid (HE1.out.ext hw2)
              clear hw2
              go_wp2
              go_ret
              exact ⟨by rw [HRd.out (any_true hk HBK.out)]; rfl, HEW.out.ext HE2.out⟩
            by_cases a1 : inR rl 1 1099511627776 = true
            rotate_left
            · replace a1 : inR rl 1 1099511627776 = false := by simpa using a1
              have HBK := Lib.hid (show dBad ds k = true from by rw [HB.out, HF.out, dB]; simp [a0, a1])
              go_wp2_with fail
              generalize hW : wr.alloc (.cells #[.int .i64 pg, .int .i64 rl] 106) = W1
              have hE1 : Ext wr W1 := hW ▸ alloc_ext _ _
              have x0 : W1.cell? ⟨wr.heap.size, 0, none⟩ = some (.int .i64 pg) := by rw [← hW]; exact alloc_cell (Only.refl _ _) 0
              have x1 : W1.cell? ⟨wr.heap.size, 1, none⟩ = some (.int .i64 rl) := by rw [← hW]; exact alloc_cell (Only.refl _ _) 1
              have x9 := hE1.ecell m0
              have HE1 := Lib.hid (HE.out.ext hE1)
              clear hW hE1
              refine region_ext (by kernel_rfl) (by kernel_rfl) ?_
              repeat (first
                | (refine WQ.skip (by rfl) ?_
                   try simp only [Act.put, List.setIfInBounds_toArray, List.set_cons_zero, List.set_cons_succ])
                | (refine WQ.take ?_ (by rfl) (fun w' hw => ?_) ?_
                   rotate_left
                   · have cq0 := hw.ecell x0
                     have cq1 := hw.ecell x1
                     have cq2 := hw.ecell x9
                     unfold Oper.quietAt
                     go_simp
                     first
                       | done
                       | exact ⟨rfl, rfl⟩
                       | exact rfl
                   try simp only [Act.put, List.setIfInBounds_toArray, List.set_cons_zero, List.set_cons_succ])
                | (refine WQ.take ((.bool false)) (by rfl) (fun w' hw => ?_) ?_
                   · unfold Oper.quietAt
                     go_simp
                     go_at_call_of 70 (rl)
                     exact ((l4InC _ _ _ _ _ a1).mono (fun e w5 h5 => ⟨h5.1, h5.2 ▸ hw⟩))
                   try simp only [Act.put, List.setIfInBounds_toArray, List.set_cons_zero, List.set_cons_succ])
                | (refine WQ.take ((.bool true)) (by rfl) (fun w' hw => ?_) ?_
                   · unfold Oper.quietAt
                     go_simp
                     go_at_call_of 70 (pg)
                     exact ((l4InC _ _ _ _ _ a0).mono (fun e w5 h5 => ⟨h5.1, h5.2 ▸ hw⟩))
                   try simp only [Act.put, List.setIfInBounds_toArray, List.set_cons_zero, List.set_cons_succ]))
              refine WQ.nil ?_
              intro w2 hw2
              have HE2 := Lib.hid (HE1.out.ext hw2)
              clear hw2
              go_wp2
              go_ret
              exact ⟨by rw [HRd.out (any_true hk HBK.out)]; rfl, HEW.out.ext HE2.out⟩
            ·
              have HBK := Lib.hid (show dBad ds k = false from by rw [HB.out, HF.out, dB]; simp [a0, a1])
              go_wp2_with fail
              generalize hW : wr.alloc (.cells #[.int .i64 pg, .int .i64 rl] 106) = W1
              have hE1 : Ext wr W1 := hW ▸ alloc_ext _ _
              have x0 : W1.cell? ⟨wr.heap.size, 0, none⟩ = some (.int .i64 pg) := by rw [← hW]; exact alloc_cell (Only.refl _ _) 0
              have x1 : W1.cell? ⟨wr.heap.size, 1, none⟩ = some (.int .i64 rl) := by rw [← hW]; exact alloc_cell (Only.refl _ _) 1
              have x9 := hE1.ecell m0
              have HE1 := Lib.hid (HE.out.ext hE1)
              clear hW hE1
              refine region_ext (by kernel_rfl) (by kernel_rfl) ?_
              repeat (first
                | (refine WQ.skip (by rfl) ?_
                   try simp only [Act.put, List.setIfInBounds_toArray, List.set_cons_zero, List.set_cons_succ])
                | (refine WQ.take ?_ (by rfl) (fun w' hw => ?_) ?_
                   rotate_left
                   · have cq0 := hw.ecell x0
                     have cq1 := hw.ecell x1
                     have cq2 := hw.ecell x9
                     unfold Oper.quietAt
                     go_simp
                     first
                       | done
                       | exact ⟨rfl, rfl⟩
                       | exact rfl
                   try simp only [Act.put, List.setIfInBounds_toArray, List.set_cons_zero, List.set_cons_succ])
                | (refine WQ.take ((.bool true)) (by rfl) (fun w' hw => ?_) ?_
                   · unfold Oper.quietAt
                     go_simp
                     go_at_call_of 70 (rl)
                     exact ((l4InC _ _ _ _ _ a1).mono (fun e w5 h5 => ⟨h5.1, h5.2 ▸ hw⟩))
                   try simp only [Act.put, List.setIfInBounds_toArray, List.set_cons_zero, List.set_cons_succ])
                | (refine WQ.take ((.bool true)) (by rfl) (fun w' hw => ?_) ?_
                   · unfold Oper.quietAt
                     go_simp
                     go_at_call_of 70 (pg)
                     exact ((l4InC _ _ _ _ _ a0).mono (fun e w5 h5 => ⟨h5.1, h5.2 ▸ hw⟩))
                   try simp only [Act.put, List.setIfInBounds_toArray, List.set_cons_zero, List.set_cons_succ]))
              refine WQ.nil ?_
              intro w2 hw2
              have HE2 := Lib.hid (HE1.out.ext hw2)
              clear hw2
              go_wp2
              go_roundg (ds.length - (k + 1))
              case measure => have := HMK.out; omega
              case rel =>
                refine ⟨k + 1, by have := HMK.out; omega, rfl, Lib.hid (fun j hj => ?_), HE2.out⟩
                rcases Nat.lt_or_ge j k with h | h
                · exact HG.out j h
                · obtain rfl : j = k := by omega
                  exact HBK.out
          ·
            obtain ⟨P, hP, cP⟩ := HIN.out j hj
            rw [hP] at HB
            replace HB := Lib.hid HB.out
            simp only [Option.getD_some] at HB
            clear hP
            have z0 : decide (0 < k) = true := decide_eq_true (by omega)
            have z1 : IntKind.i64.wrap ((k : Int) - 1) = (j : Int) := by rw [IntKind.wrap_i64]; omega
            have z2 : (0 : Int) ≤ (j : Int) := by omega
            have z3 : (j : Int) < (ds.length : Int) := by omega
            have z4 : (j : Int).toNat = j := by omega
            by_cases a0 : pg ≤ P
            · have d0 : decide (pg ≤ P) = true := decide_eq_true a0
              have HBK := Lib.hid (show dBad ds k = true from by rw [HB.out, HF.out, dB]; simp [a0])
              go_wp2_with fail
              generalize hW : wr.alloc (.cells #[.int .i64 pg, .int .i64 rl] 106) = W1
              have hE1 : Ext wr W1 := hW ▸ alloc_ext _ _
              have x0 : W1.cell? ⟨wr.heap.size, 0, none⟩ = some (.int .i64 pg) := by rw [← hW]; exact alloc_cell (Only.refl _ _) 0
              have x1 : W1.cell? ⟨wr.heap.size, 1, none⟩ = some (.int .i64 rl) := by rw [← hW]; exact alloc_cell (Only.refl _ _) 1
              have x9 := hE1.ecell m0
              have x8 := hE1.ecell cP
              have HE1 := Lib.hid (HE.out.ext hE1)
              clear hW hE1
              refine region_ext (by kernel_rfl) (by kernel_rfl) ?_
              repeat (first
                | (refine WQ.skip (by rfl) ?_
                   try simp only [Act.put, List.setIfInBounds_toArray, List.set_cons_zero, List.set_cons_succ])
                | (refine WQ.take ?_ (by rfl) (fun w' hw => ?_) ?_
                   rotate_left
                   · have cq0 := hw.ecell x0
                     have cq1 := hw.ecell x1
                     have cq2 := hw.ecell x9
                     have cq3 := hw.ecell x8
                     unfold Oper.quietAt
                     go_simp
                     first
                       | done
                       | exact ⟨rfl, rfl⟩
                       | exact rfl
                   try simp only [Act.put, List.setIfInBounds_toArray, List.set_cons_zero, List.set_cons_succ]))
              refine WQ.nil ?_
              intro w2 hw2
              have HE2 := Lib.hid (HE1.out.ext hw2)
              clear hw2
              go_wp2
              go_ret
              exact ⟨by rw [HRd.out (any_true hk HBK.out)]; rfl, HEW.out.ext HE2.out⟩
            have d0 : decide (pg ≤ P) = false := decide_eq_false a0
            by_cases a1 : inR pg 0 15 = true
            rotate_left
            · replace a1 : inR pg 0 15 = false := by simpa using a1
              have HBK := Lib.hid (show dBad ds k = true from by rw [HB.out, HF.out, dB]; simp [a0, a1])
              go_wp2_with fail
              generalize hW : wr.alloc (.cells #[.int .i64 pg, .int .i64 rl] 106) = W1
              have hE1 : Ext wr W1 := hW ▸ alloc_ext _ _
              have x0 : W1.cell? ⟨wr.heap.size, 0, none⟩ = some (.int .i64 pg) := by rw [← hW]; exact alloc_cell (Only.refl _ _) 0
              have x1 : W1.cell? ⟨wr.heap.size, 1, none⟩ = some (.int .i64 rl) := by rw [← hW]; exact alloc_cell (Only.refl _ _) 1
              have x9 := hE1.ecell m0
              have x8 := hE1.ecell cP
              have HE1 := Lib.hid (HE.out.ext hE1)
              clear hW hE1
              refine region_ext (by kernel_rfl) (by kernel_rfl) ?_
              repeat (first
                | (refine WQ.skip (by rfl) ?_
                   try simp only [Act.put, List.setIfInBounds_toArray, List.set_cons_zero, List.set_cons_succ])
                | (refine WQ.take ?_ (by rfl) (fun w' hw => ?_) ?_
                   rotate_left
                   · have cq0 := hw.ecell x0
                     have cq1 := hw.ecell x1
                     have cq2 := hw.ecell x9
                     have cq3 := hw.ecell x8
                     unfold Oper.quietAt
                     go_simp
                     first
                       | done
                       | exact ⟨rfl, rfl⟩
                       | exact rfl
                   try simp only [Act.put, List.setIfInBounds_toArray, List.set_cons_zero, List.set_cons_succ])
                | (refine WQ.take ((.bool false)) (by rfl) (fun w' hw => ?_) ?_
                   · unfold Oper.quietAt
                     go_simp
                     go_at_call_of 70 (pg)
                     exact ((l4InC _ _ _ _ _ a1).mono (fun e w5 h5 => ⟨h5.1, h5.2 ▸ hw⟩))
                   try simp only [Act.put, List.setIfInBounds_toArray, List.set_cons_zero, List.set_cons_succ]))
              refine WQ.nil ?_
              intro w2 hw2
              have HE2 := Lib.hid (HE1.out.ext hw2)
              clear hw2
              go_wp2
              go_ret
              exact ⟨by rw [HRd.out (any_true hk HBK.out)]; rfl, HEW.out.ext HE2.out⟩
            by_cases a2 : inR rl 1 1099511627776 = true
            rotate_left
            · replace a2 : inR rl 1 1099511627776 = false := by simpa using a2
              have HBK := Lib.hid (show dBad ds k = true from by rw [HB.out, HF.out, dB]; simp [a0, a1, a2])
              go_wp2_with fail
              generalize hW : wr.alloc (.cells #[.int .i64 pg, .int .i64 rl] 106) = W1
              have hE1 : Ext wr W1 := hW ▸ alloc_ext _ _
              have x0 : W1.cell? ⟨wr.heap.size, 0, none⟩ = some (.int .i64 pg) := by rw [← hW]; exact alloc_cell (Only.refl _ _) 0
              have x1 : W1.cell? ⟨wr.heap.size, 1, none⟩ = some (.int .i64 rl) := by rw [← hW]; exact alloc_cell (Only.refl _ _) 1
              have x9 := hE1.ecell m0
              have x8 := hE1.ecell cP
              have HE1 := Lib.hid (HE.out.ext hE1)
              clear hW hE1
              refine region_ext (by kernel_rfl) (by kernel_rfl) ?_
              repeat (first
                | (refine WQ.skip (by rfl) ?_
                   try simp only [Act.put, List.setIfInBounds_toArray, List.set_cons_zero, List.set_cons_succ])
                | (refine WQ.take ?_ (by rfl) (fun w' hw => ?_) ?_
                   rotate_left
                   · have cq0 := hw.ecell x0
                     have cq1 := hw.ecell x1
                     have cq2 := hw.ecell x9
                     have cq3 := hw.ecell x8
                     unfold Oper.quietAt
                     go_simp
                     first
                       | done
                       | exact ⟨rfl, rfl⟩
                       | exact rfl
                   try simp only [Act.put, List.setIfInBounds_toArray, List.set_cons_zero, List.set_cons_succ])
                | (refine WQ.take ((.bool false)) (by rfl) (fun w' hw => ?_) ?_
                   · unfold Oper.quietAt
                     go_simp
                     go_at_call_of 70 (rl)
                     exact ((l4InC _ _ _ _ _ a2).mono (fun e w5 h5 => ⟨h5.1, h5.2 ▸ hw⟩))
                   try simp only [Act.put, List.setIfInBounds_toArray, List.set_cons_zero, List.set_cons_succ])
                | (refine WQ.take ((.bool true)) (by rfl) (fun w' hw => ?_) ?_
                   · unfold Oper.quietAt
                     go_simp
                     go_at_call_of 70 (pg)
                     exact ((l4InC _ _ _ _ _ a1).mono (fun e w5 h5 => ⟨h5.1, h5.2 ▸ hw⟩))
                   try simp only [Act.put, List.setIfInBounds_toArray, List.set_cons_zero, List.set_cons_succ]))
              refine WQ.nil ?_
              intro w2 hw2
              have HE2 := Lib.hid (HE1.out.ext hw2)
              clear hw2
              go_wp2
              go_ret
              exact ⟨by rw [HRd.out (any_true hk HBK.out)]; rfl, HEW.out.ext HE2.out⟩
            ·
              have HBK := Lib.hid (show dBad ds k = false from by rw [HB.out, HF.out, dB]; simp [a0, a1, a2])
              go_wp2_with fail
              generalize hW : wr.alloc (.cells #[.int .i64 pg, .int .i64 rl] 106) = W1
              have hE1 : Ext wr W1 := hW ▸ alloc_ext _ _
              have x0 : W1.cell? ⟨wr.heap.size, 0, none⟩ = some (.int .i64 pg) := by rw [← hW]; exact alloc_cell (Only.refl _ _) 0
              have x1 : W1.cell? ⟨wr.heap.size, 1, none⟩ = some (.int .i64 rl) := by rw [← hW]; exact alloc_cell (Only.refl _ _) 1
              have x9 := hE1.ecell m0
              have x8 := hE1.ecell cP
              have HE1 := Lib.hid (HE.out.ext hE1)
              clear hW hE1
              refine region_ext (by kernel_rfl) (by kernel_rfl) ?_
              repeat (first
                | (refine WQ.skip (by rfl) ?_
                   try simp only [Act.put, List.setIfInBounds_toArray, List.set_cons_zero, List.set_cons_succ])
                | (refine WQ.take ?_ (by rfl) (fun w' hw => ?_) ?_
                   rotate_left
                   · have cq0 := hw.ecell x0
                     have cq1 := hw.ecell x1
                     have cq2 := hw.ecell x9
                     have cq3 := hw.ecell x8
                     unfold Oper.quietAt
                     go_simp
                     first
                       | done
                       | exact ⟨rfl, rfl⟩
                       | exact rfl
                   try simp only [Act.put, List.setIfInBounds_toArray, List.set_cons_zero, List.set_cons_succ])
                | (refine WQ.take ((.bool true)) (by rfl) (fun w' hw => ?_) ?_
                   · unfold Oper.quietAt
                     go_simp
                     go_at_call_of 70 (rl)
                     exact ((l4InC _ _ _ _ _ a2).mono (fun e w5 h5 => ⟨h5.1, h5.2 ▸ hw⟩))
                   try simp only [Act.put, List.setIfInBounds_toArray, List.set_cons_zero, List.set_cons_succ])
                | (refine WQ.take ((.bool true)) (by rfl) (fun w' hw => ?_) ?_
                   · unfold Oper.quietAt
                     go_simp
                     go_at_call_of 70 (pg)
                     exact ((l4InC _ _ _ _ _ a1).mono (fun e w5 h5 => ⟨h5.1, h5.2 ▸ hw⟩))
                   try simp only [Act.put, List.setIfInBounds_toArray, List.set_cons_zero, List.set_cons_succ]))
              refine WQ.nil ?_
              intro w2 hw2
              have HE2 := Lib.hid (HE1.out.ext hw2)
              clear hw2
              go_wp2
              go_roundg (ds.length - (k + 1))
              case measure => have := HMK.out; omega
              case rel =>
                refine ⟨k + 1, by have := HMK.out; omega, rfl, Lib.hid (fun j hj => ?_), HE2.out⟩
                rcases Nat.lt_or_ge j k with h | h
                · exact HG.out j h
                · obtain rfl : j = k := by omega
                  exact HBK.out
        · have hkn : k = ds.length := by have := HMK.out; omega
          subst hkn
          have HAF := Lib.hid (any_false HG.out)
          go_wp2
          go_ret
          exact ⟨by rw [HR0.out HAFT.out HAF.out]; rfl, HEW.out.ext HE.out⟩
end Go.Proofs.YtghgjddiheebeaaDoor
