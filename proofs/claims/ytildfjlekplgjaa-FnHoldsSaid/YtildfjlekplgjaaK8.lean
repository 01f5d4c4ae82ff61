/- HoldTake: the program's. -/
import Derived.Test.YtildfjlekplgjaaM4
import Derived.Test.YtildfjlekplgjaaM3
import Derived.Test.YtildfjlekplgjaaQX
namespace Go.Proofs.Ytildfjlekplgjaa
open Go.RowKit
set_option linter.unusedSimpArgs false
set_option linter.unusedVariables false
theorem enters_of {f : Nat} {fn : Func} {c : Code} (hf : Try.prog.funcs[f]? = some fn) (hn : (fn.name == "runtime.NumGoroutine") = false) (hb : fn.body = some c) (args : Array Value) (W : World) : (callFunc f args).run Try.prog W = .ok (.enter f args) W := by
  have hn' : ¬ fn.name = "runtime.NumGoroutine" := by simpa using hn
  simp [callFunc, hf, hn', hb]
set_option maxRecDepth 100000 in
theorem holdIs_calls (x : DHold) (w : World) (nb : Nat) (id : Int) (h0 : w.cell? ⟨nb, 0, none⟩ = some (.int .i64 id)) :
    Calls Try.prog 58 #[.agg #[.int .i64 x.Id, .int .i64 x.Txn, .int .i64 x.Most], .pointer (some ⟨nb, 0, none⟩)] w fun e w' => e = .returned (.bool (decide (x.Id = id))) ∧ Ext w w' := by
  have hu := Try.underlying75
  have hlt : nb < w.heap.size := World.block_lt_of_cell? w ⟨nb, 0, none⟩ h0
  have c0 := (alloc_ext w (.cells #[.int .i64 x.Id, .int .i64 x.Txn, .int .i64 x.Most] 75)).ecell h0
  have mo := fun o => cell_of_row _ _ o _ _ _ (heap_alloc_new w (.cells #[.int .i64 x.Id, .int .i64 x.Txn, .int .i64 x.Most] 75))
  have hE := alloc_ext w (.cells #[.int .i64 x.Id, .int .i64 x.Txn, .int .i64 x.Most] 75)
  have HE := Lib.hid hE
  clear hE
  go_enter Try.func58, Try.ntmps58
  by_cases hh : x.Id = id
  · have hb : (x.Id == id) = true := by simp [hh]
    have hd : decide (x.Id = id) = true := by simp [hh]
    rw [hd]
    clear hh hd
    go_wp2
    go_ret
    exact ⟨rfl, HE.out⟩
  · have hb : (x.Id == id) = false := by simp [hh]
    have hd : decide (x.Id = id) = false := by simp [hh]
    rw [hd]
    clear hh hd
    go_wp2
    go_ret
    exact ⟨rfl, HE.out⟩
theorem mostL_max {xs : List DHold} {id : Int} (h : xs.all holdOK = true) : mostL xs id 0 = max (mostL xs id (-1)) 0 := by
  unfold mostL
  cases hf : xs.find? (fun h => decide (h.Id = id)) with
  | none => show (0 : Int) = max (-1) 0; omega
  | some y =>
    have := List.all_eq_true.1 h y (List.mem_of_find?_eq_some hf)
    simp only [holdOK, Bool.and_eq_true, inR_iff] at this
    show y.Most = max y.Most 0; omega
theorem run_max4 {P : Program} (ts : Array TypeId) (t : TypeId) (k : IntKind) (x y z u : Int) (w : World) : (Builtin.max_ ts t #[.int k x, .int k y, .int k z, .int k u]).run P w = .ok (.int k (max (max (max x y) z) u)) w := by
  simp [Builtin.max_, Builtin.max2]
  simp only [Int.max_def]
  (repeat' split) <;> first | rfl | omega
theorem while_at {α : Type} (q : α → Bool) (ys : List α) (k : Nat) (hk : k ≤ ys.length) (hup : ∀ j (hj : j < ys.length), j < k → q ys[j] = true) (hend : ∀ h : k < ys.length, q ys[k] = false) :
    ys.takeWhile q = ys.take k ∧ ys.dropWhile q = ys.drop k := by
  induction ys generalizing k with
  | nil => simp
  | cons y ys ih =>
    cases k with
    | zero =>
      have := hend (by simp)
      simp at this
      simp [this]
    | succ k =>
      have h0 := hup 0 (by simp) (by omega)
      simp only [List.getElem_cons_zero] at h0
      have := ih k (by simpa using hk) (fun j hj hjk => by have := hup (j + 1) (Nat.succ_lt_succ hj) (by omega); rwa [List.getElem_cons_succ] at this) (fun h => by have := hend (Nat.succ_lt_succ h); rwa [List.getElem_cons_succ] at this)
      simp [h0, this.1, this.2]
set_option maxRecDepth 100000 in
set_option maxHeartbeats 2000000 in
theorem implHoldTake_go (A : Option Addr) (c : Nat) (xs : List DHold) (F : List Nat) (w : World) (h : Rep.Hold.sl w A c xs F) (txn id b a : Int) (hok : takeOK xs txn id b a = true) :
    Calls Try.prog 20 #[.slice A xs.length c, .int .i64 txn, .int .i64 id, .int .i64 b, .int .i64 a] w (NewPost Rep.Hold.slice (holdTake xs txn id b a) w) := by
  have hu := Try.underlying75
  have hk := hok
  simp only [takeOK, Bool.and_eq_true, decide_eq_true_eq] at hk
  obtain ⟨⟨⟨⟨k1, k2⟩, k3⟩, k4⟩, k5⟩ := hk
  obtain ⟨hord, hall, hlen⟩ := holdsFault_ord k1
  obtain ⟨R, hR⟩ : ∃ R, R = holdTake xs txn id b a := ⟨_, rfl⟩
  have hRe := holdTake_is hok
  rw [← hR] at hRe ⊢
  obtain ⟨mo, hmo⟩ : ∃ mo, mo = mostL xs id 0 := ⟨_, rfl⟩
  have hml := mostL_in (id := id) hall
  have hmm : mo = max (mostL xs id (-1)) 0 := by
    rw [hmo]
    exact mostL_max hall
  obtain ⟨mx, hmx⟩ : ∃ mx, mx = max (max (max mo b) a) 0 := ⟨_, rfl⟩
  have hnew : takeNew xs txn id b a = ⟨id, txn, mx⟩ := by rw [takeNew, hmx, hmm]; congr 1; omega
  rw [hnew] at hRe
  have hwn : wfHold ⟨id, txn, mx⟩ := by
    have h2 := inR_iff.1 k2; have h3 := inR_iff.1 k3; have h4 := inR_iff.1 k4; have h5 := inR_iff.1 k5
    exact ⟨WalkArith.wf_i64 (by dsimp only; omega), WalkArith.wf_i64 (by dsimp only; omega), WalkArith.wf_i64 (by dsimp only; omega)⟩
  have hE0 := alloc_ext w (.cells #[.int .i64 id] 2)
  have hB := heap_alloc_new w (.cells #[.int .i64 id] 2)
  have cb : (w.alloc (.cells #[.int .i64 id] 2)).cell? ⟨w.heap.size, 0, none⟩ = some (.int .i64 id) := cell_of_row _ _ 0 _ _ _ hB
  have HWN := Lib.hid hwn; have HRE := Lib.hid hRe; have H := Lib.hid (Rep.sl_ext h hE0); have HF0 := Lib.hid k1; have HMO := Lib.hid hmo; have HMX := Lib.hid hmx; have HE0 := Lib.hid hE0; have HB := Lib.hid hB; have HCB := Lib.hid cb
  have hsz0 : (w.alloc (.cells #[.int .i64 id] 2)).heap.size = w.heap.size + 1 := by simp
  have HSZ0 := Lib.hid hsz0
  clear hR hRe hord hall h hok hnew hml hmo hmm hmx k1 hwn hE0 hB hsz0
  have hmx4 := fun (ts : Array TypeId) (t : TypeId) (W : World) => run_max4 (P := Try.prog) ts t .i64 mo b a 0 W
  rw [← HMX.out] at hmx4
  go_enter Try.func20, Try.ntmps20
  go_wp2_with fail
  generalize (w.alloc (.cells #[.int .i64 id] 2)) = W0 at *
  refine (implHoldsFault_calls _ _ _ _ _ H.out).mono ?_
  rw [HF0.out]
  rintro e w1 ⟨rfl, hO⟩
  have HE1 := Lib.hid hO
  have cb1 := hO.ecell cb
  clear hO
  go_wp2_with (first | (go_at_call 43; refine (implIn_calls _ _ _ _).mono ?_; rintro e w9 ⟨rfl, rfl⟩) | fail)
  refine region_float 10 9 11 _ 75 #[.int .i64 0, .int .i64 0, .int .i64 0] (by kernel_rfl) (by kernel_rfl) (by decide) rfl rfl rfl (fun ev w => by kernel_rfl) (by kernel_rfl) ?_
  simp only [List.take_succ_cons, List.take_zero, List.drop_succ_cons, List.drop_zero]
  repeat (first
    | (refine WX.float rfl ?_
       try simp only [Act.put, List.setIfInBounds_toArray, List.set_cons_zero, List.set_cons_succ])
    | (refine WX.skip rfl (by rfl) ?_
       try simp only [Act.put, List.setIfInBounds_toArray, List.set_cons_zero, List.set_cons_succ])
    | (refine WX.take ?_ rfl (by rfl) (fun w' hw => ?_) ?_
       rotate_left
       · have cq0 := hw.ecell cb1
         unfold xAt
         go_simp
         first
           | done
           | exact ⟨rfl, rfl⟩
           | exact rfl
       try simp only [Act.put, List.setIfInBounds_toArray, List.set_cons_zero, List.set_cons_succ])
    | (refine WX.take (.int .i64 mo) rfl (by rfl) (fun w' hw => ?_) ?_
       · unfold xAt
         go_simp
         exact ((implMost_calls _ _ _ _ _ (Rep.sl_ext H.out (HE1.out.ext (Only.trans (Only.drew (Only.refl [] _)) hw))) id).mono (fun e w5 h5 => ⟨h5.1.trans (congrArg (fun b => Ending.returned (.int .i64 b)) HMO.out.symm), h5.2⟩))
       try simp only [Act.put, List.setIfInBounds_toArray, List.set_cons_zero, List.set_cons_succ]))
  refine WX.nil ?_
  intro w2 nb hw2 hnb hcell
  replace hw2 := Only.trans (Only.drew (Only.refl [] _)) hw2
  have HE2 := Lib.hid (HE1.out.ext hw2)
  have cb2 := hw2.ecell cb1
  have hnw : w.heap.size + 1 ≤ nb := by have h1 := HE1.out.size; have h2 := HSZ0.out; omega
  have m0 : w2.cell? ⟨nb, 0, none⟩ = some (.int .i64 0) := cell_of_row _ _ 0 _ _ _ hcell
  have m1 : w2.cell? ⟨nb, 1, none⟩ = some (.int .i64 0) := cell_of_row _ _ 1 _ _ _ hcell
  have m2 : w2.cell? ⟨nb, 2, none⟩ = some (.int .i64 0) := cell_of_row _ _ 2 _ _ _ hcell
  have mf := fun o => frozen_of_row w2 nb o _ _ hcell
  have hst : ((((w2.setCell ⟨nb, 0, none⟩ (.int .i64 id)).setCell ⟨nb, 1, none⟩ (.int .i64 txn)).setCell ⟨nb, 2, none⟩ (.int .i64 mx)).heap[nb]? : Option Obj) = some (.cells #[.int .i64 id, .int .i64 txn, .int .i64 mx] 75 (0, 0)) := by
    have k1 := heap_setCell_same w2 nb 0 _ _ (.int .i64 id) hcell
    have k2 := heap_setCell_same _ nb 1 _ _ (.int .i64 txn) k1
    have k3 := heap_setCell_same _ nb 2 _ _ (.int .i64 mx) k2
    simpa using k3
  have hO3 : Ext w (((w2.setCell ⟨nb, 0, none⟩ (.int .i64 id)).setCell ⟨nb, 1, none⟩ (.int .i64 txn)).setCell ⟨nb, 2, none⟩ (.int .i64 mx)) :=
    (((((HE0.out.ext HE2.out).setCell (fun h => absurd h (by dsimp only; omega)) _).setCell (fun h => absurd h (by dsimp only; omega)) _).setCell (fun h => absurd h (by dsimp only; omega)) _))
  have hO0 : Ext W0 (((w2.setCell ⟨nb, 0, none⟩ (.int .i64 id)).setCell ⟨nb, 1, none⟩ (.int .i64 txn)).setCell ⟨nb, 2, none⟩ (.int .i64 mx)) := by
    have h2 := HSZ0.out
    have h1 := HE1.out.size
    exact (((HE2.out.setCell (fun h => absurd h (by dsimp only; omega)) _).setCell (fun h => absurd h (by dsimp only; omega)) _).setCell (fun h => absurd h (by dsimp only; omega)) _)
  have HST := Lib.hid hst; have HO3 := Lib.hid hO3; have HO0 := Lib.hid hO0
  clear hst hO3 hO0 hcell cb1 cb2
  go_wp2_with fail
  generalize (((w2.setCell ⟨nb, 0, none⟩ (.int .i64 id)).setCell ⟨nb, 1, none⟩ (.int .i64 txn)).setCell ⟨nb, 2, none⟩ (.int .i64 mx)) = W3 at *
  clear m0 m1 m2 mf hw2
  refine (holdClone_calls A c xs F W3 (Rep.sl_ext H.out HO0.out) (by omega)).mono ?_
  rintro e w4 ⟨v4, rfl, hown4, hO4⟩
  have hf4 := hown4.form
  have HOWN4 := Lib.hid hown4; have HO4 := Lib.hid hO4
  clear hown4 hO4
  have hsw : w.heap.size + 1 ≤ W3.heap.size := by have h1 := HO0.out.size; have h2 := HSZ0.out; omega
  obtain ⟨F4, hF4⟩ : ∃ F4 : List Nat, F4 = v4.ownBlock.toList := ⟨_, rfl⟩
  have hF4m : ∀ g ∈ F4, W3.heap.size ≤ g ∧ g < w4.heap.size := by
    intro g hg
    rw [hF4] at hg
    exact (own_holds_inv HOWN4.out).2.lt g (by simpa using hg)
  have hdel := holdDelete_calls 58 #[.pointer (some ⟨w.heap.size, 0, none⟩)] (fun x => decide (x.Id = id)) (enters_of Try.func58 (by kernel_rfl) rfl) w4 W3.heap.size v4 xs HOWN4.out F4 (fun g hg => by rw [hF4, hg]; simp) (fun g hg => (hF4m g hg).2)
    (fun x W hW => holdIs_calls x W w.heap.size id (hW.cell (HO4.out.ecell (HO0.out.ecell HCB.out)) (fun hg => by have := (hF4m _ hg).1; dsimp only at this; omega)))
  have HDEL := Lib.hid hdel; have HF4 := Lib.hid hF4; have HF4M := Lib.hid hF4m
  clear hdel hF4 hF4m
  obtain ⟨A4, c4, rfl, -⟩ := hf4
  go_wp2_with fail
  refine HDEL.out.mono ?_
  rintro e w5 ⟨v5, rfl, hown5, hb5, hO5⟩
  clear HDEL
  have hE5 : Ext W3 w5 := HO4.out.then_ hO5 (fun g hg hlt => by have := (HF4M.out g hg).1; omega)
  have hfilt : (xs.filter fun x => !decide (x.Id = id)) = xs.filter (fun h => decide (h.Id ≠ id)) := by congr 1; funext x; simp
  rw [hfilt] at hown5
  have hyl : (xs.filter (fun h => decide (h.Id ≠ id))).length ≤ 512 := Nat.le_trans (List.length_filter_le _ _) hlen
  have hre := HRE.out
  generalize (xs.filter (fun h => decide (h.Id ≠ id))) = ys at *
  have HRE2 := Lib.hid hre
  obtain ⟨A5, c5, rfl, hc5⟩ := hown5.form
  obtain ⟨FF5, ⟨_, ⟨A9, c9, hcs9, hsl5⟩, hval9⟩, -⟩ := hown5.done
  obtain ⟨e9, e8⟩ : A9 = A5 ∧ c9 = c5 := by
    subst hcs9
    change Value.slice A5 ys.length c5 = Value.slice A9 ys.length c9 at hval9
    injection hval9 with q1 q2 q3
    exact ⟨q1.symm, q3.symm⟩
  rw [e9, e8] at hsl5
  clear e9 e8 hcs9 hval9
  have HOWN5 := Lib.hid hown5; have HE5 := Lib.hid hE5; have HSL5 := Lib.hid hsl5; have HFB := Lib.hid hb5
  have cb5 := hE5.ecell (HO0.out.ecell HCB.out)
  obtain ⟨F5, hF5⟩ : ∃ F5 : List Nat, F5 = (Value.ownBlock (.slice A5 ys.length c5)).toList := ⟨_, rfl⟩
  have HF5 := Lib.hid (show (∀ g, Value.ownBlock (.slice A5 ys.length c5) = some g → g ∈ F5) ∧ ∀ g ∈ F5, W3.heap.size ≤ g ∧ g < w5.heap.size from
    ⟨fun g hg => by rw [hF5, hg]; simp, fun g hg => by rw [hF5] at hg; exact (own_holds_inv hown5).2.lt g (by simpa using hg)⟩)
  clear hF5
  clear hown5 hE5 hsl5 hb5 hO5 hre HRE hfilt
  go_wp2
  go_loopg [13] (ys.length) (fun m i wr => ∃ k : Nat, m + k = ys.length ∧ i = .int .i64 k ∧ Ext w5 wr ∧ ∀ j (hj : j < ys.length), j < k → ys[j].Id < id)
  case atStart => exact ⟨0, by simp, rfl, Only.refl _ _, fun j hj h => absurd h (Nat.not_lt_zero _)⟩
  case round =>
    obtain ⟨k, hmk, rfl, hE, hup⟩ := hrel
    have HE := Lib.hid hE; have HUP := Lib.hid hup; have HMK := Lib.hid hmk
    have cbr := hE.ecell cb5
    clear hE hup hmk
    have hfin : ∀ (w6 : World), Ext w5 w6 → k ≤ ys.length → (∀ h : k < ys.length, ¬ ys[k].Id < id) → R = ys.take k ++ ⟨id, txn, mx⟩ :: ys.drop k := by
      intro w6 _ hk hend
      obtain ⟨e1, e2⟩ := while_at (fun h : DHold => decide (h.Id < id)) ys k hk (fun j hj hjk => by simpa using HUP.out j hj hjk) (fun h => by simpa using hend h)
      rw [HRE2.out, e1, e2]
    by_cases hlt : k < ys.length
    · obtain ⟨g, off, rfl, hg, -, a0, a1, a2⟩ := sl_Hold (Rep.sl_ext HSL5.out HE.out) k hlt
      have i1 : (k : Int) < (ys.length : Int) := by omega
      by_cases hc : ys[k].Id < id
      · have hcb : decide (ys[k].Id < id) = true := by simp [hc]
        have HUP2 := Lib.hid (show ∀ j (hj : j < ys.length), j < k + 1 → ys[j].Id < id by
          intro j hj hjk
          by_cases he : j = k
          · subst he; exact hc
          · exact HUP.out j hj (by omega))
        clear hc hfin
        go_wp2_with fail
        refine region_ext (by kernel_rfl) (by kernel_rfl) ?_
        repeat (first
          | (refine WQ.skip (by rfl) ?_
             try simp only [Act.put, List.setIfInBounds_toArray, List.set_cons_zero, List.set_cons_succ])
          | (refine WQ.take ?_ (by rfl) (fun w' hw => ?_) ?_
             rotate_left
             · have cq0 := hw.ecell a0
               have cq1 := hw.ecell cbr
               unfold Oper.quietAt
               go_simp
               first
                 | done
                 | exact ⟨rfl, rfl⟩
                 | exact rfl
             try simp only [Act.put, List.setIfInBounds_toArray, List.set_cons_zero, List.set_cons_succ]))
        refine WQ.nil ?_
        intro w2 hw2
        have HE2 := Lib.hid (HE.out.ext hw2)
        clear hw2 a0 a1 a2 cbr
        go_wp2
        go_roundg (ys.length - (k + 1))
        case measure => have := HMK.out; omega
        case rel => exact ⟨k + 1, by have := HMK.out; omega, by go_num, HE2.out, HUP2.out⟩
      · have hcb : decide (ys[k].Id < id) = false := by simp; omega
        have HRK := Lib.hid (hfin w5 (Only.refl _ _) (by omega) (fun _ => hc))
        have hkl : k ≤ ys.length := by omega
        clear hc hfin
        go_wp2_with fail
        refine region_ext (by kernel_rfl) (by kernel_rfl) ?_
        repeat (first
          | (refine WQ.skip (by rfl) ?_
             try simp only [Act.put, List.setIfInBounds_toArray, List.set_cons_zero, List.set_cons_succ])
          | (refine WQ.take ?_ (by rfl) (fun w' hw => ?_) ?_
             rotate_left
             · have cq0 := hw.ecell a0
               have cq1 := hw.ecell cbr
               unfold Oper.quietAt
               go_simp
               first
                 | done
                 | exact ⟨rfl, rfl⟩
                 | exact rfl
             try simp only [Act.put, List.setIfInBounds_toArray, List.set_cons_zero, List.set_cons_succ]))
        refine WQ.nil ?_
        intro w2 hw2
        have HE2 := Lib.hid (HE.out.ext hw2)
        have n0 := HST.out
        clear hw2 a0 a1 a2 cbr
        have hnr : w2.heap[nb]? = some (.cells #[.int .i64 id, .int .i64 txn, .int .i64 mx] 75 (0, 0)) := HE2.out.heap (HE5.out.heap HST.out (by simp)) (by simp)
        have n0 : w2.cell? ⟨nb, 0, none⟩ = some (.int .i64 id) := cell_of_row _ _ 0 _ _ _ hnr
        have n1 : w2.cell? ⟨nb, 1, none⟩ = some (.int .i64 txn) := cell_of_row _ _ 1 _ _ _ hnr
        have n2 : w2.cell? ⟨nb, 2, none⟩ = some (.int .i64 mx) := cell_of_row _ _ 2 _ _ _ hnr
        clear hnr
        have hEA := HE2.out.alloc (.cells #[.int .i64 id, .int .i64 txn, .int .i64 mx] 75)
        have hins := holdInsert_calls (w2.alloc (.cells #[.int .i64 id, .int .i64 txn, .int .i64 mx] 75)) W3.heap.size _ ys (HOWN5.out.ext hEA) (by omega) _ hkl ⟨id, txn, mx⟩ HWN.out w2.heap.size (heap_alloc_new w2 _) (fun g hg he => by have h1 := HF5.out.2 g (HF5.out.1 g hg); have h2 := HE2.out.size; omega) F5 HF5.out.1
        have HINS := Lib.hid hins; have HEA := Lib.hid hEA
        clear hins hEA
        go_wp2_with fail
        refine HINS.out.mono ?_
        rintro e w7 ⟨v7, rfl, hown7, hO7⟩
        have HOWN7 := Lib.hid hown7
        have HE7 := Lib.hid (show Ext W3 w7 from (HE5.out.ext HEA.out).then_ hO7 (fun g hg hlt => by
          have h1 := HF5.out.2 g hg
          omega))
        clear hown7 hO7 HINS
        go_wp2
        go_ret
        rw [HRK.out]
        exact NewPost.ofOwn HOWN7.out (by omega) (HO3.out.ext HE7.out)
    · have hkk : k = ys.length := by have := HMK.out; omega
      have HRK := Lib.hid (hfin w5 (Only.refl _ _) (by omega) (fun h => absurd h hlt))
      have hkl : k ≤ ys.length := by omega
      clear hfin
      subst hkk
      have ib : decide ((ys.length : Int) < (ys.length : Int)) = false := by simp
      clear HMK hlt HUP
      go_wp2_with fail
      refine region_ext (by kernel_rfl) (by kernel_rfl) ?_
      repeat (first
        | (refine WQ.skip (by rfl) ?_
           try simp only [Act.put, List.setIfInBounds_toArray, List.set_cons_zero, List.set_cons_succ])
        | (refine WQ.take ?_ (by rfl) (fun w' hw => ?_) ?_
           rotate_left
           · have cq0 := hw.ecell cbr
             unfold Oper.quietAt
             go_simp
             first
               | done
               | exact ⟨rfl, rfl⟩
               | exact rfl
           try simp only [Act.put, List.setIfInBounds_toArray, List.set_cons_zero, List.set_cons_succ]))
      refine WQ.nil ?_
      intro w2 hw2
      have HE2 := Lib.hid (HE.out.ext hw2)
      clear hw2 cbr
      have hnr : w2.heap[nb]? = some (.cells #[.int .i64 id, .int .i64 txn, .int .i64 mx] 75 (0, 0)) := HE2.out.heap (HE5.out.heap HST.out (by simp)) (by simp)
      have n0 : w2.cell? ⟨nb, 0, none⟩ = some (.int .i64 id) := cell_of_row _ _ 0 _ _ _ hnr
      have n1 : w2.cell? ⟨nb, 1, none⟩ = some (.int .i64 txn) := cell_of_row _ _ 1 _ _ _ hnr
      have n2 : w2.cell? ⟨nb, 2, none⟩ = some (.int .i64 mx) := cell_of_row _ _ 2 _ _ _ hnr
      clear hnr
      have hEA := HE2.out.alloc (.cells #[.int .i64 id, .int .i64 txn, .int .i64 mx] 75)
      have hins := holdInsert_calls (w2.alloc (.cells #[.int .i64 id, .int .i64 txn, .int .i64 mx] 75)) W3.heap.size _ ys (HOWN5.out.ext hEA) (by omega) _ hkl ⟨id, txn, mx⟩ HWN.out w2.heap.size (heap_alloc_new w2 _) (fun g hg he => by have h1 := HF5.out.2 g (HF5.out.1 g hg); have h2 := HE2.out.size; omega) F5 HF5.out.1
      have HINS := Lib.hid hins; have HEA := Lib.hid hEA
      clear hins hEA
      go_wp2_with fail
      refine HINS.out.mono ?_
      rintro e w7 ⟨v7, rfl, hown7, hO7⟩
      have HOWN7 := Lib.hid hown7
      have HE7 := Lib.hid (show Ext W3 w7 from (HE5.out.ext HEA.out).then_ hO7 (fun g hg hlt => by
        have h1 := HF5.out.2 g hg
        omega))
      clear hown7 hO7 HINS
      go_wp2
      go_ret
      rw [HRK.out]
      exact NewPost.ofOwn HOWN7.out (by omega) (HO3.out.ext HE7.out)
set_option maxRecDepth 100000 in
set_option maxHeartbeats 1000000 in
theorem implHoldTake_new (w : World) (A : Option Addr) (c : Nat) (xs : List DHold) (F : List Nat) (h : Rep.Hold.sl w A c xs F) (txn : Int) (et : (Lit.int .i64 txn).wf = true) (id : Int) (ei : (Lit.int .i64 id).wf = true) (b : Int) (eb : (Lit.int .i64 b).wf = true) (a : Int) (ea : (Lit.int .i64 a).wf = true) (hs : xs.length ≤ 1048576) :
    Calls Try.prog 20 #[.slice A xs.length c, .int .i64 txn, .int .i64 id, .int .i64 b, .int .i64 a] w (NewPost Rep.Hold.slice (holdTake xs txn id b a) w) := by
  by_cases hok : takeOK xs txn id b a = true
  · exact implHoldTake_go A c xs F w h txn id b a hok
  obtain ⟨R, hR⟩ : ∃ R, R = holdTake xs txn id b a := ⟨_, rfl⟩
  have hRe : R = [] := by rw [hR, holdTake, if_neg hok]
  rw [← hR]
  have HRE := Lib.hid hRe
  obtain ⟨hf, hhf⟩ : ∃ hf, hf = holdsFault xs := ⟨_, rfl⟩
  have HF := Lib.hid hhf
  have hcs : (hf != 0) = true ∨ ((hf != 0) = false ∧ (inR txn 1 2147483647 = false ∨ inR txn 1 2147483647 = true ∧ (inR id 0 511 = false ∨ inR id 0 511 = true ∧ (inR b (-1) 1000 = false ∨ inR b (-1) 1000 = true ∧ inR a (-1) 1000 = false)))) := by
    by_cases h0 : hf = 0
    · right
      refine ⟨by simp [h0], ?_⟩
      rw [hhf] at h0
      simp only [takeOK, h0, decide_true, Bool.true_and, Bool.and_eq_true, not_and, Bool.not_eq_true] at hok
      cases h1 : inR txn 1 2147483647
      · exact .inl rfl
      cases h2 : inR id 0 511
      · exact .inr ⟨rfl, .inl rfl⟩
      cases h3 : inR b (-1) 1000
      · exact .inr ⟨rfl, .inr ⟨rfl, .inl rfl⟩⟩
      cases h4 : inR a (-1) 1000
      · exact .inr ⟨rfl, .inr ⟨rfl, .inr ⟨rfl, rfl⟩⟩⟩
      rw [h1, h2, h3, h4] at hok
      simp at hok
    · exact .inl (by simp [h0])
  have hE0 := alloc_ext w (.cells #[.int .i64 id] 2)
  have hB := heap_alloc_new w (.cells #[.int .i64 id] 2)
  have cb : (w.alloc (.cells #[.int .i64 id] 2)).cell? ⟨w.heap.size, 0, none⟩ = some (.int .i64 id) := cell_of_row _ _ 0 _ _ _ hB
  have HE0 := Lib.hid hE0; have H := Lib.hid (Rep.sl_ext h hE0)
  clear hR hRe hok hhf hE0 hB h
  rcases hcs with h1 | ⟨h1, h2 | ⟨h2, h3 | ⟨h3, h4 | ⟨h4, h5⟩⟩⟩⟩
  all_goals
    go_enter Try.func20, Try.ntmps20
    go_wp2_with fail
    generalize (w.alloc (.cells #[.int .i64 id] 2)) = W0 at *
    refine (implHoldsFault_calls _ _ _ _ _ H.out).mono ?_
    rw [← HF.out]
    rintro e w1 ⟨rfl, hO⟩
    have HE1 := Lib.hid hO
    have cb1 := hO.ecell cb
    clear hO
    go_wp2_with (go_at_call 43; refine (implIn_calls _ _ _ _).mono ?_; rintro e w9 ⟨rfl, rfl⟩)
    go_ret
    rw [HRE.out]
    exact NewPost.nil (HE0.out.ext HE1.out)
theorem NewPost.weak {α : Type} {r : Rep α} {x : α} {w : World} {e : Ending} {w' : World} (h : NewPost r x w e w') : ∃ v F, e = .returned v ∧ r.V w' v x F ∧ Ext w w' := by
  obtain ⟨v, F, h1, h2, h3⟩ := h
  exact ⟨v, F, h1, h2, h3.ext⟩
theorem specHoldTake_calls (w : World) (A : Option Addr) (c : Nat) (xs : List DHold) (F : List Nat) (h : Rep.Hold.sl w A c xs F) (txn : Int) (et : (Lit.int .i64 txn).wf = true) (id : Int) (ei : (Lit.int .i64 id).wf = true) (b : Int) (eb : (Lit.int .i64 b).wf = true) (a : Int) (ea : (Lit.int .i64 a).wf = true) (hs : xs.length ≤ 1048576) :
    Calls Try.prog 18 #[.slice A xs.length c, .int .i64 txn, .int .i64 id, .int .i64 b, .int .i64 a] w fun e w' => ∃ v F, e = .returned v ∧ Rep.Hold.slice.V w' v (holdTake xs txn id b a) F ∧ Ext w w' :=
  (specHoldTake_new A c xs F w h txn id b a et).mono fun _ _ h => h.weak
theorem holdTake_len (xs : List DHold) (txn id b a : Int) : (holdTake xs txn id b a).length ≤ 513 := by
  unfold holdTake
  split
  · rename_i hok
    have h := hok
    simp only [takeOK, Bool.and_eq_true, decide_eq_true_eq] at h
    have hl := (holdsFault_ord h.1.1.1.1).2.2
    have := holdTake_is hok
    rw [holdTake, if_pos hok] at this
    rw [this]
    have h1 := List.length_filter_le (fun h : DHold => decide (h.Id ≠ id)) xs
    have h2 : ((xs.filter (fun h => decide (h.Id ≠ id))).takeWhile (fun h => decide (h.Id < id)) ++ (xs.filter (fun h => decide (h.Id ≠ id))).dropWhile (fun h => decide (h.Id < id))).length = (xs.filter (fun h => decide (h.Id ≠ id))).length := by rw [List.takeWhile_append_dropWhile]
    simp only [List.length_append, List.length_cons] at h2 ⊢
    omega
  · simp
theorem holdTake_ct (xs : List DHold) (txn id b a : Int) : ctHoldS (holdTake xs txn id b a) ≤ 1152921504606846976 := by
  have h1 := ctHoldS_wt (holdTake xs txn id b a)
  have h2 := holdTake_len xs txn id b a
  omega
end Go.Proofs.Ytildfjlekplgjaa
