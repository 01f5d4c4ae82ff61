/- RunOps: the data law; the reference's. -/
import Derived.Test.YtdjcfcgkldokgaaD16
namespace Go.Proofs.Ytdjcfcgkldokgaa
open Go.RowKit
set_option linter.unusedSimpArgs false
set_option linter.unusedVariables false
def runN (lim : Int) (n : Nat) : Nat := if 0 ≤ lim ∧ lim < n then lim.toNat else n
def stepD (vd : Bool) (d : DDisk) (ops : List DOp) (i : Nat) : DDisk := if vd = true then (ops.take i).foldl doOp d else d
def runOps (d : DDisk) (ops : List DOp) (lim : Int) : DOpsResult := ⟨!(decide (0 ≤ lim ∧ lim < ops.length)), runN lim ops.length, stepD (validDisk d) d ops (runN lim ops.length)⟩
theorem stepD_zero (vd : Bool) (d : DDisk) (ops : List DOp) : stepD vd d ops 0 = d := by
  unfold stepD; split <;> simp
theorem stepD_next (d : DDisk) (ops : List DOp) (k : Nat) (hk : k < ops.length) : stepD true d ops (k + 1) = doOp (stepD true d ops k) ops[k] := by
  unfold stepD
  rw [if_pos rfl, if_pos rfl, List.take_succ_eq_append_getElem hk, List.foldl_append]
  rfl
theorem stepD_false (d : DDisk) (ops : List DOp) (k : Nat) : stepD false d ops k = d := by
  unfold stepD; rw [if_neg (by simp)]
theorem valid_fold (ops : List DOp) : ∀ d : DDisk, validDisk d = true → validDisk (ops.foldl doOp d) = true := by
  induction ops with
  | nil => intro d h; exact h
  | cons x xs ih => intro d h; exact ih _ (valid_doOp h)
theorem stepD_valid {d : DDisk} (ops : List DOp) (k : Nat) (h : validDisk d = true) : validDisk (stepD true d ops k) = true := by
  unfold stepD; rw [if_pos rfl]; exact valid_fold _ _ h
theorem wt_fold (ops : List DOp) : ∀ d : DDisk, validDisk d = true → wtDisk (ops.foldl doOp d) ≤ wtDisk d + wtOpS ops := by
  induction ops with
  | nil => intro d h; simp [wtOpS]
  | cons x xs ih =>
    intro d h
    have h1 := ih _ (valid_doOp (x := x) h)
    have h2 := doOp_wt (x := x) h
    simp only [List.foldl_cons]
    simp only [wtOpS, List.length_cons, List.map_cons, List.sum_cons] at *
    omega
theorem wtOpS_take (ops : List DOp) (k : Nat) : wtOpS (ops.take k) ≤ wtOpS ops := by
  have h : wtOpS ops = wtOpS (ops.take k) + wtOpS (ops.drop k) := by
    have := congrArg wtOpS (List.take_append_drop k ops).symm
    rw [this]
    simp only [wtOpS, List.take_append_drop, List.length_append, List.map_append, List.sum_append]
    have h1 : (ops.take k).length + (ops.drop k).length = ops.length := by rw [← List.length_append, List.take_append_drop]
    have h2 : ((ops.take k).map wtOp).sum + ((ops.drop k).map wtOp).sum = (ops.map wtOp).sum := by rw [← List.sum_append, ← List.map_append, List.take_append_drop]
    omega
  omega
theorem stepD_wt (d : DDisk) (ops : List DOp) (k : Nat) : wtDisk (stepD (validDisk d) d ops k) ≤ wtDisk d + wtOpS ops := by
  unfold stepD
  split
  · rename_i h
    have := wt_fold (ops.take k) d h
    have := wtOpS_take ops k
    omega
  · omega
def OpsPost (r : DOpsResult) (w : World) (e : Ending) (w' : World) : Prop :=
  ∃ A c Ap cp n, e = .returned (.agg #[.bool r.Done, .int .i64 r.Used, .slice A r.Disk.Durable.length c, .slice Ap r.Disk.Pending.length cp]) ∧ DiskOwn w.heap.size n w' A c (.slice Ap r.Disk.Pending.length cp) r.Disk ∧ w.heap.size ≤ n ∧ Ext w w'
theorem DiskP.handed {P : Nat → Prop} {b n : Nat} {w w2 w3 : World} {A : Option Addr} {c : Nat} {Ap : Option Addr} {cp k m : Nat} {dn : Bool} {us : Int} {r : DOpsResult} {rs : List Nat} (hD : DiskP P b n w2 A c (.slice Ap m cp) r.Disk) (hO : Only rs w2 w3) (hr : ∀ g ∈ rs, ¬ P g ∨ g < b) (hbn : b ≤ n) (hwb : w.heap.size ≤ b) (hE : Ext w w3) (h1 : dn = r.Done) (h2 : us = r.Used) (h3 : k = r.Disk.Durable.length) (h4 : m = r.Disk.Pending.length) :
    OpsPost r w (.returned (.agg #[.bool dn, .int .i64 us, .slice A k c, .slice Ap m cp])) w3 := by
  subst h1; subst h2; subst h3; subst h4
  exact ⟨A, c, Ap, cp, n, rfl, ((hD.keep hO (fun g hg => (hr g hg).elim .inl (fun h => .inr (.inl h))) hbn).more hwb).own, by omega, hE⟩
set_option maxRecDepth 100000 in
set_option maxHeartbeats 2000000 in
theorem specRunOps_post (w : World) (v : Value) (d : DDisk) (F : List Nat) (h : Rep.Disk.V w v d F) (Ao : Option Addr) (co : Nat) (ops : List DOp) (Fo : List Nat) (ho : Rep.Op.sl w Ao co ops Fo) (lim : Int) (el : (Lit.int .i64 lim).wf = true) (hs : wtDisk d ≤ 1048576) :
    Calls Try.prog 28 #[v, .slice Ao ops.length co, .int .i64 lim] w (OpsPost (runOps d ops lim) w) := by
  obtain ⟨_, ⟨A1, c1, F1, A2, c2, F2, rfl, rfl, hw, s1, s2⟩, rfl⟩ := id h
  have hu := Try.underlying29
  have hu2 := Try.underlying90
  have hu3 := Try.underlying49
  have hmo := Nat.le_trans ho.1 ho.2.1
  unfold maxLen at hmo
  show Calls _ _ #[.agg #[_, _], _, _] _ _
  obtain ⟨R, hR⟩ : ∃ R, R = runOps d ops lim := ⟨_, rfl⟩
  rw [← hR]
  have HR := Lib.hid hR
  clear hR
  obtain ⟨st, hst⟩ : ∃ st, st = stepD (validDisk d) d ops := ⟨_, rfl⟩
  have HST := Lib.hid hst
  clear hst
  have HO := Lib.hid ho; have HS1 := Lib.hid s1; have HS2 := Lib.hid s2
  clear ho
  go_enter Try.func28, Try.ntmps28
  go_wp2_with fail
  refine (l1CopyDisk_calls _ d _ _ ⟨_, ⟨A1, c1, _, A2, c2, _, rfl, rfl, hw, Rep.sl_ext s1 ((alloc_ext _ _).alloc _), Rep.sl_ext s2 ((alloc_ext _ _).alloc _)⟩, rfl⟩ hs).mono ?_
  rintro e w1 ⟨B, dd, pv, n, rfl, hD, hn, hE⟩
  obtain ⟨Ap, cp, rfl, -⟩ := hD.form
  have HE1 := Lib.hid (Only.ext ((alloc_ext w _).alloc _) hE)
  have hb1 := Only.heap hE (heap_alloc2_old w _ _) (by simp)
  have hb2 := Only.heap hE (heap_alloc2_new w _ _) (by simp)
  have hz1 : w.heap.size + 2 ≤ w1.heap.size := by have := hE.size; simp at this; omega
  have hn1 : w.heap.size + 2 ≤ n := by simp at hn; omega
  have hn2 := hD.le
  have hDP0 := DiskP.of (P := fun g => g ≠ w1.heap.size) (hD.more (b' := w.heap.size + 2) (by simp)) (fun g _ hg => by omega) hn1
  clear hE hn hD s1 s2
  -- the result's own box
  have hb3 := heap_alloc_new w1 (.cells #[.bool true, .int .i64 0, .slice B d.Durable.length dd, .slice Ap d.Pending.length cp] 49)
  have hEA := alloc_ext w1 (.cells #[.bool true, .int .i64 0, .slice B d.Durable.length dd, .slice Ap d.Pending.length cp] 49)
  have hzA : (w1.alloc (.cells #[.bool true, .int .i64 0, .slice B d.Durable.length dd, .slice Ap d.Pending.length cp] 49)).heap.size = w1.heap.size + 1 := by simp
  have HB1 := Lib.hid (hEA.heap hb1 (by simp)); have HB2 := Lib.hid (hEA.heap hb2 (by simp)); have HB3 := Lib.hid hb3
  have HEA := Lib.hid (HE1.out.ext hEA)
  have HDP1 := Lib.hid (hDP0.ext hEA hn1)
  have k1 := fun o => cell_of_row _ _ o _ _ _ HB1.out
  clear hb1 hb2 hb3 hDP0
  go_wp2_with fail
  generalize w1.alloc (.cells #[.bool true, .int .i64 0, .slice B d.Durable.length dd, .slice Ap d.Pending.length cp] 49) = WA at *
  refine (specValid_calls _ d _ _ ⟨_, ⟨A1, c1, _, A2, c2, _, rfl, rfl, hw, Rep.sl_ext HS1.out HEA.out, Rep.sl_ext HS2.out HEA.out⟩, rfl⟩).mono ?_
  rintro e w2 ⟨rfl, hO⟩
  have hb2 := hO.heap HB2.out (by simp)
  have hb3 := hO.heap HB3.out (by simp)
  have hDP2 := HDP1.out.ext hO hn1
  have hE2 := HEA.out.ext hO
  have hz2 : w1.heap.size + 1 ≤ w2.heap.size := by have := hO.size; omega
  have HB2' := Lib.hid hb2; have HB3' := Lib.hid hb3; have HDP2 := Lib.hid hDP2; have HE2 := Lib.hid hE2
  clear hO hb2 hb3 hDP2 hE2 k1 HB1 HB2 HB3 HDP1 hEA HEA HE1
  have hst0 : st 0 = d := by rw [HST.out]; exact stepD_zero _ _ _
  have HST0 := Lib.hid hst0
  clear hst0
  obtain ⟨vd, hvd⟩ : ∃ vd, vd = validDisk d := ⟨_, rfl⟩
  rw [← hvd]
  have HVD := Lib.hid hvd
  clear hvd
  go_wp2
  go_loopg [9] (ops.length) (fun m i wr => ∃ (k : Nat) (A : Option Addr) (c : Nat) (Ap : Option Addr) (cp n : Nat), m + k = ops.length ∧ i = .int .i64 k ∧ (0 ≤ lim → (k : Int) ≤ lim) ∧ wr.heap[w1.heap.size]? = some (.cells #[.bool true, .int .i64 k, .slice A (st k).Durable.length c, .slice Ap (st k).Pending.length cp] 49 (0, 0)) ∧ DiskP (fun g => g ≠ w1.heap.size) (w.heap.size + 2) n wr A c (.slice Ap (st k).Pending.length cp) (st k) ∧ w.heap.size + 2 ≤ n ∧ Ext w wr ∧ w1.heap.size + 1 ≤ wr.heap.size ∧ wr.heap[w.heap.size + 1]? = w2.heap[w.heap.size + 1]?)
  case atStart =>
    refine ⟨0, B, dd, Ap, cp, n, by simp, rfl, fun h => h, ?_, ?_, hn1, HE2.out, hz2, rfl⟩
    · rw [HST0.out]; exact HB3'.out
    · rw [HST0.out]; exact HDP2.out
  case round =>
    obtain ⟨k, A, c, Ap', cp', n', hk, rfl, hle, hrow, hDk, hnk, hEk, hzk, hr2⟩ := hrel
    have m3 := fun o => cell_of_row _ _ o _ _ _ hrow
    have f3 := fun o => frozen_of_row _ _ o _ _ hrow
    have hrow2 := hr2.trans HB2'.out
    have m2 := fun o => cell_of_row _ _ o _ _ _ hrow2
    have f2 := fun o => frozen_of_row _ _ o _ _ hrow2
    have HDk := Lib.hid hDk; have HEk := Lib.hid hEk; have HROW := Lib.hid hrow; have HROW2 := Lib.hid hrow2; have HLE := Lib.hid hle; have HK := Lib.hid hk
    have hneA : ¬ w1.heap.size = w.heap.size + 1 := by omega
    have hneB : ¬ w.heap.size + 1 = w1.heap.size := by omega
    clear hDk hEk hrow hrow2 hr2 hle hk
    by_cases hlt : k < ops.length
    · by_cases hlim : 0 ≤ lim ∧ lim ≤ k
      · have hl1 : decide (0 ≤ lim) = true := by simp; omega
        have hl2 : decide (lim ≤ (k : Int)) = true := by simp; omega
        have hRk : R = ⟨false, k, st k⟩ := by
          have h1 := HLE.out hlim.1
          have hc : 0 ≤ lim ∧ lim < (ops.length : Int) := by omega
          rw [HR.out, runOps, runN, if_pos hc, HST.out]
          have : lim.toNat = k := by omega
          rw [this]
          simp [hc]
        have HRk := Lib.hid hRk
        clear hRk hlim
        go_wp2
        refine bodyPost_ret (v := .agg #[.bool false, .int .i64 k, .slice A (st k).Durable.length c, .slice Ap' (st k).Pending.length cp']) (by simp [results, Try.results28, go_sem, m2]) rfl ?_
        rw [HRk.out]
        refine DiskP.handed (r := ⟨false, (k : Int), st k⟩) (P := fun g => g ≠ w1.heap.size) (b := w.heap.size + 2) (rs := [w1.heap.size, w.heap.size + 1]) HDk.out ?_ (by intro g hg; simp at hg; rcases hg with rfl | rfl <;> first | exact .inr (by omega) | exact .inl (fun h => h rfl)) hnk (by omega) ?_ rfl rfl rfl rfl
        · repeat (first | with_reducible exact Only.refl _ _ | ((with_reducible apply Only.set); · simp))
        · repeat (first | with_reducible exact HEk.out | ((with_reducible apply Only.set); · (first | (simp; done) | (simp; omega))))
      · have hnl : decide (0 ≤ lim) = false ∨ (decide (0 ≤ lim) = true ∧ decide (lim ≤ (k : Int)) = false) := by
          by_cases h0 : 0 ≤ lim
          · exact .inr ⟨by simp [h0], by simp; omega⟩
          · exact .inl (by simp; omega)
        have HLE2 := Lib.hid (show 0 ≤ lim → (k : Int) + 1 ≤ lim by intro h; omega)
        clear hlim
        cases hvc : vd
        · subst hvc
          have HSk := Lib.hid (show st (k + 1) = st k by rw [HST.out, ← HVD.out, stepD_false, stepD_false])
          rcases hnl with h5 | ⟨h5, h6⟩
          all_goals
            go_wp2
            go_roundg (ops.length - (k + 1))
            case measure => have := HK.out; omega
            case rel =>
              refine ⟨k + 1, A, c, Ap', cp', n', by have := HK.out; omega, by go_num, fun h => by have := HLE2.out h; omega, ?_, ?_, hnk, ?_, ?_, ?_⟩
              · rw [HSk.out]
                exact heap_setCell_same _ _ 1 _ _ _ HROW.out
              · rw [HSk.out]
                exact HDk.out.keep (H := [w1.heap.size]) ((Only.refl _ _).setCell (by simp) _) (fun q hq => .inl (fun hne => hne (by simpa using hq))) hnk
              · exact HEk.out.setCell (by simp; omega) _
              · simp; omega
              · exact (Only.heap (F := [w1.heap.size]) ((Only.refl _ _).setCell (by simp) _) HROW2.out (by simp; omega)).trans HB2'.out.symm
        · subst hvc
          have HX := Lib.hid (stepD_next d ops k hlt)
          have hvk : validDisk (st k) = true := by rw [HST.out, ← HVD.out]; exact stepD_valid _ _ HVD.out.symm
          obtain ⟨g, off, Ax, cx, Fx, rfl, hg, hwf, t1, e0, e1, e2⟩ := sl_Op HO.out k hlt
          have HSk := Lib.hid (show st (k + 1) = doOp (st k) ops[k] by rw [HST.out, ← HVD.out]; exact HX.out)
          replace e0 := HEk.out.ecell e0
          replace e1 := HEk.out.ecell e1
          replace e2 := HEk.out.ecell e2
          replace t1 := Rep.sl_ext t1 HEk.out
          generalize ops[k] = x at *
          have HT := Lib.hid t1; have HVK := Lib.hid hvk; have HWF := Lib.hid hwf
          clear HX t1 hvk hwf
          rcases hnl with h5 | ⟨h5, h6⟩
          all_goals
            go_wp2_with fail
            have hneG : ¬ g = w1.heap.size := by omega
            refine wp_region_noPanic ?_
            refine wp_region_held_drew (S := (fun w' => w'.cell? ⟨g, off + k * 3, none⟩ = some (.int .i64 x.Kind) ∧ w'.cell? ⟨g, off + k * 3 + 1, none⟩ = some (.int .i64 x.Sector) ∧ w'.cell? ⟨g, off + k * 3 + 2, none⟩ = some (.slice Ax x.Data.length cx))) (by kernel_rfl) ?_ (fun hHeld => ?_)
            · exact ⟨e0, e1, e2⟩
            refine wpAnyH_take (i := 0) (v := ?_) rfl (by kernel_rfl) (by kernel_rfl) (by kernel_rfl) (fun _ _ _ h => h) (Or.inl ⟨by rfl, ?_⟩) (by assumption) ?_
            rotate_left
            · intro w hSw; (try dsimp only at hSw); go_simp <;> with_reducible rfl
            try simp only [Act.put, List.setIfInBounds_toArray, List.set_cons_zero, List.set_cons_succ]
            refine wpAnyH_take (i := 2) (v := ?_) rfl (by kernel_rfl) (by kernel_rfl) (by kernel_rfl) (fun _ _ _ h => h) (Or.inl ⟨by rfl, ?_⟩) (by assumption) ?_
            rotate_left
            · intro w hSw; (try dsimp only at hSw); go_simp <;> with_reducible rfl
            try simp only [Act.put, List.setIfInBounds_toArray, List.set_cons_zero, List.set_cons_succ]
            refine wpAnyH_take (i := 3) (v := ?_) rfl (by kernel_rfl) (by kernel_rfl) (by kernel_rfl) (fun _ _ _ h => h) (Or.inl ⟨by rfl, ?_⟩) (by assumption) ?_
            rotate_left
            · intro w hSw; (try dsimp only at hSw); go_simp <;> with_reducible rfl
            try simp only [Act.put, List.setIfInBounds_toArray, List.set_cons_zero, List.set_cons_succ]
            refine wpAnyH_take (i := 4) (v := ?_) rfl (by kernel_rfl) (by kernel_rfl) (by kernel_rfl) (fun _ _ _ h => h) (Or.inl ⟨by rfl, ?_⟩) (by assumption) ?_
            rotate_left
            · intro w hSw; (try dsimp only at hSw); go_simp <;> with_reducible rfl
            try simp only [Act.put, List.setIfInBounds_toArray, List.set_cons_zero, List.set_cons_succ]
            refine wpAnyH_take (i := 5) (v := ?_) rfl (by kernel_rfl) (by kernel_rfl) (by kernel_rfl) (fun _ _ _ h => h) (Or.inl ⟨by rfl, ?_⟩) (by assumption) ?_
            rotate_left
            · intro w hSw; (try dsimp only at hSw); go_simp <;> with_reducible rfl
            try simp only [Act.put, List.setIfInBounds_toArray, List.set_cons_zero, List.set_cons_succ]
            refine wpAnyH_ready (rs := [1]) (by kernel_rfl) (by simp) ?_
            refine AllReadyH.cons rfl (fun K hK => ?_) ?_
            rotate_left
            · exact AllReadyH.nil
            go_simp
            refine hK.out _ _ ?_ (fun hHeld => ?_)
            · (try dsimp only); exact ⟨e0, e1, e2⟩
            clear hK K
            try simp only [Act.put, List.setIfInBounds_toArray, List.set_cons_zero, List.set_cons_succ]
            refine wpAnyH_ready (rs := [6]) (by kernel_rfl) (by simp) ?_
            refine AllReadyH.cons rfl (fun K hK => ?_) ?_
            rotate_left
            · exact AllReadyH.nil
            go_simp
            refine (l1Do_calls (fun g => g ≠ w1.heap.size) (w.heap.size + 2) n' _ A c Ap' cp' (st k) (HDk.out.ext (Only.refl [] wr).drew hnk) hnk (fun q hq => by simp at hq; omega) HVK.out x HWF.out Ax cx Fx (Rep.sl_ext HT.out (Only.refl [] wr).drew)).mono ?_
            rw [← HSk.out]
            rintro e w5 ⟨A5, c5, Ap5, cp5, n5, rfl, hD5, hn5, H5, hO5, hH5⟩
            have hg5 : g ∉ H5 := fun hq => by have := (hH5 _ hq).2; omega
            have hr5 := hO5.heap (show wr.drew.heap[w1.heap.size]? = _ from HROW.out) (fun hq => (hH5 _ hq).1 rfl)
            have hr5' := hO5.heap (show wr.drew.heap[w.heap.size + 1]? = _ from HROW2.out) (fun hq => by have := (hH5 _ hq).2; omega)
            have p0 := hO5.cell (show wr.drew.cell? _ = _ from e0) hg5
            have p1 := hO5.cell (show wr.drew.cell? _ = _ from e1) hg5
            have p2 := hO5.cell (show wr.drew.cell? _ = _ from e2) hg5
            have hz5 : wr.heap.size ≤ w5.heap.size := hO5.size
            have hE5 : Ext w w5 := (HEk.out.drew).then_ hO5 (fun q hq hl => by have := (hH5 _ hq).2; omega)
            have n3 := fun o => cell_of_row _ _ o _ _ _ hr5
            have g3 := fun o => frozen_of_row _ _ o _ _ hr5
            have HD5 := Lib.hid hD5; have HE5 := Lib.hid hE5; have HR5 := Lib.hid hr5; have HR5' := Lib.hid hr5'
            clear hD5 hO5 hH5 hr5 hr5' hE5 m3 f3 m2 f2 e0 e1 e2
            refine hK.out _ _ ?_ (fun hHeld => ?_)
            · (try dsimp only); exact ⟨p0, p1, p2⟩
            clear hK K
            try simp only [Act.put, List.setIfInBounds_toArray, List.set_cons_zero, List.set_cons_succ]
            refine wpAnyH_take (i := 7) (v := ?_) rfl (by kernel_rfl) (by kernel_rfl) (by kernel_rfl) (fun _ _ _ h => h) (Or.inl ⟨by rfl, ?_⟩) (by assumption) ?_
            rotate_left
            · intro w hSw; (try dsimp only at hSw); go_simp <;> with_reducible rfl
            try simp only [Act.put, List.setIfInBounds_toArray, List.set_cons_zero, List.set_cons_succ]
            refine wpAnyH_ready (rs := [8]) (by kernel_rfl) (by simp) ?_
            refine AllReadyH.cons rfl (fun K hK => ?_) ?_
            rotate_left
            · exact AllReadyH.nil
            go_simp
            refine hK.out _ _ ?_ (fun hHeld => ?_)
            · (try dsimp only); (refine ⟨Only.cell (F := [w1.heap.size]) ?_ p0 (by simpa using hneG), Only.cell (F := [w1.heap.size]) ?_ p1 (by simpa using hneG), Only.cell (F := [w1.heap.size]) ?_ p2 (by simpa using hneG)⟩ <;> exact ((Only.refl _ _).setCell (by simp) _).setCell (by simp) _)
            clear hK K
            try simp only [Act.put, List.setIfInBounds_toArray, List.set_cons_zero, List.set_cons_succ]
            refine wpAnyH_done (by kernel_rfl) ?_ _
            refine NoPanic.normal ?_
            clear p0 p1 p2
            go_wp2
            go_roundg (ops.length - (k + 1))
            case measure => have := HK.out; omega
            case rel =>
              refine ⟨k + 1, A5, c5, Ap5, cp5, n5, by have := HK.out; omega, by go_num, fun h => by have := HLE2.out h; omega, ?_, ?_, hn5, ?_, ?_, ?_⟩
              · exact heap_setCell_same _ _ 1 _ _ _ (heap_setCell_same _ _ 3 _ _ _ (heap_setCell_same _ _ 2 _ _ _ HR5.out))
              · exact HD5.out.keep (H := [w1.heap.size]) ((((Only.refl _ _).setCell (by simp) _).setCell (by simp) _).setCell (by simp) _) (fun q hq => .inl (fun hne => hne (by simpa using hq))) hn5
              · exact (((HE5.out.setCell (by simp; omega) _).setCell (by simp; omega) _).setCell (by simp; omega) _)
              · simp; omega
              · exact (Only.heap (F := [w1.heap.size]) ((((Only.refl _ _).setCell (by simp) _).setCell (by simp) _).setCell (by simp) _) HR5'.out (by simp; omega)).trans HB2'.out.symm
    · have hkk : k = ops.length := by have := HK.out; omega
      have hRk : R = ⟨true, k, st k⟩ := by
        have hc : ¬ (0 ≤ lim ∧ lim < (ops.length : Int)) := by
          intro h
          have := HLE.out h.1
          omega
        rw [HR.out, runOps, runN, if_neg hc, HST.out, hkk]
        simp [hc]
      have HRk := Lib.hid hRk
      clear hRk hkk
      go_wp2
      refine bodyPost_ret (v := .agg #[.bool true, .int .i64 k, .slice A (st k).Durable.length c, .slice Ap' (st k).Pending.length cp']) (by simp [results, Try.results28, go_sem, m2]) rfl ?_
      rw [HRk.out]
      refine DiskP.handed (r := ⟨true, (k : Int), st k⟩) (P := fun g => g ≠ w1.heap.size) (b := w.heap.size + 2) (rs := [w1.heap.size, w.heap.size + 1]) HDk.out ?_ (by intro g hg; simp at hg; rcases hg with rfl | rfl <;> first | exact .inr (by omega) | exact .inl (fun h => h rfl)) hnk (by omega) ?_ rfl rfl rfl rfl
      · repeat (first | with_reducible exact Only.refl _ _ | ((with_reducible apply Only.set); · simp))
      · repeat (first | with_reducible exact HEk.out | ((with_reducible apply Only.set); · (first | (simp; done) | (simp; omega))))
end Go.Proofs.Ytdjcfcgkldokgaa
