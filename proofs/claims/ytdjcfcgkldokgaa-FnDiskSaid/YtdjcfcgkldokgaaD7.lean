/- DiskSync in both packages. -/
import Derived.Test.YtdjcfcgkldokgaaD6
namespace Go.Proofs.Ytdjcfcgkldokgaa
open Go.RowKit
set_option linter.unusedSimpArgs false
set_option linter.unusedVariables false
def diskSync (d : DDisk) : DDisk := if validDisk d then ⟨settleL d.Durable d.Pending, []⟩ else d
theorem selOf_true (keep : List Int) : selOf true keep = fun _ => true := by funext i; simp [selOf]
theorem DiskOwn.more {b b' n : Nat} {w : World} {A : Option Addr} {c : Nat} {pv : Value} {d : DDisk} (h : DiskOwn b n w A c pv d) (hb : b' ≤ b) : DiskOwn b' n w A c pv d := by
  obtain ⟨F, h1, h2, h3, h4, h5⟩ := h
  exact ⟨F, h1, fun g hg => by have := h2 g hg; omega, h3, h4, h5⟩
theorem DiskOwn.le {b n : Nat} {w : World} {A : Option Addr} {c : Nat} {pv : Value} {d : DDisk} (h : DiskOwn b n w A c pv d) : n ≤ w.heap.size := by
  obtain ⟨F, h1, h2, h3, h4, h5⟩ := h
  exact h5.le
/-- What a callee answers is handed on: laid in a result cell r of the caller's. -/
theorem DiskOwn.handed {b n r : Nat} {w w2 w3 : World} {A : Option Addr} {c : Nat} {Ap : Option Addr} {cp k m : Nat} {d : DDisk} (h : DiskOwn b n w2 A c (.slice Ap m cp) d) (hO : Only [r] w2 w3) (hr : r < b) (hbn : b ≤ n) (hwb : w.heap.size ≤ b) (hE : Ext w w3) (hk : k = d.Durable.length) :
    DiskPost d w (.returned (.agg #[.slice A k c, .slice Ap m cp])) w3 := by
  subst hk
  exact ⟨A, c, _, n, rfl, (h.keep hO (fun g hg => by simp at hg; omega) hbn).more hwb, by omega, hE⟩
set_option maxRecDepth 100000 in
set_option maxHeartbeats 1000000 in
theorem specDiskSync_post (w : World) (v : Value) (d : DDisk) (F : List Nat) (h : Rep.Disk.V w v d F) (hs : wtDisk d ≤ 1048576) :
    Calls Try.prog 11 #[v] w (DiskPost (diskSync d) w) := by
  obtain ⟨_, ⟨A1, c1, F1, A2, c2, F2, rfl, rfl, hw, s1, s2⟩, rfl⟩ := id h
  have hu := Try.underlying29
  show Calls _ _ #[.agg #[_, _]] _ _
  obtain ⟨R, hR⟩ : ∃ R, R = diskSync d := ⟨_, rfl⟩
  rw [← hR]
  have HR := Lib.hid hR
  clear hR
  go_enter Try.func11, Try.ntmps11
  go_wp2_with fail
  refine (specValid_calls _ d _ _ ⟨_, ⟨A1, c1, _, A2, c2, _, rfl, rfl, hw, Rep.sl_ext s1 ((alloc_ext _ _).alloc _), Rep.sl_ext s2 ((alloc_ext _ _).alloc _)⟩, rfl⟩).mono ?_
  rintro e w1 ⟨rfl, hO⟩
  have HE1 := Lib.hid (Only.ext ((alloc_ext w _).alloc _) hO)
  have hb1 := Only.heap hO (heap_alloc2_old w _ _) (by simp)
  have hb2 := Only.heap hO (heap_alloc2_new w _ _) (by simp)
  have hz1 : w.heap.size + 2 ≤ w1.heap.size := by have := hO.size; simp at this; omega
  clear hO
  have m1 := fun o => cell_of_row _ _ o _ _ _ hb1
  have m2 := fun o => cell_of_row _ _ o _ _ _ hb2
  have f2 := fun o => frozen_of_row _ _ o _ _ hb2
  have HB2 := Lib.hid hb2
  clear hb1 hb2
  cases hvd : validDisk d
  · obtain rfl : R = d := by rw [HR.out, diskSync, hvd]; rfl
    go_wp2_with fail
    refine (l1CopyDisk_calls _ R _ _ ⟨_, ⟨A1, c1, _, A2, c2, _, rfl, rfl, hw, Rep.sl_ext s1 HE1.out, Rep.sl_ext s2 HE1.out⟩, rfl⟩ hs).mono ?_
    rintro e w2 ⟨B, dd, pv, n, rfl, hD, hn, hE⟩
    obtain ⟨Ap, cp, rfl, -⟩ := hD.form
    have hb2 := hE.heap HB2.out (by simp)
    clear m1 m2 f2
    have m2 := fun o => cell_of_row _ _ o _ _ _ hb2
    have f2 := fun o => frozen_of_row _ _ o _ _ hb2
    have HE2 := Lib.hid (HE1.out.ext hE)
    have HD := Lib.hid hD
    clear hD hE hb2
    go_wp2
    refine bodyPost_ret (v := .agg #[.slice B R.Durable.length dd, .slice Ap R.Pending.length cp]) (by simp [results, Try.results11, go_sem, m2]) rfl ?_
    exact HD.out.handed (r := w.heap.size + 1) (((Only.refl _ _).setCell (by simp) _).setCell (by simp) _) (by omega) hn (by omega) ((HE2.out.setCell (by simp) _).setCell (by simp) _) rfl
  · have hRd : R = ⟨settleL d.Durable d.Pending, []⟩ := by rw [HR.out, diskSync, hvd]; rfl
    go_wp2_with fail
    refine (l1Settle_calls _ d _ _ ⟨_, ⟨A1, c1, _, A2, c2, _, rfl, rfl, hw, Rep.sl_ext s1 HE1.out, Rep.sl_ext s2 HE1.out⟩, rfl⟩ hvd true none 0 [] [] (Rep.sl_nil (by simp))).mono ?_
    rw [selOf_true, kept_all, ← hRd]
    clear hRd
    rintro e w2 ⟨B, dd, pv, n, rfl, hD, hn, hE⟩
    obtain ⟨Ap, cp, rfl, -⟩ := hD.form
    have hb2 := hE.heap HB2.out (by simp)
    clear m1 m2 f2
    have m2 := fun o => cell_of_row _ _ o _ _ _ hb2
    have f2 := fun o => frozen_of_row _ _ o _ _ hb2
    have HE2 := Lib.hid (HE1.out.ext hE)
    have HD := Lib.hid hD
    clear hD hE hb2
    go_wp2
    refine bodyPost_ret (v := .agg #[.slice B R.Durable.length dd, .slice Ap R.Pending.length cp]) (by simp [results, Try.results11, go_sem, m2]) rfl ?_
    exact HD.out.handed (r := w.heap.size + 1) (((Only.refl _ _).setCell (by simp) _).setCell (by simp) _) (by omega) hn (by omega) ((HE2.out.setCell (by simp) _).setCell (by simp) _) rfl
set_option maxRecDepth 100000 in
set_option maxHeartbeats 1000000 in
theorem implDiskSync_post (w : World) (v : Value) (d : DDisk) (F : List Nat) (h : Rep.Disk.V w v d F) (hs : wtDisk d ≤ 1048576) :
    Calls Try.prog 13 #[v] w (DiskPost (diskSync d) w) := by
  obtain ⟨_, ⟨A1, c1, F1, A2, c2, F2, rfl, rfl, hw, s1, s2⟩, rfl⟩ := id h
  have hu := Try.underlying29
  show Calls _ _ #[.agg #[_, _]] _ _
  obtain ⟨R, hR⟩ : ∃ R, R = diskSync d := ⟨_, rfl⟩
  rw [← hR]
  have HR := Lib.hid hR
  clear hR
  go_enter Try.func13, Try.ntmps13
  go_wp2_with fail
  refine (cloneDisk_calls _ d _ _ ⟨_, ⟨A1, c1, _, A2, c2, _, rfl, rfl, hw, Rep.sl_ext s1 ((alloc_ext _ _).alloc _), Rep.sl_ext s2 ((alloc_ext _ _).alloc _)⟩, rfl⟩ hs).mono ?_
  rintro e w1 ⟨B, dd, pv, n, rfl, hD, hn, hE⟩
  obtain ⟨Ap, cp, rfl, -⟩ := hD.form
  have HE1 := Lib.hid (Only.ext ((alloc_ext w _).alloc _) hE)
  have hb1 := Only.heap hE (heap_alloc2_old w _ _) (by simp)
  have hb2 := Only.heap hE (heap_alloc2_new w _ _) (by simp)
  have hz1 : w.heap.size + 2 ≤ w1.heap.size := by have := hE.size; simp at this; omega
  have hn1 : w.heap.size + 2 ≤ n := by simp at hn; omega
  have hn2 := hD.le
  clear hE hn
  -- the disk's own box
  have hb3 := heap_alloc_new w1 (.cells #[.slice B d.Durable.length dd, .slice Ap d.Pending.length cp] 29)
  have hEA := alloc_ext w1 (.cells #[.slice B d.Durable.length dd, .slice Ap d.Pending.length cp] 29)
  have hzA : (w1.alloc (.cells #[.slice B d.Durable.length dd, .slice Ap d.Pending.length cp] 29)).heap.size = w1.heap.size + 1 := by simp
  have HB1 := Lib.hid (hEA.heap hb1 (by simp)); have HB2 := Lib.hid (hEA.heap hb2 (by simp)); have HB3 := Lib.hid hb3
  have HD := Lib.hid ((hD.ext hEA (by simp; omega)).more (b' := w.heap.size + 2) (by simp))
  have HEA := Lib.hid (HE1.out.ext hEA)
  have k1 := fun o => cell_of_row _ _ o _ _ _ HB1.out
  clear hb1 hb2 hD
  go_wp2_with fail
  generalize w1.alloc (.cells #[.slice B d.Durable.length dd, .slice Ap d.Pending.length cp] 29) = WA at *
  refine (implValid_calls _ d _ _ ⟨_, ⟨A1, c1, _, A2, c2, _, rfl, rfl, hw, Rep.sl_ext s1 HEA.out, Rep.sl_ext s2 HEA.out⟩, rfl⟩).mono ?_
  rintro e w2 ⟨rfl, hO⟩
  have hb2 := hO.heap HB2.out (by simp)
  have hb3 := hO.heap HB3.out (by simp)
  have HD2 := Lib.hid (HD.out.ext hO hn1)
  have HE2 := Lib.hid (HEA.out.ext hO)
  have hz2 : w1.heap.size + 1 ≤ w2.heap.size := by have := hO.size; omega
  have m2 := fun o => cell_of_row _ _ o _ _ _ hb2
  have f2 := fun o => frozen_of_row _ _ o _ _ hb2
  have m3 := fun o => cell_of_row _ _ o _ _ _ hb3
  have f3 := fun o => frozen_of_row _ _ o _ _ hb3
  have HB2' := Lib.hid hb2; have HB3' := Lib.hid hb3
  clear hO hb2 hb3 k1 HB1 HB2 HB3 HD hEA
  cases hvd : validDisk d
  · obtain rfl : R = d := by rw [HR.out, diskSync, hvd]; rfl
    go_wp2
    refine bodyPost_ret (v := .agg #[.slice B R.Durable.length dd, .slice Ap R.Pending.length cp]) (by simp [results, Try.results13, go_sem, m2]) rfl ?_
    exact HD2.out.handed (r := w.heap.size + 1) (((Only.refl _ _).setCell (by simp) _).setCell (by simp) _) (by omega) hn1 (by omega) ((HE2.out.setCell (by simp) _).setCell (by simp) _) rfl
  · have hRd : R = ⟨settleL d.Durable d.Pending, []⟩ := by rw [HR.out, diskSync, hvd]; rfl
    have hH : headOK d = true := by unfold validDisk at hvd; simp only [Bool.and_eq_true] at hvd; exact hvd.1
    obtain ⟨hh1, hh2, hh3, hh4⟩ := (headOK_iff _).1 hH
    have hall : d.Pending.all (okW (d.Durable.length / 512)) = true := by rw [validDisk_is hH] at hvd; exact hvd
    obtain ⟨Fd, Ap', cp', G, hpv, q1, q2, q3, q4, q5, q6, q7, q8⟩ := HD2.out.open_
    injection hpv with hpv1 hpv2 hpv3
    subst hpv1; subst hpv3
    have hFlt := fun b hb => Rep.sl_lt q1 b hb
    go_wp2_with fail
    refine (settle_calls w1.heap.size 0 B dd d.Durable Fd Ap cp d.Pending G w2 (m3 0) (m3 1) f3 q1 q2 q7 (fun b hb hb' => by have := q3 b hb; have := q4 b hb'; omega) (fun hb => ?_) hall hh2 hh3).mono ?_
    · have := q3 _ hb; omega
    rintro e w3 ⟨rfl, wm, hO3, q, hum, hw3⟩
    have hbm3 := hO3.heap HB3'.out (fun hb => by have := q3 _ hb; omega)
    have hbm2 := hO3.heap HB2'.out (fun hb => by have := q3 _ hb; omega)
    have hx : Only [w1.heap.size] wm w3 := by rw [hw3]; exact (Only.refl _ _).setCell (by simp) _
    have hb3' : w3.heap[w1.heap.size]? = some (.cells #[.slice B d.Durable.length dd, .slice none 0 0] 29 (0, 0)) := by rw [hw3]; exact heap_setCell_same _ _ 1 _ _ _ hbm3
    have hb2' := hx.heap hbm2 (by simp; omega)
    have q' := Rep.sl_only q hx (fun b hb hb' => by have := q3 b hb; simp at hb'; omega)
    have hu' := Unfr.only hum hx (fun b hb => Rep.sl_lt q b hb) (fun b hb hb' => by have := q3 b hb; simp at hb'; omega)
    have hl := settleL_len d.Pending d.Durable (fun x hx => List.all_eq_true.1 hall x hx)
    have hE3 : Ext w w3 := (HE2.out.then_ hO3 (fun g hg _ => by have := q3 g hg; omega)).then_ hx (fun g hg _ => by simp at hg; omega)
    have HE3 := Lib.hid hE3
    have hz3 : w2.heap.size ≤ w3.heap.size := Nat.le_trans hO3.size hx.size
    have hD3 : DiskOwn (w.heap.size + 2) n w3 B dd (.slice none 0 0) R := by
      rw [hRd]
      exact ⟨Fd, q', q3, q5, hu', Own.nil (by omega)⟩
    have hlr : d.Durable.length = R.Durable.length := by rw [hRd]; exact hl.symm
    have HD3 := Lib.hid hD3; have HLR := Lib.hid hlr
    clear m2 f2 m3 f3
    have m3 := fun o => cell_of_row _ _ o _ _ _ hb3'
    have m2 := fun o => cell_of_row _ _ o _ _ _ hb2'
    have f2 := fun o => frozen_of_row _ _ o _ _ hb2'
    clear hw3 hbm3 hbm2 hb3' hb2' hx q' hu' hl hE3 q hum hO3 hD3 hlr q1 q2 q3 q4 q5 q6 q7 q8 hh1 hh2 hh3 hh4 hH hall hRd hFlt
    go_wp2
    refine bodyPost_ret (v := .agg #[.slice B d.Durable.length dd, .slice none 0 0]) (by simp [results, Try.results13, go_sem, m2]) rfl ?_
    exact HD3.out.handed (r := w.heap.size + 1) (((Only.refl _ _).setCell (by simp) _).setCell (by simp) _) (by omega) hn1 (by omega) ((HE3.out.setCell (by simp) _).setCell (by simp) _) HLR.out
theorem wt_settle {d : DDisk} (h : wtDisk d ≤ 1048576) (sel : Nat → Bool) (hv : validDisk d = true) : wtDisk ⟨settleL d.Durable (kept sel d.Pending), []⟩ ≤ 1048576 := by
  have hall : d.Pending.all (okW (d.Durable.length / 512)) = true := by
    unfold validDisk at hv; simp only [Bool.and_eq_true] at hv; exact hv.2
  have hl := settleL_len (kept sel d.Pending) d.Durable (fun x hx => List.all_eq_true.1 hall x (kept_mem hx))
  unfold wtDisk at h ⊢
  simp only [hl]
  simp [wtSectorWriteS] at h ⊢
  omega
theorem specDiskSync_calls (w : World) (v : Value) (d : DDisk) (F : List Nat) (h : Rep.Disk.V w v d F) (hs : wtDisk d ≤ 1048576) :
    Calls Try.prog 11 #[v] w fun e w' => ∃ v F, e = .returned v ∧ Rep.Disk.V w' v (diskSync d) F ∧ Ext w w' :=
  (specDiskSync_post w v d F h hs).mono fun _ _ h => by
    obtain ⟨v, F, h1, h2, h3⟩ := h.new
    exact ⟨v, F, h1, h2, h3.ext⟩
theorem implDiskSync_new (w : World) (v : Value) (d : DDisk) (F : List Nat) (h : Rep.Disk.V w v d F) (hs : wtDisk d ≤ 1048576) :
    Calls Try.prog 13 #[v] w (NewPost Rep.Disk (diskSync d) w) := (implDiskSync_post w v d F h hs).mono fun _ _ h => h.new
theorem diskSync_wt {d : DDisk} (h : wtDisk d ≤ 1048576) : wtDisk (diskSync d) ≤ 1048576 := by
  unfold diskSync
  split
  · rename_i hv
    have := wt_settle h (fun _ => true) hv
    rwa [kept_all] at this
  · exact h
theorem diskSync_ct (d : DDisk) (h : wtDisk d ≤ 1048576) : ctTopDisk (diskSync d) ≤ 1152921504606846976 := by
  have := diskSync_wt h
  have := ctTopDisk_wt (diskSync d)
  omega
end Go.Proofs.Ytdjcfcgkldokgaa
