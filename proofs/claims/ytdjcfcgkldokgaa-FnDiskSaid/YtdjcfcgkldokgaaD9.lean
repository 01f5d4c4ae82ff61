/- DiskCrash of the program. -/
import Derived.Test.YtdjcfcgkldokgaaD8
namespace Go.Proofs.Ytdjcfcgkldokgaa
open Go.RowKit
set_option linter.unusedSimpArgs false
set_option linter.unusedVariables false
set_option maxRecDepth 100000 in
set_option maxHeartbeats 1000000 in
theorem implDiskCrash_post (w : World) (v : Value) (d : DDisk) (F : List Nat) (h : Rep.Disk.V w v d F) (K : Option Addr) (ck : Nat) (keep : List Int) (Fk : List Nat) (hk : (Rep.int .i64).sl w K ck keep Fk) (hs : wtDisk d ≤ 1048576) :
    Calls Try.prog 24 #[v, .slice K keep.length ck] w (DiskPost (diskCrash d keep) w) := by
  obtain ⟨_, ⟨A1, c1, F1, A2, c2, F2, rfl, rfl, hw, s1, s2⟩, rfl⟩ := id h
  have hu := Try.underlying29
  show Calls _ _ #[.agg #[_, _], _] _ _
  obtain ⟨R, hR⟩ : ∃ R, R = diskCrash d keep := ⟨_, rfl⟩
  rw [← hR]
  have HR := Lib.hid hR
  clear hR
  go_enter Try.func24, Try.ntmps24
  go_wp2_with fail
  refine (cloneDisk_calls _ d _ _ ⟨_, ⟨A1, c1, _, A2, c2, _, rfl, rfl, hw, Rep.sl_ext s1 ((alloc_ext _ _).alloc _), Rep.sl_ext s2 ((alloc_ext _ _).alloc _)⟩, rfl⟩ hs).mono ?_
  rintro e w1 ⟨B, dd, pv, n, rfl, hD, hn, hE⟩
  obtain ⟨Ap, cp, rfl, -⟩ := hD.form
  have HE1 := Lib.hid (Only.ext ((alloc_ext w _).alloc _) hE)
  have hb1 := Only.heap hE (heap_alloc2_old w _ _) (by simp)
  have hb2 := Only.heap hE (heap_alloc2_new w _ _) (by simp)
  have hz1 : w.heap.size + 2 ≤ w1.heap.size := by have := hE.size; simp at this; omega
  have hn1 : w.heap.size + 2 ≤ n := by simp at hn; omega
  have hn2 := hD.le
  have HD0 := Lib.hid (hD.more (b' := w.heap.size + 2) (by simp))
  clear hE hn
  -- the disk's own box
  have hb3 := heap_alloc_new w1 (.cells #[.slice B d.Durable.length dd, .slice Ap d.Pending.length cp] 29)
  have hEA := alloc_ext w1 (.cells #[.slice B d.Durable.length dd, .slice Ap d.Pending.length cp] 29)
  have hzA : (w1.alloc (.cells #[.slice B d.Durable.length dd, .slice Ap d.Pending.length cp] 29)).heap.size = w1.heap.size + 1 := by simp
  have HB1 := Lib.hid (hEA.heap hb1 (by simp)); have HB2 := Lib.hid (hEA.heap hb2 (by simp)); have HB3 := Lib.hid hb3
  have HD := Lib.hid ((hD.ext hEA (by simp; omega)).more (b' := w.heap.size + 2) (by simp))
  have HEA := Lib.hid (HE1.out.ext hEA)
  have k1 := fun o => cell_of_row _ _ o _ _ _ HB1.out
  clear hb1 hb2 hD
  go_wp2_with fail
  generalize w1.alloc (.cells #[.slice B d.Durable.length dd, .slice Ap d.Pending.length cp] 29) = WA at *
  refine (implValid_calls _ d _ _ ⟨_, ⟨A1, c1, _, A2, c2, _, rfl, rfl, hw, Rep.sl_ext s1 HEA.out, Rep.sl_ext s2 HEA.out⟩, rfl⟩).mono ?_
  rintro e w2 ⟨rfl, hO⟩
  have hb2 := hO.heap HB2.out (by simp)
  have hb3 := hO.heap HB3.out (by simp)
  have HD2 := Lib.hid (HD.out.ext hO hn1)
  have HE2 := Lib.hid (HEA.out.ext hO)
  have hz2 : w1.heap.size + 1 ≤ w2.heap.size := by have := hO.size; omega
  have m2 := fun o => cell_of_row _ _ o _ _ _ hb2
  have f2 := fun o => frozen_of_row _ _ o _ _ hb2
  have m3 := fun o => cell_of_row _ _ o _ _ _ hb3
  have f3 := fun o => frozen_of_row _ _ o _ _ hb3
  have HB2' := Lib.hid hb2; have HB3' := Lib.hid hb3
  have HE12 := Lib.hid (hEA.ext hO)
  clear hO hb2 hb3 k1 HB1 HB2 HB3 HD hEA
  cases hvd : validDisk d
  · obtain rfl : R = d := by rw [HR.out, diskCrash, hvd]; rfl
    go_wp2
    refine bodyPost_ret (v := .agg #[.slice B R.Durable.length dd, .slice Ap R.Pending.length cp]) (by simp [results, Try.results24, go_sem, m2]) rfl ?_
    exact HD2.out.handed (r := w.heap.size + 1) (((Only.refl _ _).setCell (by simp) _).setCell (by simp) _) (by omega) hn1 (by omega) ((HE2.out.setCell (by simp) _).setCell (by simp) _) rfl
  · have hRd : R = ⟨settleL d.Durable (kept (selOf false keep) d.Pending), []⟩ := by rw [HR.out, diskCrash, hvd]; rfl
    have hH : headOK d = true := by unfold validDisk at hvd; simp only [Bool.and_eq_true] at hvd; exact hvd.1
    obtain ⟨hh1, hh2, hh3, hh4⟩ := (headOK_iff _).1 hH
    have hall : d.Pending.all (okW (d.Durable.length / 512)) = true := by rw [validDisk_is hH] at hvd; exact hvd
    obtain ⟨Fd, Ap', cp', G, hpv, q1, q2, q3, q4, q5, q6, q7, q8⟩ := HD0.out.open_
    injection hpv with hpv1 hpv2 hpv3
    subst hpv1; subst hpv3
    have hFlt := fun b hb => Rep.sl_lt q1 b hb
    have hGlt := fun b hb => Rep.sl_lt q2 b hb
    replace q1 := Rep.sl_ext q1 HE12.out
    replace q2 := Rep.sl_ext q2 HE12.out
    replace q7 := Unfr.ext q7 HE12.out hFlt
    go_wp2_with fail
    refine (crash_calls w1.heap.size 0 B dd d.Durable Fd Ap cp d.Pending G w2 (m3 0) (m3 1) f3 q1 q2 q7 (fun b hb hb' => by have := q3 b hb; have := q4 b hb'; omega) (fun hb => ?_) (fun hb => Nat.lt_irrefl _ (hGlt _ hb)) hall hh2 hh3 hh4 K ck keep _ (Rep.sl_ext hk HE2.out)).mono ?_
    · have := q3 _ hb; omega
    rintro e w3 ⟨rfl, wm, uu, hO3, q, hum, hbx, hw3⟩
    have hbm3 := hbx _ _ HB3'.out
    have hbm2 := hO3.heap HB2'.out (fun hb => by
      rcases List.mem_cons.1 hb with hb | hb
      · omega
      · have := q3 _ hb; omega)
    have hx : Only [w1.heap.size] wm w3 := by rw [hw3]; exact (Only.refl _ _).setCell (by simp) _
    have hb3' : w3.heap[w1.heap.size]? = some (.cells #[.slice B d.Durable.length dd, .slice none 0 0] 29 (0, 0)) := by rw [hw3]; exact heap_setCell_same _ _ 1 _ _ _ hbm3
    have hb2' := hx.heap hbm2 (by simp; omega)
    have q' := Rep.sl_only q hx (fun b hb hb' => by have := q3 b hb; simp at hb'; omega)
    have hu' := Unfr.only hum hx (fun b hb => Rep.sl_lt q b hb) (fun b hb hb' => by have := q3 b hb; simp at hb'; omega)
    have hl := settleL_len (kept (selOf false keep) d.Pending) d.Durable (fun x hx => List.all_eq_true.1 hall x (kept_mem hx))
    have hE3 : Ext w w3 := (HE2.out.then_ hO3 (fun g hg _ => by
      rcases List.mem_cons.1 hg with hg | hg
      · omega
      · have := q3 g hg; omega)).then_ hx (fun g hg _ => by simp at hg; omega)
    have HE3 := Lib.hid hE3
    have hz3 : w2.heap.size ≤ w3.heap.size := Nat.le_trans hO3.size hx.size
    have hD3 : DiskOwn (w.heap.size + 2) n w3 B dd (.slice none 0 0) R := by
      rw [hRd]
      exact ⟨Fd, q', q3, q5, hu', Own.nil (by omega)⟩
    have hlr : d.Durable.length = R.Durable.length := by rw [hRd]; exact hl.symm
    have HD3 := Lib.hid hD3; have HLR := Lib.hid hlr
    clear m2 f2 m3 f3
    have m3 := fun o => cell_of_row _ _ o _ _ _ hb3'
    have m2 := fun o => cell_of_row _ _ o _ _ _ hb2'
    have f2 := fun o => frozen_of_row _ _ o _ _ hb2'
    clear hw3 hbx hbm3 hbm2 hb3' hb2' hx q' hu' hl hE3 q hum hO3 hD3 hlr q1 q2 q3 q4 q5 q6 q7 q8 hh1 hh2 hh3 hh4 hH hall hRd hFlt
    go_wp2
    refine bodyPost_ret (v := .agg #[.slice B d.Durable.length dd, .slice none 0 0]) (by simp [results, Try.results24, go_sem, m2]) rfl ?_
    exact HD3.out.handed (r := w.heap.size + 1) (((Only.refl _ _).setCell (by simp) _).setCell (by simp) _) (by omega) hn1 (by omega) ((HE3.out.setCell (by simp) _).setCell (by simp) _) HLR.out
theorem specDiskCrash_calls (w : World) (v : Value) (d : DDisk) (F : List Nat) (h : Rep.Disk.V w v d F) (K : Option Addr) (ck : Nat) (keep : List Int) (Fk : List Nat) (hk : (Rep.int .i64).sl w K ck keep Fk) (hs : wtDisk d ≤ 1048576) (hsk : keep.length ≤ 1048576) :
    Calls Try.prog 22 #[v, .slice K keep.length ck] w fun e w' => ∃ v F, e = .returned v ∧ Rep.Disk.V w' v (diskCrash d keep) F ∧ Ext w w' :=
  (specDiskCrash_post w v d F h K ck keep Fk hk hs).mono fun _ _ h => by
    obtain ⟨v, F, h1, h2, h3⟩ := h.new
    exact ⟨v, F, h1, h2, h3.ext⟩
theorem implDiskCrash_new (w : World) (v : Value) (d : DDisk) (F : List Nat) (h : Rep.Disk.V w v d F) (K : Option Addr) (ck : Nat) (keep : List Int) (Fk : List Nat) (hk : (Rep.int .i64).sl w K ck keep Fk) (hs : wtDisk d ≤ 1048576) (hsk : keep.length ≤ 1048576) :
    Calls Try.prog 24 #[v, .slice K keep.length ck] w (NewPost Rep.Disk (diskCrash d keep) w) := (implDiskCrash_post w v d F h K ck keep Fk hk hs).mono fun _ _ h => h.new
theorem diskCrash_wt {d : DDisk} {keep : List Int} (h : wtDisk d ≤ 1048576) : wtDisk (diskCrash d keep) ≤ 1048576 := by
  unfold diskCrash
  split
  · rename_i hv
    exact wt_settle h _ hv
  · exact h
theorem diskCrash_ct (d : DDisk) (keep : List Int) (h : wtDisk d ≤ 1048576) (hk : keep.length ≤ 1048576) : ctTopDisk (diskCrash d keep) ≤ 1152921504606846976 := by
  have := diskCrash_wt (keep := keep) h
  have := ctTopDisk_wt (diskCrash d keep)
  omega
end Go.Proofs.Ytdjcfcgkldokgaa
