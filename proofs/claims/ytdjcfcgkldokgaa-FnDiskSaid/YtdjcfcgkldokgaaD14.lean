/- DiskWrite of the program. -/
import Derived.Test.YtdjcfcgkldokgaaD13
namespace Go.Proofs.Ytdjcfcgkldokgaa
open Go.RowKit
set_option linter.unusedSimpArgs false
set_option linter.unusedVariables false
set_option maxRecDepth 100000 in
set_option maxHeartbeats 1000000 in
theorem implDiskWrite_post (w : World) (v : Value) (d : DDisk) (F : List Nat) (h : Rep.Disk.V w v d F) (s : Int) (es : (Lit.int .i64 s).wf = true) (Ad : Option Addr) (cd : Nat) (data : List Int) (Fdt : List Nat) (hdt : (Rep.int .u8).sl w Ad cd data Fdt) (hs : wtDisk d ≤ 1048576) :
    Calls Try.prog 19 #[v, .int .i64 s, .slice Ad data.length cd] w (DiskPost (diskWrite d s data) w) := by
  obtain ⟨_, ⟨A1, c1, F1, A2, c2, F2, rfl, rfl, hw, s1, s2⟩, rfl⟩ := id h
  have hu := Try.underlying29
  show Calls _ _ #[.agg #[_, _], _, _] _ _
  obtain ⟨R, hR⟩ : ∃ R, R = diskWrite d s data := ⟨_, rfl⟩
  rw [← hR]
  have HR := Lib.hid hR
  clear hR
  go_enter Try.func19, Try.ntmps19
  go_wp2_with fail
  refine (cloneDisk_calls _ d _ _ ⟨_, ⟨A1, c1, _, A2, c2, _, rfl, rfl, hw, Rep.sl_ext s1 ((alloc_ext _ _).alloc _), Rep.sl_ext s2 ((alloc_ext _ _).alloc _)⟩, rfl⟩ hs).mono ?_
  rintro e w1 ⟨B, dd, pv, n, rfl, hD, hn, hE⟩
  obtain ⟨Ap, cp, rfl, -⟩ := hD.form
  have HE1 := Lib.hid (Only.ext ((alloc_ext w _).alloc _) hE)
  have hb1 := Only.heap hE (heap_alloc2_old w _ _) (by simp)
  have hb2 := Only.heap hE (heap_alloc2_new w _ _) (by simp)
  have hz1 : w.heap.size + 2 ≤ w1.heap.size := by have := hE.size; simp at this; omega
  have hn1 : w.heap.size + 2 ≤ n := by simp at hn; omega
  have hn2 := hD.le
  have hDP0 := DiskP.of (P := fun g => g ≠ w1.heap.size) (hD.more (b' := w.heap.size + 2) (by simp)) (fun g _ hg => by omega) hn1
  clear hE hn
  -- the disk's own box
  have hb3 := heap_alloc_new w1 (.cells #[.slice B d.Durable.length dd, .slice Ap d.Pending.length cp] 29)
  have hEA := alloc_ext w1 (.cells #[.slice B d.Durable.length dd, .slice Ap d.Pending.length cp] 29)
  have hzA : (w1.alloc (.cells #[.slice B d.Durable.length dd, .slice Ap d.Pending.length cp] 29)).heap.size = w1.heap.size + 1 := by simp
  have HB1 := Lib.hid (hEA.heap hb1 (by simp)); have HB2 := Lib.hid (hEA.heap hb2 (by simp)); have HB3 := Lib.hid hb3
  have HD := Lib.hid ((hD.ext hEA (by simp; omega)).more (b' := w.heap.size + 2) (by simp))
  have HEA := Lib.hid (HE1.out.ext hEA)
  have HDP1 := Lib.hid (hDP0.ext hEA hn1)
  have k1 := fun o => cell_of_row _ _ o _ _ _ HB1.out
  clear hb1 hb2 hD hDP0
  go_wp2_with fail
  generalize w1.alloc (.cells #[.slice B d.Durable.length dd, .slice Ap d.Pending.length cp] 29) = WA at *
  refine (implValid_calls _ d _ _ ⟨_, ⟨A1, c1, _, A2, c2, _, rfl, rfl, hw, Rep.sl_ext s1 HEA.out, Rep.sl_ext s2 HEA.out⟩, rfl⟩).mono ?_
  rintro e w2 ⟨rfl, hO⟩
  have hb2 := hO.heap HB2.out (by simp)
  have hb3 := hO.heap HB3.out (by simp)
  have HD2 := Lib.hid (HD.out.ext hO hn1)
  have HDP2 := Lib.hid (HDP1.out.ext hO hn1)
  have HE2 := Lib.hid (HEA.out.ext hO)
  have hz2 : w1.heap.size + 1 ≤ w2.heap.size := by have := hO.size; omega
  have m2 := fun o => cell_of_row _ _ o _ _ _ hb2
  have f2 := fun o => frozen_of_row _ _ o _ _ hb2
  have m3 := fun o => cell_of_row _ _ o _ _ _ hb3
  have f3 := fun o => frozen_of_row _ _ o _ _ hb3
  have HB2' := Lib.hid hb2; have HB3' := Lib.hid hb3
  clear hO hb2 hb3 k1 HB1 HB2 HB3 HD hEA
  cases hvd : validDisk d
  · obtain rfl : R = d := by rw [HR.out, diskWrite_not (fun h => by rw [hvd] at h; cases h.1)]
    go_wp2
    refine bodyPost_ret (v := .agg #[.slice B R.Durable.length dd, .slice Ap R.Pending.length cp]) (by simp [results, Try.results19, go_sem, m2]) rfl ?_
    exact HD2.out.handed (r := w.heap.size + 1) (((Only.refl _ _).setCell (by simp) _).setCell (by simp) _) (by omega) hn1 (by omega) ((HE2.out.setCell (by simp) _).setCell (by simp) _) rfl
  · have hRd : R = diskWriteV d s data := by
      rw [HR.out]
      unfold diskWrite diskWriteV
      simp only [hvd, true_and]
    go_wp2_with fail
    refine (write_calls (fun g => g ≠ w1.heap.size) (w.heap.size + 2) n w1.heap.size 0 w2 B dd Ap cp d _ _ HB3'.out rfl rfl HDP2.out hn1 (fun h => h rfl) (fun g hg => by omega) hvd s es Ad cd data Fdt (Rep.sl_ext hdt HE2.out) (fun g hg => by have := Rep.sl_lt hdt g hg; omega)).mono ?_
    rintro e w3 ⟨rfl, Ap', cp', n', hb3', hD3, hn3, H, hO3, hH3⟩
    have hb2' := hO3.heap HB2'.out (fun hb => by
      rcases List.mem_cons.1 hb with hb | hb
      · omega
      · have := (hH3 _ hb).2; omega)
    have hE3 : Ext w w3 := HE2.out.then_ hO3 (fun g hg _ => by
      rcases List.mem_cons.1 hg with hg | hg
      · omega
      · have := (hH3 _ hg).2; omega)
    have hlR : (diskWriteV d s data).Durable.length = d.Durable.length := by
      unfold diskWriteV diskPut
      split
      · split
        · exact settleL_len d.Pending d.Durable (fun x hx => List.all_eq_true.1 (valid_facts hvd).2.2.2.2 x hx)
        · rfl
      · rfl
    rw [← hRd] at hb3' hD3 hlR
    have hb4 : w3.heap[w1.heap.size]? = some (.cells #[.slice B d.Durable.length dd, .slice Ap' R.Pending.length cp'] 29 (0, 0)) := hb3'
    have HE3 := Lib.hid hE3; have HD3 := Lib.hid hD3.own; have HLR := Lib.hid hlR
    clear m2 f2 m3 f3
    have m3 := fun o => cell_of_row _ _ o _ _ _ hb4
    have m2 := fun o => cell_of_row _ _ o _ _ _ hb2'
    have f2 := fun o => frozen_of_row _ _ o _ _ hb2'
    have hneA : ¬ w1.heap.size = w.heap.size + 1 := by omega
    have hneB : ¬ w.heap.size + 1 = w1.heap.size := by omega
    clear hb3' hb4 hb2' hO3 hH3 hE3 hD3 hlR hRd
    go_wp2
    refine bodyPost_ret (v := .agg #[.slice B d.Durable.length dd, .slice Ap' R.Pending.length cp']) (by simp [results, Try.results19, go_sem, m2]) rfl ?_
    exact HD3.out.handed (r := w.heap.size + 1) (((Only.refl _ _).setCell (by simp) _).setCell (by simp) _) (by omega) hn3 (by omega) ((HE3.out.setCell (by simp) _).setCell (by simp) _) HLR.out.symm
theorem put_len {d : DDisk} {s : Int} {data : List Int} (hv : validDisk d = true) : (diskPut d s data).Durable.length = d.Durable.length := by
  unfold diskPut
  split
  · exact settleL_len d.Pending d.Durable (fun x hx => List.all_eq_true.1 (valid_facts hv).2.2.2.2 x hx)
  · rfl
theorem put_wt {d : DDisk} {s : Int} {data : List Int} (hv : validDisk d = true) : wtDisk (diskPut d s data) ≤ wtDisk d + 1 + data.length := by
  have hl := put_len (s := s) (data := data) hv
  unfold wtDisk at *
  rw [hl]
  unfold diskPut
  split <;> simp [wtSectorWriteS, wtSectorWrite] <;> omega
theorem diskWrite_wt {d : DDisk} {s : Int} {data : List Int} : wtDisk (diskWrite d s data) ≤ wtDisk d + 1 + data.length := by
  unfold diskWrite
  split
  · rename_i h; exact put_wt h.1
  · omega
theorem diskWrite_ct (d : DDisk) (s : Int) (data : List Int) (h : wtDisk d ≤ 1048576) (hk : data.length ≤ 1048576) : ctTopDisk (diskWrite d s data) ≤ 1152921504606846976 := by
  have := diskWrite_wt (d := d) (s := s) (data := data)
  have := ctTopDisk_wt (diskWrite d s data)
  omega
theorem specDiskWrite_calls (w : World) (v : Value) (d : DDisk) (F : List Nat) (h : Rep.Disk.V w v d F) (s : Int) (es : (Lit.int .i64 s).wf = true) (Ad : Option Addr) (cd : Nat) (data : List Int) (Fd : List Nat) (hdt : (Rep.int .u8).sl w Ad cd data Fd) (hs : wtDisk d ≤ 1048576) (hsk : data.length ≤ 1048576) :
    Calls Try.prog 17 #[v, .int .i64 s, .slice Ad data.length cd] w fun e w' => ∃ v F, e = .returned v ∧ Rep.Disk.V w' v (diskWrite d s data) F ∧ Ext w w' :=
  (specDiskWrite_post w v d F h s es Ad cd data Fd hdt hs).mono fun _ _ h => by
    obtain ⟨v, F, h1, h2, h3⟩ := h.new
    exact ⟨v, F, h1, h2, h3.ext⟩
theorem implDiskWrite_new (w : World) (v : Value) (d : DDisk) (F : List Nat) (h : Rep.Disk.V w v d F) (s : Int) (es : (Lit.int .i64 s).wf = true) (Ad : Option Addr) (cd : Nat) (data : List Int) (Fd : List Nat) (hdt : (Rep.int .u8).sl w Ad cd data Fd) (hs : wtDisk d ≤ 1048576) (hsk : data.length ≤ 1048576) :
    Calls Try.prog 19 #[v, .int .i64 s, .slice Ad data.length cd] w (NewPost Rep.Disk (diskWrite d s data) w) := (implDiskWrite_post w v d F h s es Ad cd data Fd hdt hs).mono fun _ _ h => h.new
end Go.Proofs.Ytdjcfcgkldokgaa
