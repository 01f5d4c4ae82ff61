/- DiskWrite of the reference. -/
import Derived.Test.YtdjcfcgkldokgaaD11
namespace Go.Proofs.Ytdjcfcgkldokgaa
open Go.RowKit
set_option linter.unusedSimpArgs false
set_option linter.unusedVariables false
theorem diskWrite_not {d : DDisk} {s : Int} {data : List Int} (h : ¬ (validDisk d = true ∧ 0 ≤ s ∧ s < (d.Durable.length / 512 : Nat) ∧ data.length = 512)) : diskWrite d s data = d := by rw [diskWrite, if_neg h]
theorem diskWrite_is {d : DDisk} {s : Int} {data : List Int} (h : validDisk d = true ∧ 0 ≤ s ∧ s < (d.Durable.length / 512 : Nat) ∧ data.length = 512) : diskWrite d s data = diskPut d s data := by rw [diskWrite, if_pos h]
set_option maxRecDepth 100000 in
set_option maxHeartbeats 2000000 in
theorem specDiskWrite_post (w : World) (v : Value) (d : DDisk) (F : List Nat) (h : Rep.Disk.V w v d F) (s : Int) (es : (Lit.int .i64 s).wf = true) (Ad : Option Addr) (cd : Nat) (data : List Int) (Fd : List Nat) (hdt : (Rep.int .u8).sl w Ad cd data Fd) (hs : wtDisk d ≤ 1048576) :
    Calls Try.prog 17 #[v, .int .i64 s, .slice Ad data.length cd] w (DiskPost (diskWrite d s data) w) := by
  obtain ⟨_, ⟨A1, c1, F1, A2, c2, F2, rfl, rfl, hw, s1, s2⟩, rfl⟩ := id h
  have hu := Try.underlying29
  have hm := Nat.le_trans s1.1 s1.2.1
  have hm3 := Nat.le_trans hdt.1 hdt.2.1
  unfold maxLen at hm hm3
  show Calls _ _ #[.agg #[_, _], _, _] _ _
  obtain ⟨R, hR⟩ : ∃ R, R = diskWrite d s data := ⟨_, rfl⟩
  rw [← hR]
  have HR := Lib.hid hR
  clear hR
  go_enter Try.func17, Try.ntmps17
  go_wp2_with fail
  refine (specValid_calls _ d _ _ ⟨_, ⟨A1, c1, _, A2, c2, _, rfl, rfl, hw, Rep.sl_ext s1 ((alloc_ext _ _).alloc _), Rep.sl_ext s2 ((alloc_ext _ _).alloc _)⟩, rfl⟩).mono ?_
  rintro e w1 ⟨rfl, hO⟩
  have HE1 := Lib.hid (Only.ext ((alloc_ext w _).alloc _) hO)
  have hb1 := Only.heap hO (heap_alloc2_old w _ _) (by simp)
  have hb2 := Only.heap hO (heap_alloc2_new w _ _) (by simp)
  have hz1 : w.heap.size + 2 ≤ w1.heap.size := by have := hO.size; simp at this; omega
  clear hO
  have m1 := fun o => cell_of_row _ _ o _ _ _ hb1
  have m1' := fun o => cell_of_row _ _ o _ _ _ ((alloc_ext w1 (.cells #[.slice A1 d.Durable.length c1, .slice A2 d.Pending.length c2] 29)).heap hb1 (by simp))
  have HB2 := Lib.hid hb2
  clear hb1 hb2
  obtain ⟨vd, hvd⟩ : ∃ vd, vd = validDisk d := ⟨_, rfl⟩
  rw [← hvd]
  by_cases hc : validDisk d = true ∧ 0 ≤ s ∧ s < (d.Durable.length / 512 : Nat) ∧ data.length = 512
  rotate_left
  · obtain rfl : R = d := by rw [HR.out, diskWrite_not hc]
    have hh : vd = false ∨ (vd = true ∧ s < 0) ∨ (vd = true ∧ 0 ≤ s ∧ ((R.Durable.length : Int) / 512 ≤ s)) ∨ (vd = true ∧ 0 ≤ s ∧ s < (R.Durable.length : Int) / 512 ∧ ((data.length : Int) != 512) = true) := by
      rw [← hvd] at hc
      cases vd
      · exact .inl rfl
      · by_cases h0 : s < 0
        · exact .inr (.inl ⟨rfl, h0⟩)
        · by_cases h1 : (R.Durable.length : Int) / 512 ≤ s
          · exact .inr (.inr (.inl ⟨rfl, by omega, h1⟩))
          · refine .inr (.inr (.inr ⟨rfl, by omega, by omega, ?_⟩))
            have : ¬ data.length = 512 := fun h => hc ⟨rfl, by omega, by omega, h⟩
            simp; omega
    clear hc hvd
    rcases hh with rfl | ⟨rfl, h2⟩ | ⟨rfl, h2, h3⟩ | ⟨rfl, h2, h3, h4⟩
    all_goals
      go_wp2_with (go_at_call 63; refine (l1Sectors_calls _ _ _ _ _ _ _ (by omega)).mono ?_; rintro e w1 ⟨rfl, rfl⟩)
      first
        | (refine (l1CopyDisk_calls _ R _ _ ⟨_, ⟨A1, c1, _, A2, c2, _, rfl, rfl, hw, Rep.sl_ext s1 HE1.out, Rep.sl_ext s2 HE1.out⟩, rfl⟩ hs).mono ?_
           have HEX := HE1
           have HBX := HB2
           have hzX : w.heap.size + 2 ≤ w1.heap.size := hz1)
        | (refine (l1CopyDisk_calls _ R _ (w1.alloc (.cells #[.slice A1 R.Durable.length c1, .slice A2 R.Pending.length c2] 29)) ⟨_, ⟨A1, c1, _, A2, c2, _, rfl, rfl, hw, Rep.sl_ext s1 (HE1.out.alloc _), Rep.sl_ext s2 (HE1.out.alloc _)⟩, rfl⟩ hs).mono ?_
           have HEX := Lib.hid (HE1.out.alloc (.cells #[.slice A1 R.Durable.length c1, .slice A2 R.Pending.length c2] 29))
           have HBX := Lib.hid ((alloc_ext w1 (.cells #[.slice A1 R.Durable.length c1, .slice A2 R.Pending.length c2] 29)).heap HB2.out (by simp))
           have hzX : w.heap.size + 2 ≤ (w1.alloc (.cells #[.slice A1 R.Durable.length c1, .slice A2 R.Pending.length c2] 29)).heap.size := by simp; omega)
      rintro e w2 ⟨B, dd, pv, n, rfl, hD, hn, hE⟩
      obtain ⟨Ap, cp, rfl, -⟩ := hD.form
      have hb2 := hE.heap HBX.out (by simp)
      have m2 := fun o => cell_of_row _ _ o _ _ _ hb2
      have f2 := fun o => frozen_of_row _ _ o _ _ hb2
      have HE2 := Lib.hid (HEX.out.ext hE)
      have HD := Lib.hid hD
      clear hD hE hb2 m1 m1'
      go_wp2
      refine bodyPost_ret (v := .agg #[.slice B R.Durable.length dd, .slice Ap R.Pending.length cp]) (by simp [results, Try.results17, go_sem, m2]) rfl ?_
      exact HD.out.handed (r := w.heap.size + 1) (((Only.refl _ _).setCell (by simp) _).setCell (by simp) _) (by omega) hn (by omega) ((HE2.out.setCell (by simp) _).setCell (by simp) _) rfl
  · have hRd : R = diskPut d s data := by rw [HR.out, diskWrite_is hc]
    obtain ⟨hv, h0, h1, h2⟩ := hc
    rw [hv] at hvd
    subst hvd
    have h1' : s < (d.Durable.length : Int) / 512 := by omega
    have h2' : ((data.length : Int) != 512) = false := by simp; omega
    have HH2 := Lib.hid h2
    clear h1 h2
    go_wp2_with (go_at_call 63; refine (l1Sectors_calls _ _ _ _ _ _ _ (by omega)).mono ?_; rintro e w1 ⟨rfl, rfl⟩)
    refine (l1CopyDisk_calls _ d _ (w1.alloc (.cells #[.slice A1 d.Durable.length c1, .slice A2 d.Pending.length c2] 29)) ⟨_, ⟨A1, c1, _, A2, c2, _, rfl, rfl, hw, Rep.sl_ext s1 (HE1.out.alloc _), Rep.sl_ext s2 (HE1.out.alloc _)⟩, rfl⟩ hs).mono ?_
    rintro e w2 ⟨B, dd, pv, n, rfl, hD, hn, hE⟩
    obtain ⟨Ap, cp, rfl, -⟩ := hD.form
    have hb2 := hE.heap ((alloc_ext w1 (.cells #[.slice A1 d.Durable.length c1, .slice A2 d.Pending.length c2] 29)).heap HB2.out (by simp)) (by simp)
    have HE2 := Lib.hid ((HE1.out.alloc (.cells #[.slice A1 d.Durable.length c1, .slice A2 d.Pending.length c2] 29)).ext hE)
    have hD2 := DiskP.of (P := fun _ => True) (hD.more (b' := w.heap.size + 2) (by simp; omega)) (fun _ _ _ => trivial) (by simp at hn; omega)
    have hn2 : w.heap.size + 2 ≤ n := by simp at hn; omega
    have HB3 := Lib.hid hb2; have HD2 := Lib.hid hD2
    clear hD hE hb2 m1 m1' hD2
    go_wp2_with fail
    refine (l1Put_room (fun _ => True) (w.heap.size + 2) n w2 B dd _ d HD2.out hn2 (fun _ _ => trivial) hv s es Ad cd data Fd (Rep.sl_ext hdt HE2.out) (by have := HH2.out; omega)).mono ?_
    rintro e w3 ⟨A', c', Ap', cp', n', rfl, hD3, hn3, H, hO3, hH3⟩
    rw [← hRd] at hD3 ⊢
    have hb3 := hO3.heap HB3.out (fun hb => by have := (hH3 _ hb).2; omega)
    have m2 := fun o => cell_of_row _ _ o _ _ _ hb3
    have f2 := fun o => frozen_of_row _ _ o _ _ hb3
    have HE3 := Lib.hid (HE2.out.then_ hO3 (F := []) (fun g hg hlt => by have := (hH3 g hg).2; omega))
    have HD3 := Lib.hid hD3
    clear hD3 hO3 hH3 hb3 hRd
    go_wp2
    refine bodyPost_ret (v := .agg #[.slice A' R.Durable.length c', .slice Ap' R.Pending.length cp']) (by simp [results, Try.results17, go_sem, m2]) rfl ?_
    exact HD3.out.own.handed (r := w.heap.size + 1) (((Only.refl _ _).setCell (by simp) _).setCell (by simp) _) (by omega) hn3 (by omega) ((HE3.out.setCell (by simp) _).setCell (by simp) _) rfl
end Go.Proofs.Ytdjcfcgkldokgaa
