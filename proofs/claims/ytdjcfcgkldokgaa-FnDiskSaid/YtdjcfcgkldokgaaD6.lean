/- What settles becomes durable: the program's. -/
import Derived.Test.YtdjcfcgkldokgaaD5
import Derived.Test.YtdjcfcgkldokgaaD4
namespace Go.Proofs.Ytdjcfcgkldokgaa
open Go.RowKit
set_option linter.unusedSimpArgs false
set_option linter.unusedVariables false
def SettlePost (n o : Nat) (A : Option Addr) (c : Nat) (dur : List Int) (Fd : List Nat) (w : World) (e : Ending) (w' : World) : Prop :=
  e = .returned (.tuple #[]) ∧ Hid (∃ wm, Only Fd w wm ∧ (Rep.int .u8).sl wm A c dur Fd ∧ Unfr wm Fd ∧ w' = wm.setCell ⟨n, o + 1, none⟩ (.slice none 0 0))
set_option maxRecDepth 100000 in
set_option maxHeartbeats 2000000 in
theorem settle_calls (n o : Nat) (A : Option Addr) (c : Nat) (dur : List Int) (Fd : List Nat) (Ap : Option Addr) (cp : Nat) (xs : List DSectorWrite) (G : List Nat) (w : World) (h0 : w.cell? ⟨n, o, none⟩ = some (.slice A dur.length c)) (h1 : w.cell? ⟨n, o + 1, none⟩ = some (.slice Ap xs.length cp)) (hf : ∀ j, w.frozen? ⟨n, j, none⟩ = false)
    (s1 : (Rep.int .u8).sl w A c dur Fd) (s2 : Rep.SectorWrite.sl w Ap cp xs G) (hU : Unfr w Fd) (hdis : ∀ b ∈ Fd, b ∉ G) (hn1 : n ∉ Fd) (hall : xs.all (okW (dur.length / 512)) = true) (hh2 : 512 ≤ dur.length) (hh3 : dur.length ≤ 524288) :
    Calls Try.prog 59 #[.pointer (some ⟨n, o, none⟩)] w (SettlePost n o A c (settleL dur xs) Fd w) := by
  have hu := Try.underlying29
  have hu2 := Try.underlying64
  obtain ⟨i0, hi, hz0, hz1, hz2⟩ := info_parts info5
  have hm2 := Nat.le_trans s2.1 s2.2.1
  unfold maxLen at hm2
  have HALL := Lib.hid hall
  have hnw : n < w.heap.size := World.block_lt_of_cell? _ _ h0
  have S1 := Lib.hid s1; have S2 := Lib.hid s2; have H0 := Lib.hid h0
  clear hall s1 s2
  go_enter Try.func59, Try.ntmps59
  go_wp2
  go_loopg [9] (xs.length) (fun m i wr => ∃ (k : Nat), m + k = xs.length ∧ i = .int .i64 k ∧ Only Fd w wr ∧ Unfr wr Fd ∧ (Rep.int .u8).sl wr A c (settleL dur (xs.take k)) Fd)
  case atStart => exact ⟨0, by simp, rfl, Only.refl _ _, hU, S1.out⟩
  case round =>
    obtain ⟨k, hk, rfl, hO, hU, hS⟩ := hrel
    have HO := Lib.hid hO; have HK := Lib.hid hk; have HU := Lib.hid hU; have HS := Lib.hid hS
    have hcn : ∀ j, wr.cell? ⟨n, j, none⟩ = w.cell? ⟨n, j, none⟩ := fun j => World.cell?_of_block (hO.block n hnw hn1)
    have hfn : ∀ j, wr.frozen? ⟨n, j, none⟩ = w.frozen? ⟨n, j, none⟩ := fun j => World.frozen?_of_block (a := ⟨n, j, none⟩) (hO.block n hnw hn1)
    have hzr := hO.size
    clear hO hk hU hS
    by_cases hlt : k < xs.length
    · obtain ⟨g, off, d, G1, hA, hg, hgG, ⟨A1, c1, F1, rfl, rfl, hwf, t1⟩, hsub, hc⟩ := Rep.sl_at S2.out k hlt
      subst hA
      have k0 := HO.out.cell (hc 0 _ rfl) (fun hb => hdis _ hb hgG)
      have k1 := HO.out.cell (hc 1 _ rfl) (fun hb => hdis _ hb hgG)
      simp only [show Rep.SectorWrite.sz = 2 from rfl, Nat.add_zero] at k0 k1
      rw [← Nat.add_assoc] at k1
      replace t1 := Rep.sl_only t1 HO.out (fun b hb hb' => hdis b hb' (hsub b hb))
      have hok : okW (dur.length / 512) xs[k] = true := List.all_eq_true.1 HALL.out _ (by simp)
      obtain ⟨r1, r2, r3⟩ := okW_room (n := 0) hok
      have hlen := settleL_len (xs.take k) dur (fun x hx => List.all_eq_true.1 HALL.out x (List.mem_of_mem_take hx))
      have hst := settleL_take xs dur k hlt
      clear hc
      generalize hx : xs[k] = x at *
      have HX := Lib.hid hx; have HOK := Lib.hid hok; have HST := Lib.hid hst
      clear hx hok hst
      obtain ⟨s, hse⟩ := Int.eq_ofNat_of_zero_le r2
      rw [hse] at k0
      have hs2 : s * 512 + 512 ≤ dur.length := by rw [hse] at r3; simpa using r3
      have HSE := Lib.hid hse
      clear hse r2 r3
      have HR1 := Lib.hid r1
      clear r1
      -- the element's box
      have hbW := heap_alloc_new wr (.cells #[.int .i64 s, .slice A1 x.Data.length c1] 64)
      have hEA := alloc_ext wr (.cells #[.int .i64 s, .slice A1 x.Data.length c1] 64)
      have hzA : (wr.alloc (.cells #[.int .i64 s, .slice A1 x.Data.length c1] 64)).heap.size = wr.heap.size + 1 := by simp
      go_wp2_with fail
      generalize wr.alloc (.cells #[.int .i64 s, .slice A1 x.Data.length c1] 64) = WA at hbW hEA hzA ⊢
      have e0 : WA.cell? ⟨wr.heap.size, 0, none⟩ = some (.int .i64 s) := cell_of_row _ _ 0 _ _ _ hbW
      have e1 : WA.cell? ⟨wr.heap.size, 1, none⟩ = some (.slice A1 x.Data.length c1) := cell_of_row _ _ 1 _ _ _ hbW
      have e2 : WA.cell? ⟨n, o, none⟩ = some (.slice A dur.length c) := hEA.ecell ((hcn o).trans H0.out)
      replace t1 := Rep.sl_ext t1 hEA
      obtain ⟨gB, oB, rfl, rfl, hgB, hin, hfr, hsp, hup⟩ := sl_splice (w := WA.drew) (Rep.sl_ext HS.out (hEA.drew)) (Unfr.ext HU.out hEA.drew (fun b hb => Rep.sl_lt HS.out b hb)) (s * 512) (ys := x.Data) (by have := HR1.out; omega) (by omega) (sl_wf t1)
      obtain ⟨ga, oa, rfl, -, hsrc⟩ := sl_ints t1 (by intro h; have r1 := HR1.out; rw [h] at r1; simp at r1)
      have hgB2 : gB < wr.heap.size := Rep.sl_lt HS.out gB (by simp)
      have HSP := Lib.hid hsp; have HUP := Lib.hid hup; have HIN := Lib.hid hin; have HFR := Lib.hid hfr; have HSRC := Lib.hid hsrc; have HLEN := Lib.hid hlen
      have hs3 : (s : Int) * 512 + 512 ≤ dur.length := by omega
      have hdd : dur.length ≤ c := by have := S1.out.1; omega
      have HEA := Lib.hid hEA
      clear hsp hup hin hfr hsrc hlen t1 hs2 k0 k1 hbW hEA
      have hne1 : wr.heap.size ≠ gB := by omega
      have hne2 : n ≠ gB := by simpa using hn1
      have hq0 : IntKind.i64.wrap ((s : Int) * 512) = (s : Int) * 512 := wrap_small _ (by omega) (by omega)
      have hb0 : (0 : Int) ≤ (s : Int) * 512 := by omega
      have hb1 : (s : Int) * 512 ≤ (dur.length : Int) := by omega
      have hq1 : ((s : Int) * 512).toNat = s * 512 := by omega
      have hq2 : ¬ c = s * 512 := by omega
      have hq3 : ¬ s * 512 = c := by omega
      go_region_held3 (fun w' => w'.cell? ⟨wr.heap.size, 0, none⟩ = some (.int .i64 s) ∧ w'.cell? ⟨wr.heap.size, 1, none⟩ = some (.slice (some ⟨ga, oa, none⟩) x.Data.length c1) ∧ w'.cell? ⟨n, o, none⟩ = some (.slice (some ⟨gB, oB, none⟩) dur.length c))
        (first | go_keep | exact ⟨setCells_cell e0 hne1, setCells_cell e1 hne1, setCells_cell e2 hne2⟩)
        (refine step_copy_to rfl (.tmp 20) (.tmp 22) 22 22 rfl 5 Try.underlying22 (by rw [hi]; simp [hz1]) gB (oB + s * 512) (dur.length - s * 512) (c - s * 512) ⟨ga, oa, none⟩ x.Data.length c1 (by first | rfl | (simp; omega)) rfl (x.Data.map (.int .u8)) (by have := HR1.out; rw [List.length_map]; exact (Nat.min_eq_left (by omega)).symm) HSRC.out (fun j hj => HIN.out j (by simpa using hj)) (fun j hj => HFR.out _) (ints_cells1 _) ?_)
      clear e0 e1 e2 hq1 hq2 hq3 hq0
      go_wp2
      go_roundg (xs.length - (k + 1))
      case measure => have := HK.out; omega
      case rel =>
        refine ⟨k + 1, by omega, by go_num, ?_, HUP.out, ?_⟩
        · exact ((HO.out.trans (HEA.out.drew.more (by simp)))).cells (fun _ => by simp) _ _
        · rw [HST.out]
          unfold put1
          rw [show x.Sector.toNat = s by rw [HSE.out]; rfl]
          exact HSP.out
    · have hk := HK.out
      have hs := HS.out
      rw [List.take_of_length_le (by omega)] at hs
      have HS2 := Lib.hid hs
      clear hs
      go_wp2
      refine bodyPost_ret (v := .tuple #[]) (by simp [results, Try.results59, go_sem]) rfl ?_
      exact ⟨rfl, wr, HO.out, HS2.out, HU.out, rfl⟩
end Go.Proofs.Ytdjcfcgkldokgaa
