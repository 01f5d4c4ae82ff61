/- What settles becomes durable: the reference's. -/
import Derived.Test.YtdjcfcgkldokgaaD3
import Derived.Test.YtdjcfcgkldokgaaD1b
namespace Go.Proofs.Ytdjcfcgkldokgaa
open Go.RowKit
set_option linter.unusedSimpArgs false
set_option linter.unusedVariables false
def selOf (all : Bool) (keep : List Int) (i : Nat) : Bool := all || (keep[i]?.getD 0 != 0)
set_option maxRecDepth 100000 in
set_option maxHeartbeats 2000000 in
theorem l1Settle_calls (v : Value) (d : DDisk) (F : List Nat) (w : World) (h : Rep.Disk.V w v d F) (hv : validDisk d = true) (all : Bool) (K : Option Addr) (ck : Nat) (keep : List Int) (Fk : List Nat) (hk : (Rep.int .i64).sl w K ck keep Fk) :
    Calls Try.prog 56 #[v, .bool all, .slice K keep.length ck] w (DiskPost ⟨settleL d.Durable (kept (selOf all keep) d.Pending), []⟩ w) := by
  obtain ⟨_, ⟨A1, c1, F1, A2, c2, F2, rfl, rfl, hw, s1, s2⟩, rfl⟩ := h
  have hu := Try.underlying29
  have hu2 := Try.underlying64
  obtain ⟨i0, hi, hz0, hz1, hz2⟩ := info_parts info5
  show Calls _ _ #[.agg #[_, _], _, _] _ _
  have hm := Nat.le_trans s1.1 s1.2.1
  have hm2 := Nat.le_trans s2.1 s2.2.1
  have hmk := Nat.le_trans hk.1 hk.2.1
  unfold maxLen at hm hm2 hmk
  obtain ⟨dur, xs⟩ := d
  have hH : headOK ⟨dur, xs⟩ = true := by
    unfold validDisk at hv; simp only [Bool.and_eq_true] at hv; exact hv.1
  obtain ⟨hh1, hh2, hh3, hh4⟩ := (headOK_iff _).1 hH
  have hall : xs.all (okW (dur.length / 512)) = true := by rw [validDisk_is hH] at hv; exact hv
  have HALL := Lib.hid hall
  dsimp only at *
  generalize hsel : selOf all keep = sel
  have HSEL := Lib.hid hsel
  clear hH hall hv hsel
  have HK0 := Lib.hid hk
  clear hk
  go_enter Try.func56, Try.ntmps56
  go_wp2_with fail
  refine (l1Copy_calls _ _ _ _ _ (Rep.sl_ext s1 ((alloc_ext _ _).alloc _)) (by omega)).mono ?_
  rintro e w1 ⟨v1, Fd, rfl, hV, hN⟩
  obtain ⟨B, dd, rfl, q⟩ := Rep.slice_V hV
  have HE1 := Lib.hid (Only.ext ((alloc_ext w _).alloc _) hN.ext)
  have hb1 := Only.heap hN.ext (heap_alloc2_old w _ _) (by simp)
  have hb2 := Only.heap hN.ext (heap_alloc2_new w _ _) (by simp)
  have hge := hN.new
  have hz1' : w.heap.size + 2 ≤ w1.heap.size := by have := hN.ext.size; simp at this; omega
  have HFD : Hid (∀ g ∈ Fd, w.heap.size + 2 ≤ g ∧ g < w1.heap.size) := fun g hg => ⟨by have := hge g hg; simp at this; omega, Rep.sl_lt q g hg⟩
  have HQ := Lib.hid q; have HN := Lib.hid hN; have S2 := Lib.hid s2
  have m1 := fun o => cell_of_row _ _ o _ _ _ hb1
  have m2 := fun o => cell_of_row _ _ o _ _ _ hb2
  have f2 := fun o => frozen_of_row _ _ o _ _ hb2
  have HB1 := Lib.hid hb1; have HB2 := Lib.hid hb2
  clear hb1 hb2 hge q hN hV s1 s2
  go_wp2
  clear m1 m2 f2
  have hU1 : Unfr (w1.alloc (.cells #[.slice B dur.length dd, .slice none 0 0] 29)) Fd := Unfr.ext HN.out.unfr (alloc_ext _ _) (fun g hg => (HFD.out g hg).2)
  go_loopg [8] (xs.length) (fun m i wr => ∃ (k : Nat), m + k = xs.length ∧ i = .int .i64 k ∧ Only Fd (w1.alloc (.cells #[.slice B dur.length dd, .slice none 0 0] 29)) wr ∧ Unfr wr Fd ∧ (Rep.int .u8).sl wr B dd (settleL dur (kept sel (xs.take k))) Fd)
  case atStart => exact ⟨0, by simp, rfl, Only.refl _ _, hU1, Rep.sl_ext HQ.out (alloc_ext _ _)⟩
  case round =>
    obtain ⟨k, hk, rfl, hO, hU, hS⟩ := hrel
    have HO := Lib.hid hO; have HK := Lib.hid hk; have HU := Lib.hid hU; have HS := Lib.hid hS
    have hO1 : Only Fd w1 wr := (alloc_ext _ _).more (by simp) |>.trans hO
    have hOw : Ext w wr := HE1.out.then_ hO1 (fun g hg h => by have := (HFD.out g hg).1; omega)
    have HOw := Lib.hid hOw; have HO1 := Lib.hid hO1
    have hb3 := hO.heap (heap_alloc_new w1 _) (fun hg => by have := (HFD.out _ hg).2; omega)
    have m1 := fun o => cell_of_row _ _ o _ _ _ (hO1.heap HB1.out (fun hg => by have := (HFD.out _ hg).1; omega))
    have m3 := fun o => cell_of_row _ _ o _ _ _ hb3
    have HB3 := Lib.hid hb3
    have hzr := hO.size
    simp only [World.alloc, Array.size_push] at hzr
    clear hO hk hU hS hO1 hOw hb3 hU1
    by_cases hlt : k < xs.length
    · obtain ⟨g, off, A, c, F1, rfl, hg, hwf, t1, k0, k1⟩ := sl_SectorWrite S2.out k hlt
      replace k0 := HOw.out.ecell k0
      replace k1 := HOw.out.ecell k1
      replace t1 := Rep.sl_ext t1 HOw.out
      have hok : okW (dur.length / 512) xs[k] = true := List.all_eq_true.1 HALL.out _ (by simp)
      obtain ⟨r1, r2, r3⟩ := okW_room (n := 0) hok
      have hlen := settleL_len (kept sel (xs.take k)) dur (ok_kept HALL.out k)
      have hkt := kept_take sel xs k hlt
      have hgw : g < w1.heap.size := by omega
      generalize hx : xs[k] = x at *
      have HX := Lib.hid hx; have HOK := Lib.hid hok; have HKT := Lib.hid hkt
      clear hx hok hkt
      obtain ⟨s, hse⟩ := Int.eq_ofNat_of_zero_le r2
      rw [hse] at k0
      have hs2 : s * 512 + 512 ≤ dur.length := by rw [hse] at r3; simpa using r3
      have HSE := Lib.hid hse
      clear hse r2 r3
      have hsk : sel k = selOf all keep k := by rw [HSEL.out]
      have HSK := Lib.hid hsk
      clear hsk
      have hcase : (sel k = true ∧ all = true) ∨ (sel k = true ∧ all = false ∧ k < keep.length ∧ ∃ (gk ok : Nat) (y : Int), K = some ⟨gk, ok, none⟩ ∧ wr.cell? ⟨gk, ok + k, none⟩ = some (.int .i64 y) ∧ (y != 0) = true) ∨
          (sel k = false ∧ all = false ∧ keep.length ≤ k) ∨ (sel k = false ∧ all = false ∧ k < keep.length ∧ ∃ (gk ok : Nat) (y : Int), K = some ⟨gk, ok, none⟩ ∧ wr.cell? ⟨gk, ok + k, none⟩ = some (.int .i64 y) ∧ (y != 0) = false) := by
        rw [HSK.out]
        cases all
        · by_cases hkl : k < keep.length
          · obtain ⟨gk, ok, e1, _, _, e3, _⟩ := Rep.sl_int (Rep.sl_ext HK0.out HOw.out) k hkl
            have e4 : keep[k]?.getD 0 = keep[k] := by simp [hkl]
            by_cases hz : keep[k] = 0
            · exact .inr (.inr (.inr ⟨by simp [selOf, e4, hz], rfl, hkl, gk, ok, _, e1, e3, by simp [hz]⟩))
            · exact .inr (.inl ⟨by simp [selOf, e4, hz], rfl, hkl, gk, ok, _, e1, e3, by simp [hz]⟩)
          · exact .inr (.inr (.inl ⟨by simp [selOf, List.getElem?_eq_none (Nat.le_of_not_lt hkl)], rfl, by omega⟩))
        · exact .inl ⟨by simp [selOf], rfl⟩
      clear HSK
      obtain ⟨gB, oB, rfl, rfl, hgB, hin, hfr, hsp, hup⟩ := sl_splice (w := wr.drew) (Rep.sl_ext HS.out (Only.refl _ _).drew) (Unfr.ext HU.out (Only.refl _ _).drew (fun b hb => Rep.sl_lt HS.out b hb)) (s * 512) (ys := x.Data) (by omega) (by omega) (sl_wf t1)
      obtain ⟨ga, oa, rfl, -, hsrc⟩ := sl_ints t1 (by intro h; rw [h] at r1; simp at r1)
      have hgB2 := HFD.out gB (by simp)
      have HSP := Lib.hid hsp; have HUP := Lib.hid hup; have HIN := Lib.hid hin; have HFR := Lib.hid hfr; have HSRC := Lib.hid hsrc; have HLEN := Lib.hid hlen
      have e1 : wr.cell? ⟨w.heap.size, 1, none⟩ = some (.slice (some ⟨g, off, none⟩) xs.length c2) := m1 1
      have e3 : wr.cell? ⟨w1.heap.size, 0, none⟩ = some (.slice (some ⟨gB, oB, none⟩) dur.length dd) := m3 0
      have hs3 : (s : Int) * 512 + 512 ≤ dur.length := by omega
      have hdd : dur.length ≤ dd := by have := HS.out.1; omega
      have HR1 := Lib.hid r1
      clear hsp hup hin hfr hsrc hlen t1 hs2 r1
      rcases hcase with ⟨hsel, rfl⟩ | ⟨hsel, rfl, hkl, gk, ok, y, rfl, ky, hy⟩ | ⟨hsel, rfl, hkl⟩ | ⟨hsel, rfl, hkl, gk, ok, y, rfl, ky, hy⟩
      rotate_left 2
      all_goals try
        (have hf : sel k = false := hsel
         have HSl := Lib.hid hf
         clear hsel hf e1 e3 k0 k1
         go_wp2
         go_roundg (xs.length - (k + 1))
         case measure => have := HK.out; omega
         case rel =>
           refine ⟨k + 1, by omega, by go_num, HO.out, HU.out, ?_⟩
           rw [HKT.out, if_neg (by rw [HSl.out]; simp), List.append_nil]
           exact HS.out)
      all_goals
        have HSl := Lib.hid hsel
        clear hsel
        go_wp2_with fail
        have hne1 : w.heap.size ≠ gB := by omega
        have hne2 : w1.heap.size ≠ gB := by omega
        have hne3 : g ≠ gB := by omega
        have hq0 : IntKind.i64.wrap ((s : Int) * 512) = (s : Int) * 512 := wrap_small _ (by omega) (by omega)
        have hb0 : (0 : Int) ≤ (s : Int) * 512 := by omega
        have hb1 : (s : Int) * 512 ≤ (dur.length : Int) := by omega
        have hq1 : ((s : Int) * 512).toNat = s * 512 := by omega
        have hq2 : ¬ dd = s * 512 := by omega
        have hq3 : ¬ s * 512 = dd := by omega
        go_region_held3 (fun w' => w'.cell? ⟨w.heap.size, 1, none⟩ = some (.slice (some ⟨g, off, none⟩) xs.length c2) ∧ w'.cell? ⟨w1.heap.size, 0, none⟩ = some (.slice (some ⟨gB, oB, none⟩) dur.length dd) ∧ w'.cell? ⟨g, off + k * 2, none⟩ = some (.int .i64 s) ∧ w'.cell? ⟨g, off + k * 2 + 1, none⟩ = some (.slice (some ⟨ga, oa, none⟩) x.Data.length c))
          (first | go_keep | exact ⟨setCells_cell e1 hne1, setCells_cell e3 hne2, setCells_cell k0 hne3, setCells_cell k1 hne3⟩)
          (refine step_copy_to rfl (.tmp 43) (.tmp 49) 22 22 rfl 5 Try.underlying22 (by rw [hi]; simp [hz1]) gB (oB + s * 512) (dur.length - s * 512) (dd - s * 512) ⟨ga, oa, none⟩ x.Data.length c (by first | rfl | (simp; omega)) rfl (x.Data.map (.int .u8)) (by have := HR1.out; rw [List.length_map]; exact (Nat.min_eq_left (by omega)).symm) HSRC.out (fun j hj => HIN.out j (by simpa using hj)) (fun j hj => HFR.out _) (ints_cells1 _) ?_)
        clear e1 e3 k0 k1 hq1 hq2 hq3 hq0 m1 m3
        go_wp2
        go_roundg (xs.length - (k + 1))
        case measure => have := HK.out; omega
        case rel =>
          refine ⟨k + 1, by omega, by go_num, ?_, HUP.out, ?_⟩
          · exact (HO.out.drew).cells (fun _ => by simp) _ _
          · rw [HKT.out, if_pos HSl.out, settleL_snoc]
            unfold put1
            rw [show x.Sector.toNat = s by rw [HSE.out]; rfl]
            exact HSP.out
    · have hk := HK.out
      have hs := HS.out
      rw [List.take_of_length_le (by omega)] at hs
      have HS2 := Lib.hid hs
      have hne4 : ∀ b, b < w.heap.size + 2 → b ∉ Fd := fun b hb hg => by have := (HFD.out b hg).1; omega
      have hb2' := HO1.out.heap HB2.out (hne4 _ (by omega))
      have m2 := fun o => cell_of_row _ _ o _ _ _ hb2'
      have f2 := fun o => frozen_of_row _ _ o _ _ hb2'
      have hlen := settleL_len (kept sel xs) dur (fun x hx => List.all_eq_true.1 HALL.out x (kept_mem hx))
      have HLEN := Lib.hid hlen
      clear hs hb2' hne4 hlen
      go_wp2
      refine bodyPost_ret (v := .agg #[.slice B dur.length dd, .slice none 0 0]) (by simp [results, Try.results56, go_sem, m2]) rfl ?_
      have hO2 : Only [w.heap.size + 1] wr ((wr.setCell ⟨w.heap.size + 1, 0, none⟩ (.slice B dur.length dd)).setCell ⟨w.heap.size + 1, 1, none⟩ (.slice none 0 0)) :=
        ((Only.refl _ _).setCell (by simp) _).setCell (by simp) _
      refine ⟨B, dd, _, wr.heap.size, by rw [HLEN.out], ⟨Fd, Rep.sl_only HS2.out hO2 (fun b hb hb' => by have := HFD.out b hb; simp at hb'; omega), fun g hg => by have := HFD.out g hg; omega, HN.out.nodup, Unfr.only HU.out hO2 (fun g hg => Rep.sl_lt HS2.out g hg) (fun b hb hb' => by have := HFD.out b hb; simp at hb'; omega), Own.nil (by simp [World.setCell])⟩, by omega, (HOw.out.setCell (by simp) _).setCell (by simp) _⟩
end Go.Proofs.Ytdjcfcgkldokgaa
