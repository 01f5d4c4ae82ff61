/- ValidDisk of the reference. -/
import Derived.Test.YtdjcfcgkldokgaaD1
namespace Go.Proofs.Ytdjcfcgkldokgaa
open Go.RowKit
set_option linter.unusedSimpArgs false
set_option linter.unusedVariables false
set_option maxRecDepth 100000 in
set_option maxHeartbeats 1000000 in
theorem specValid_calls (v : Value) (d : DDisk) (F : List Nat) (w : World) (h : Rep.Disk.V w v d F) :
    Calls Try.prog 37 #[v] w fun e w' => e = .returned (.bool (validDisk d)) ∧ Ext w w' := by
  obtain ⟨_, ⟨A1, c1, F1, A2, c2, F2, rfl, rfl, hw, s1, s2⟩, rfl⟩ := h
  have hu := Try.underlying29
  have hu2 := Try.underlying64
  show Calls _ _ #[.agg #[_, _]] _ _
  have hm := Nat.le_trans s1.1 s1.2.1
  have hm2 := Nat.le_trans s2.1 s2.2.1
  unfold maxLen at hm hm2
  obtain ⟨dur, xs⟩ := d
  dsimp only at *
  generalize hR : validDisk ⟨dur, xs⟩ = R
  have HR := Lib.hid hR
  clear hR
  by_cases hH : headOK ⟨dur, xs⟩ = true
  rotate_left
  · obtain rfl : R = false := by rw [← HR.out, validDisk_not hH]
    have hh : ¬ (dur.length % 512 = 0 ∧ 512 ≤ dur.length ∧ dur.length ≤ 524288 ∧ xs.length ≤ 8192) := fun h => hH ((headOK_iff _).2 h)
    clear hH
    have HH := Lib.hid hh
    clear hh
    go_enter Try.func37, Try.ntmps37
    go_wp2_with (go_at_call 63; refine (l1Sectors_calls _ _ _ _ _ _ _ (by omega)).mono ?_; rintro e w1 ⟨rfl, rfl⟩)
    all_goals first
      | (exfalso; have := HH.out; omega)
      | (go_ret; exact ⟨rfl, by repeat (first | exact alloc_ext _ _ | apply Only.alloc | apply Only.drew)⟩)
  have hh := (headOK_iff _).1 hH
  dsimp only at hh
  obtain ⟨hh1, hh2, hh3, hh4⟩ := hh
  have hR2 := HR.out
  rw [validDisk_is hH] at hR2
  dsimp only at hR2
  have HR2 := Lib.hid hR2
  have S2 := Lib.hid s2
  clear HR hH hR2 s2
  go_enter Try.func37, Try.ntmps37
  go_wp2_with (go_at_call 63; refine (l1Sectors_calls _ _ _ _ _ _ _ (by omega)).mono ?_; rintro e w1 ⟨rfl, rfl⟩)
  generalize hW0 : (w.alloc _).alloc _ = W0
  have HE0 : Hid (Ext w W0) := by rw [← hW0]; exact (alloc_ext _ _).alloc _
  have hb : (∀ o, W0.cell? ⟨w.heap.size, o, none⟩ = #[Value.slice A1 dur.length c1, Value.slice A2 xs.length c2][o]?) := by rw [← hW0]; exact fun o => cell_of_row _ _ _ _ _ _ ((alloc_ext _ _).heap (heap_alloc_new _ _) (by simp))
  have hz : w.heap.size < W0.heap.size := by rw [← hW0]; simp; omega
  clear hW0
  go_loopg [4] (xs.length) (fun m i wr => ∃ j : Nat, m + j = xs.length ∧ i = .int .i64 j ∧ Ext W0 wr ∧ Hid (∀ k (hk : k < xs.length), k < j → okW (dur.length / 512) xs[k] = true))
  case atStart => exact ⟨0, by simp, rfl, Only.refl _ _, fun k _ h => by omega⟩
  case round =>
    obtain ⟨j, hj, rfl, hO, HT⟩ := hrel
    have HO := Lib.hid hO; have HJ := Lib.hid hj
    obtain ⟨hc, hf⟩ := bcell hO
    clear hO hj
    by_cases hlt : j < xs.length
    · obtain ⟨g, off, B1, d1, G1, rfl, hg, hwf, t1, k0, k1⟩ := sl_SectorWrite (Rep.sl_ext S2.out (HE0.out.ext HO.out)) j hlt
      clear hwf t1
      generalize hx : xs[j] = x at *
      have HX := Lib.hid hx
      clear hx
      obtain ⟨b, hb3⟩ : ∃ b, b = okW (dur.length / 512) x := ⟨_, rfl⟩
      cases b
      · have hn : ¬ (x.Data.length = 512 ∧ 0 ≤ x.Sector ∧ x.Sector < (dur.length / 512 : Nat)) := by
          intro h; have h2 : okW (dur.length / 512) x = true := by { simp [okW]; omega }; rw [h2] at hb3; cases hb3
        have HN := Lib.hid hn
        have HB3 := Lib.hid hb3
        clear hn hb3
        go_wp2
        all_goals first
          | (exfalso; have := HN.out; omega)
          | (exfalso; apply HN.out; simp at *; omega)
          | (go_ret; exact ⟨ret_bool (by rw [← HR2.out, all_not _ xs j hlt (by rw [HX.out]; exact HB3.out.symm)]), HE0.out.ext (by repeat (first | exact HO.out | apply Only.alloc | apply Only.drew))⟩)
      · have hy : x.Data.length = 512 ∧ 0 ≤ x.Sector ∧ x.Sector < (dur.length / 512 : Nat) := by
          have := hb3.symm; simp [okW] at this; omega
        obtain ⟨hy1, hy2, hy3⟩ := hy
        have hy4 : ((x.Data.length : Int) != 512) = false := by simp; omega
        have HB3 := Lib.hid hb3
        have HY1 := Lib.hid hy1
        clear hb3 hy1
        go_wp2
        go_roundg (xs.length - (j + 1))
        case measure => have := HJ.out; omega
        case rel =>
          refine ⟨j + 1, by omega, by go_num, by repeat (first | exact HO.out | apply Only.alloc | apply Only.drew), fun k hk hkj => ?_⟩
          by_cases e : k = j
          · subst e; rw [HX.out]; exact HB3.out.symm
          · exact HT.out k hk (by omega)
    · have hA : xs.all (okW (dur.length / 512)) = true := all_yes _ _ fun k hk => HT.out k hk (by have := HJ.out; omega)
      have HA := Lib.hid hA
      clear hA
      go_wp2
      go_ret
      exact ⟨ret_bool (by rw [← HR2.out, HA.out]), HE0.out.ext HO.out⟩
end Go.Proofs.Ytdjcfcgkldokgaa
