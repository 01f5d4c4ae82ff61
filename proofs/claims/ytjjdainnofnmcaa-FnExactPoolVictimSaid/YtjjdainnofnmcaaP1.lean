import Derived.Test.YtjjdainnofnmcaaP0
namespace Go.Proofs.Ytjjdainnofnmcaa
open Go.RowKit
set_option linter.unusedSimpArgs false
set_option linter.unusedVariables false
theorem frame3_page {f : DFrame} (h : frame3 f = false) (hp : ¬ f.Page = -1) : 0 ≤ f.Page := by
  simp [frame3, hp, inR] at h
  omega
set_option maxRecDepth 100000 in
set_option maxHeartbeats 1000000 in
theorem implPoolFault_calls (v : Value) (p : DPool) (F : List Nat) (w : World) (h : Rep.Pool.V w v p F) :
    Calls Try.prog 19 #[v] w fun e w' => e = .returned (.int .i64 (poolFault p)) ∧ Ext w w' := by
  obtain ⟨_, ⟨A1, c1, F1, rfl, rfl, hw, s1⟩, rfl⟩ := h
  have hu := Try.underlying29
  have hu2 := Try.underlying43
  show Calls _ _ #[.agg #[_, _]] _ _
  obtain ⟨xs, hand⟩ := p
  dsimp only at s1 ⊢
  by_cases h1 : xs.length < 1 ∨ 16 < xs.length
  · have H : poolFault ⟨xs, hand⟩ = 1 := by simp only [poolFault]; rw [if_pos h1]
    rw [H]
    clear H
    go_enter Try.func19, Try.ntmps19
    go_wp2
    all_goals (go_ret; exact ⟨rfl, alloc_ext _ _⟩)
  have hl1 : 1 ≤ xs.length := by omega
  have hl2 : xs.length ≤ 16 := by omega
  by_cases h2 : hand < 0 ∨ (xs.length : Int) ≤ hand
  · have H : poolFault ⟨xs, hand⟩ = 2 := by simp only [poolFault]; rw [if_neg h1, if_pos h2]
    rw [H]
    clear H h1
    have hin : inR hand 0 ((xs.length : Int) - 1) = false := by simp [inR]; omega
    go_enter Try.func19, Try.ntmps19
    go_wp2_with (go_at_call 45; refine (implIn_calls _ _ _ _).mono ?_; rintro e w1 ⟨rfl, rfl⟩)
    all_goals (go_ret; exact ⟨rfl, alloc_ext _ _⟩)
  have hh1 : 0 ≤ hand := by omega
  have hh2 : hand < xs.length := by omega
  have H0 : poolFault ⟨xs, hand⟩ = if xs.any frame3 then 3 else if xs.any frame4 then 4 else if frames5 xs then 5 else 0 := by simp only [poolFault]; rw [if_neg h1, if_neg h2]
  rw [H0]
  clear H0 h1 h2
  generalize hR : (if xs.any frame3 then (3 : Int) else if xs.any frame4 then 4 else if frames5 xs then 5 else 0) = R
  have HR := Lib.hid hR
  clear hR
  have S1 := Lib.hid s1
  clear s1
  have hlc := S1.out.1
  have hlm := S1.out.2.1
  unfold maxLen at hlm
  have hin : inR hand 0 ((xs.length : Int) - 1) = true := by simp [inR]; omega
  go_enter Try.func19, Try.ntmps19
  go_wp2_with (go_at_call 45; refine (implIn_calls _ _ _ _).mono ?_; rintro e w1 ⟨rfl, rfl⟩)
  clear hin
  generalize hW0 : w.alloc _ = W0
  have HE0 : Hid (Ext w W0) := by rw [← hW0]; exact alloc_ext _ _
  have hb : (∀ o, W0.cell? ⟨w.heap.size, o, none⟩ = #[Value.slice A1 xs.length c1, Value.int .i64 hand][o]?) := by rw [← hW0]; exact fun o => cell_of_row _ _ _ _ _ _ (heap_alloc_new _ _)
  have hz : w.heap.size < W0.heap.size := by rw [← hW0]; simp
  clear hW0
  go_loopg [32] (xs.length) (fun m i wr => ∃ j : Nat, m + j = xs.length ∧ i = .int .i64 j ∧ Ext W0 wr ∧ Hid (∀ k (hk : k < xs.length), k < j → frame3 xs[k] = false))
  case atStart => exact ⟨0, by simp, rfl, Only.refl _ _, fun k _ h => by omega⟩
  case round =>
    obtain ⟨j, hj, rfl, hO, HT⟩ := hrel
    have HO := Lib.hid hO; have HJ := Lib.hid hj
    obtain ⟨hc, hf⟩ := bcell hO
    clear hO hj
    by_cases hlt : j < xs.length
    · obtain ⟨g, off, B1, d1, G1, rfl, hg, hwf, t1, k0, k1, k2, k3, k4, k5⟩ := sl_Frame (Rep.sl_ext S1.out (HE0.out.ext HO.out)) j hlt
      clear hwf t1
      generalize hx : xs[j] = x at *
      have HX := Lib.hid hx
      clear hx
      have hz2 : (0 < x.Bytes.length ∧ ¬ x.Bytes = []) ∨ x.Bytes = [] := by
        cases x.Bytes <;> simp
      rcases hz2 with ⟨hz2, hz3⟩ | hz2
      all_goals go_wp2_with (go_at_call 45; refine (implIn_calls _ _ _ _).mono ?_; rintro e w1 ⟨rfl, rfl⟩)
      all_goals first
        | (go_ret
           have hf3 : frame3 x = true := by
             clear hc hf k0 k1 k2 k3 k4 k5 hb
             try simp only [beq_iff_eq, beq_eq_false_iff_ne, ne_eq] at *
             first | (simp [frame3, *]; done) | (simp [frame3, *]; omega)
           exact ⟨ret_int (by rw [← HR.out, if_pos (any_split _ _ j hlt (by rw [HX.out]; exact hf3))]), HE0.out.ext (by repeat (first | exact HO.out | apply Only.alloc))⟩)
        | (go_roundg (xs.length - (j + 1))
           case measure => have := HJ.out; omega
           case rel =>
             have hf3 : frame3 x = false := by
               clear hc hf k0 k1 k2 k3 k4 k5 hb
               try simp only [beq_iff_eq, beq_eq_false_iff_ne, ne_eq] at *
               first | (simp [frame3, *]; done) | (simp [frame3, *]; omega)
             refine ⟨j + 1, by omega, by go_num, by repeat (first | exact HO.out | apply Only.alloc), fun k hk hkj => ?_⟩
             by_cases e : k = j
             · subst e; rw [HX.out]; exact hf3
             · exact HT.out k hk (by omega))
    · have hA3 : xs.any frame3 = false := any_none _ _ fun k hk => HT.out k hk (by have := HJ.out; omega)
      rw [hA3] at HR
      have HA3 := Lib.hid hA3
      have HE1 := Lib.hid (HE0.out.ext HO.out)
      have hzr : w.heap.size < wr.heap.size := Nat.lt_of_lt_of_le hz HO.out.size
      clear hA3 HT
      go_wp2
      replace hb : (∀ o, wr.cell? ⟨w.heap.size, o, none⟩ = #[Value.slice A1 xs.length c1, Value.int .i64 hand][o]?) := fun o => (hc _ _ hz).trans (hb o)
      clear hc hf HO HJ hz
      generalize wr = W1 at *
      go_loopg [81] (xs.length) (fun m i wr => ∃ j : Nat, m + j = xs.length ∧ i = .int .i64 j ∧ Ext W1 wr ∧ Hid (∀ k (hk : k < xs.length), k < j → frame4 xs[k] = false))
      case atStart => exact ⟨0, by simp, rfl, Only.refl _ _, fun k _ h => by omega⟩
      case round =>
        obtain ⟨j, hj, rfl, hO, HT⟩ := hrel
        have HO := Lib.hid hO; have HJ := Lib.hid hj
        obtain ⟨hc, hf⟩ := bcell hO
        clear hO hj
        by_cases hlt : j < xs.length
        · obtain ⟨g, off, B1, d1, G1, rfl, hg, hwf, t1, k0, k1, k2, k3, k4, k5⟩ := sl_Frame (Rep.sl_ext S1.out (HE1.out.ext HO.out)) j hlt
          clear hwf t1
          generalize hx : xs[j] = x at *
          have HX := Lib.hid hx
          clear hx
          go_wp2_with (go_at_call 45; refine (implIn_calls _ _ _ _).mono ?_; rintro e w1 ⟨rfl, rfl⟩)
          all_goals first
            | (go_ret
               have hf4 : frame4 x = true := by
                 clear hc hf k0 k1 k2 k3 k4 k5 hb
                 try simp only [beq_iff_eq, beq_eq_false_iff_ne, ne_eq] at *
                 first | (simp [frame4, *]; done) | (simp [frame4, *]; omega)
               exact ⟨ret_int (by rw [← HR.out, if_neg (by simp), if_pos (any_split _ _ j hlt (by rw [HX.out]; exact hf4))]), HE1.out.ext (by repeat (first | exact HO.out | apply Only.alloc))⟩)
            | (go_roundg (xs.length - (j + 1))
               case measure => have := HJ.out; omega
               case rel =>
                 have hf4 : frame4 x = false := by
                   clear hc hf k0 k1 k2 k3 k4 k5 hb
                   try simp only [beq_iff_eq, beq_eq_false_iff_ne, ne_eq] at *
                   first | (simp [frame4, *]; done) | (simp [frame4, *]; omega)
                 refine ⟨j + 1, by omega, by go_num, by repeat (first | exact HO.out | apply Only.alloc), fun k hk hkj => ?_⟩
                 by_cases e : k = j
                 · subst e; rw [HX.out]; exact hf4
                 · exact HT.out k hk (by omega))
        · have hA4 : xs.any frame4 = false := any_none _ _ fun k hk => HT.out k hk (by have := HJ.out; omega)
          rw [hA4] at HR
          have HE2 := Lib.hid (HE1.out.ext HO.out)
          have hzr2 : w.heap.size < wr.heap.size := Nat.lt_of_lt_of_le hzr HO.out.size
          clear hA4 HT
          go_wp2
          replace hb : (∀ o, wr.cell? ⟨w.heap.size, o, none⟩ = #[Value.slice A1 xs.length c1, Value.int .i64 hand][o]?) := fun o => (hc _ _ hzr).trans (hb o)
          clear hc hf HO HJ hzr
          generalize wr = W2 at *
          go_loopg [107] (xs.length) (fun m i wr => ∃ j : Nat, m + j = xs.length ∧ i = .int .i64 j ∧ Ext W2 wr ∧ Hid (∀ k l (hk : k < xs.length) (hl : l < k), k < j → (xs[k].Page != -1 && xs[k].Page == (xs[l]'(by omega)).Page) = false))
          case atStart => exact ⟨0, by simp, rfl, Only.refl _ _, fun k l _ _ h => by omega⟩
          case round =>
            obtain ⟨j, hj, rfl, hO, HT⟩ := hrel
            have HO := Lib.hid hO; have HJ := Lib.hid hj
            obtain ⟨hc, hf⟩ := bcell hO
            clear hO hj
            by_cases hlt : j < xs.length
            · obtain ⟨g, off, B1, d1, G1, rfl, hg, -, -, k0, k1, k2, k3, k4, k5⟩ := sl_Frame (Rep.sl_ext S1.out (HE2.out.ext HO.out)) j hlt
              have hzq0 : w.heap.size < wr.heap.size := Nat.lt_of_lt_of_le hzr2 HO.out.size
              have hpg : ¬ xs[j].Page = -1 → 0 ≤ xs[j].Page := frame3_page (by have := List.any_eq_false.1 HA3.out xs[j] (by simp); simpa using this)
              have HPG := Lib.hid hpg
              clear hpg
              go_wp2
              generalize hWo : wr.alloc _ = wo
              have HEo : Hid (Ext wr wo) := by rw [← hWo]; exact alloc_ext _ _
              have hbo : (∀ o, wo.cell? ⟨wr.heap.size, o, none⟩ = #[Value.int .i64 xs[j].Page, Value.slice B1 xs[j].Bytes.length d1, Value.int .i64 xs[j].Pins, Value.bool xs[j].Dirty, Value.int .i64 xs[j].RecLSN, Value.bool xs[j].Ref][o]?) := by rw [← hWo]; exact fun o => cell_of_row _ _ _ _ _ _ (heap_alloc_new _ _)
              have hzo : wr.heap.size < wo.heap.size := by rw [← hWo]; simp
              clear hWo k0 k1 k2 k3 k4 k5
              go_loopg [117] (j) (fun m q wq => ∃ l : Nat, m + l = j ∧ q = .int .i64 l ∧ Ext wo wq ∧ Hid (∀ l' (hl : l' < j), l' < l → (xs[j].Page != -1 && xs[j].Page == (xs[l']'(by omega)).Page) = false))
              case atStart => exact ⟨0, by simp, rfl, Only.refl _ _, fun l _ h => by omega⟩
              case round =>
                obtain ⟨l, hl, rfl, hO2, HT2⟩ := hrel
                have HO2 := Lib.hid hO2; have HL := Lib.hid hl
                have hcq := (bcell hO2).1
                have hzq := Nat.lt_of_lt_of_le hzo hO2.size
                clear hO2 hl
                by_cases hll : l < j
                · have hll2 : l < xs.length := by omega
                  obtain ⟨g', off', B2, d2, G2, e2, hg', -, -, l0, l1, l2, l3, l4, l5⟩ := sl_Frame (Rep.sl_ext S1.out (HE2.out.ext (HO.out.ext (HEo.out.ext HO2.out)))) l hll2
                  injection e2 with e2
                  injection e2 with e2 e3
                  subst e2
                  subst e3
                  by_cases hp1 : xs[j].Page = -1
                  · have hp2 : decide (0 ≤ xs[j].Page) = false := by simp [hp1]
                    have HP := Lib.hid hp1
                    clear hp1
                    go_wp2
                    go_roundg (j - (l + 1))
                    case measure => have := HL.out; omega
                    case rel =>
                      refine ⟨l + 1, by omega, by go_num, HO2.out.alloc _, fun l' hl' h => ?_⟩
                      simp [HP.out]
                  · have hp2 : decide (0 ≤ xs[j].Page) = true := by simp [HPG.out hp1]
                    have hp3 : (xs[j].Page != -1) = true := by simp [hp1]
                    have HP := Lib.hid hp1
                    have HP3 := Lib.hid hp3
                    clear hp1 hp3
                    by_cases he : xs[j].Page = xs[l].Page
                    · have he2 : (xs[j].Page == xs[l].Page) = true := by simp [he]
                      have HQ := Lib.hid he
                      clear he
                      go_wp2
                      go_ret
                      exact ⟨ret_int (by rw [← HR.out]; simp [frames5_true xs j l hlt hll (by simp [HP3.out, he2])]), HE2.out.ext (HO.out.ext (HEo.out.ext (HO2.out.alloc _)))⟩
                    · have he2 : (xs[j].Page == xs[l].Page) = false := by simp [he]
                      have HQ := Lib.hid he
                      clear he
                      go_wp2
                      go_roundg (j - (l + 1))
                      case measure => have := HL.out; omega
                      case rel =>
                        refine ⟨l + 1, by omega, by go_num, HO2.out.alloc _, fun l' hl' h => ?_⟩
                        by_cases e : l' = l
                        · subst e; simp [HQ.out]
                        · exact HT2.out l' hl' (by omega)
                · go_wp2
                  go_roundg (xs.length - (j + 1))
                  case measure => have := HJ.out; omega
                  case rel =>
                    refine ⟨j + 1, by omega, by go_num, HO.out.ext (HEo.out.ext HO2.out), fun k l' hk hl' h => ?_⟩
                    by_cases e : k = j
                    · subst e; exact HT2.out l' hl' (by have := HL.out; omega)
                    · exact HT.out k l' hk hl' (by omega)
            · have h5 : frames5 xs = false := frames5_false xs fun k l hk hl => HT.out k l hk hl (by have := HJ.out; omega)
              have H5 := Lib.hid h5
              clear h5
              go_wp2
              go_ret
              exact ⟨ret_int (by rw [← HR.out, H5.out]; rfl), HE2.out.ext HO.out⟩
end Go.Proofs.Ytjjdainnofnmcaa
