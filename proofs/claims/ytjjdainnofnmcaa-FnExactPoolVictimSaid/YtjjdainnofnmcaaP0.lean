/- Pools: what is wrong with a pool; the frame that holds a page. Both packages' functions come to these. -/
import Derived.Test.YtjjdainnofnmcaaFPoolResult
import Derived.Outline
namespace Go.Proofs.Ytjjdainnofnmcaa
open Go.RowKit
set_option linter.unusedSimpArgs false
set_option linter.unusedVariables false

def inR (x a b : Int) : Bool := decide (x ≥ a) && decide (x ≤ b)
theorem specIn_calls (x a b : Int) (w : World) : Calls Try.prog 59 #[.int .i64 x, .int .i64 a, .int .i64 b] w fun e w' => e = .returned (.bool (inR x a b)) ∧ w = w' := by
  go_enter Try.func59, Try.ntmps59
  go_wp2
  all_goals (go_ret; exact ⟨ret_bool (by simp [inR, *] <;> omega), rfl⟩)
theorem implIn_calls (x a b : Int) (w : World) : Calls Try.prog 45 #[.int .i64 x, .int .i64 a, .int .i64 b] w fun e w' => e = .returned (.bool (inR x a b)) ∧ w = w' := by
  go_enter Try.func45, Try.ntmps45
  go_wp2
  all_goals (go_ret; exact ⟨ret_bool (by simp [inR, *] <;> omega), rfl⟩)

def frame3 (f : DFrame) : Bool :=
  if f.Page = -1 then decide (0 < f.Bytes.length) || f.Pins != 0 || f.Dirty || f.RecLSN != 0 || f.Ref
  else !inR f.Page 0 15 || f.Bytes.length != 4096 || !inR f.Pins 0 2147483647
def frame4 (f : DFrame) : Bool := f.Dirty && !inR f.RecLSN 1 1099511627776 || !f.Dirty && f.RecLSN != 0
/-- Two frames with one page. -/
def frames5 : List DFrame → Bool
  | [] => false
  | f :: l => l.any (fun g => g.Page != -1 && g.Page == f.Page) || frames5 l
def poolFault (p : DPool) : Int :=
  if p.Frames.length < 1 ∨ 16 < p.Frames.length then 1
  else if p.Hand < 0 ∨ (p.Frames.length : Int) ≤ p.Hand then 2
  else if p.Frames.any frame3 then 3
  else if p.Frames.any frame4 then 4
  else if frames5 p.Frames then 5
  else 0

theorem ext_ext {a b c : World} (h : Ext a b) (k : Ext b c) : Ext a c := h.ext k

theorem frames5_true : ∀ (xs : List DFrame) (k l : Nat) (hk : k < xs.length) (hl : l < k), (xs[k].Page != -1 && xs[k].Page == (xs[l]'(by omega)).Page) = true → frames5 xs = true
  | f :: xs, 0, _, _, hl, _ => by omega
  | f :: xs, k + 1, 0, hk, _, h => by
    simp only [frames5, Bool.or_eq_true]
    exact .inl (List.any_eq_true.2 ⟨xs[k]'(by simpa using hk), by simp, by simpa using h⟩)
  | f :: xs, k + 1, l + 1, hk, hl, h => by
    simp only [frames5, Bool.or_eq_true]
    exact .inr (frames5_true xs k l (by simpa using hk) (by omega) (by simpa using h))
theorem frames5_false : ∀ (xs : List DFrame), (∀ (k l : Nat) (hk : k < xs.length) (hl : l < k), (xs[k].Page != -1 && xs[k].Page == (xs[l]'(by omega)).Page) = false) → frames5 xs = false
  | [], _ => rfl
  | f :: xs, h => by
    simp only [frames5, Bool.or_eq_false_iff]
    constructor
    · rw [List.any_eq_false]
      intro g hg
      obtain ⟨k, hk, rfl⟩ := List.getElem_of_mem hg
      have := h (k + 1) 0 (by simpa using hk) (by omega)
      simpa using this
    · exact frames5_false xs fun k l hk hl => h (k + 1) (l + 1) (by simpa using hk) (by omega)
theorem any_split {α : Type} (f : α → Bool) (xs : List α) (j : Nat) (h : j < xs.length) (hf : f xs[j] = true) : xs.any f = true := List.any_eq_true.2 ⟨xs[j], by simp, hf⟩
theorem any_none {α : Type} (f : α → Bool) (xs : List α) (h : ∀ j (hj : j < xs.length), f xs[j] = false) : xs.any f = false := by
  rw [List.any_eq_false]
  intro x hx
  obtain ⟨j, hj, rfl⟩ := List.getElem_of_mem hx
  simp [h j hj]

set_option maxRecDepth 100000 in
set_option maxHeartbeats 1000000 in
theorem specPoolFault_calls (v : Value) (p : DPool) (F : List Nat) (w : World) (h : Rep.Pool.V w v p F) :
    Calls Try.prog 41 #[v] w fun e w' => e = .returned (.int .i64 (poolFault p)) ∧ Ext w w' := by
  obtain ⟨_, ⟨A1, c1, F1, rfl, rfl, hw, s1⟩, rfl⟩ := h
  have hu := Try.underlying29
  have hu2 := Try.underlying43
  show Calls _ _ #[.agg #[_, _]] _ _
  obtain ⟨xs, hand⟩ := p
  dsimp only at s1 ⊢
  by_cases h1 : xs.length < 1 ∨ 16 < xs.length
  · have H : poolFault ⟨xs, hand⟩ = 1 := by simp only [poolFault]; rw [if_pos h1]
    rw [H]
    clear H
    go_enter Try.func41, Try.ntmps41
    go_wp2
    all_goals (go_ret; exact ⟨rfl, alloc_ext _ _⟩)
  have hl1 : 1 ≤ xs.length := by omega
  have hl2 : xs.length ≤ 16 := by omega
  by_cases h2 : hand < 0 ∨ (xs.length : Int) ≤ hand
  · have H : poolFault ⟨xs, hand⟩ = 2 := by simp only [poolFault]; rw [if_neg h1, if_pos h2]
    rw [H]
    clear H h1
    go_enter Try.func41, Try.ntmps41
    go_wp2
    all_goals (go_ret; exact ⟨rfl, alloc_ext _ _⟩)
  have hh1 : 0 ≤ hand := by omega
  have hh2 : hand < xs.length := by omega
  have H0 : poolFault ⟨xs, hand⟩ = if xs.any frame3 then 3 else if xs.any frame4 then 4 else if frames5 xs then 5 else 0 := by simp only [poolFault]; rw [if_neg h1, if_neg h2]
  rw [H0]
  clear H0 h1 h2
  generalize hR : (if xs.any frame3 then (3 : Int) else if xs.any frame4 then 4 else if frames5 xs then 5 else 0) = R
  have HR := Lib.hid hR
  clear hR
  have S1 := Lib.hid s1
  clear s1
  go_enter Try.func41, Try.ntmps41
  go_wp2
  generalize hW0 : w.alloc _ = W0
  have HE0 : Hid (Ext w W0) := by rw [← hW0]; exact alloc_ext _ _
  have hb : (∀ o, W0.cell? ⟨w.heap.size, o, none⟩ = #[Value.slice A1 xs.length c1, Value.int .i64 hand][o]?) := by rw [← hW0]; exact fun o => cell_of_row _ _ _ _ _ _ (heap_alloc_new _ _)
  have hz : w.heap.size < W0.heap.size := by rw [← hW0]; simp
  clear hW0
  go_loopg [3] (xs.length) (fun m i wr => ∃ j : Nat, m + j = xs.length ∧ i = .int .i64 j ∧ Ext W0 wr ∧ Hid (∀ k (hk : k < xs.length), k < j → frame3 xs[k] = false))
  case atStart => exact ⟨0, by simp, rfl, Only.refl _ _, fun k _ h => by omega⟩
  case round =>
    obtain ⟨j, hj, rfl, hO, HT⟩ := hrel
    have HO := Lib.hid hO; have HJ := Lib.hid hj
    obtain ⟨hc, hf⟩ := bcell hO
    clear hO hj
    by_cases hlt : j < xs.length
    · obtain ⟨g, off, B1, d1, G1, rfl, hg, hwf, t1, k0, k1, k2, k3, k4, k5⟩ := sl_Frame (Rep.sl_ext S1.out (HE0.out.ext HO.out)) j hlt
      clear hwf t1
      generalize hx : xs[j] = x at *
      have HX := Lib.hid hx
      clear hx
      have hz2 : (0 < x.Bytes.length ∧ ¬ x.Bytes = []) ∨ x.Bytes = [] := by
        cases x.Bytes <;> simp
      rcases hz2 with ⟨hz2, hz3⟩ | hz2
      all_goals go_wp2_with (go_at_call 59; refine (specIn_calls _ _ _ _).mono ?_; rintro e w1 ⟨rfl, rfl⟩)
      all_goals first
        | (go_ret
           have hf3 : frame3 x = true := by
             clear hc hf k0 k1 k2 k3 k4 k5 hb
             try simp only [beq_iff_eq, beq_eq_false_iff_ne, ne_eq] at *
             first | (simp [frame3, *]; done) | (simp [frame3, *]; omega)
           exact ⟨ret_int (by rw [← HR.out, if_pos (any_split _ _ j hlt (by rw [HX.out]; exact hf3))]), HE0.out.ext (by repeat (first | exact HO.out | apply Only.alloc))⟩)
        | (go_roundg (xs.length - (j + 1))
           case measure => have := HJ.out; omega
           case rel =>
             have hf3 : frame3 x = false := by
               clear hc hf k0 k1 k2 k3 k4 k5 hb
               try simp only [beq_iff_eq, beq_eq_false_iff_ne, ne_eq] at *
               first | (simp [frame3, *]; done) | (simp [frame3, *]; omega)
             refine ⟨j + 1, by omega, by go_num, by repeat (first | exact HO.out | apply Only.alloc), fun k hk hkj => ?_⟩
             by_cases e : k = j
             · subst e; rw [HX.out]; exact hf3
             · exact HT.out k hk (by omega))
    · have hA3 : xs.any frame3 = false := any_none _ _ fun k hk => HT.out k hk (by have := HJ.out; omega)
      rw [hA3] at HR
      have HA3 := Lib.hid hA3
      have HE1 := Lib.hid (HE0.out.ext HO.out)
      have hzr : w.heap.size < wr.heap.size := Nat.lt_of_lt_of_le hz HO.out.size
      clear hA3 HT
      go_wp2
      replace hb : (∀ o, wr.cell? ⟨w.heap.size, o, none⟩ = #[Value.slice A1 xs.length c1, Value.int .i64 hand][o]?) := fun o => (hc _ _ hz).trans (hb o)
      clear hc hf HO HJ hz
      generalize wr = W1 at *
      go_loopg [5] (xs.length) (fun m i wr => ∃ j : Nat, m + j = xs.length ∧ i = .int .i64 j ∧ Ext W1 wr ∧ Hid (∀ k (hk : k < xs.length), k < j → frame4 xs[k] = false))
      case atStart => exact ⟨0, by simp, rfl, Only.refl _ _, fun k _ h => by omega⟩
      case round =>
        obtain ⟨j, hj, rfl, hO, HT⟩ := hrel
        have HO := Lib.hid hO; have HJ := Lib.hid hj
        obtain ⟨hc, hf⟩ := bcell hO
        clear hO hj
        by_cases hlt : j < xs.length
        · obtain ⟨g, off, B1, d1, G1, rfl, hg, hwf, t1, k0, k1, k2, k3, k4, k5⟩ := sl_Frame (Rep.sl_ext S1.out (HE1.out.ext HO.out)) j hlt
          clear hwf t1
          generalize hx : xs[j] = x at *
          have HX := Lib.hid hx
          clear hx
          go_wp2_with (go_at_call 59; refine (specIn_calls _ _ _ _).mono ?_; rintro e w1 ⟨rfl, rfl⟩)
          all_goals first
            | (go_ret
               have hf4 : frame4 x = true := by
                 clear hc hf k0 k1 k2 k3 k4 k5 hb
                 try simp only [beq_iff_eq, beq_eq_false_iff_ne, ne_eq] at *
                 first | (simp [frame4, *]; done) | (simp [frame4, *]; omega)
               exact ⟨ret_int (by rw [← HR.out, if_neg (by simp), if_pos (any_split _ _ j hlt (by rw [HX.out]; exact hf4))]), HE1.out.ext (by repeat (first | exact HO.out | apply Only.alloc))⟩)
            | (go_roundg (xs.length - (j + 1))
               case measure => have := HJ.out; omega
               case rel =>
                 have hf4 : frame4 x = false := by
                   clear hc hf k0 k1 k2 k3 k4 k5 hb
                   try simp only [beq_iff_eq, beq_eq_false_iff_ne, ne_eq] at *
                   first | (simp [frame4, *]; done) | (simp [frame4, *]; omega)
                 refine ⟨j + 1, by omega, by go_num, by repeat (first | exact HO.out | apply Only.alloc), fun k hk hkj => ?_⟩
                 by_cases e : k = j
                 · subst e; rw [HX.out]; exact hf4
                 · exact HT.out k hk (by omega))
        · have hA4 : xs.any frame4 = false := any_none _ _ fun k hk => HT.out k hk (by have := HJ.out; omega)
          rw [hA4] at HR
          have HE2 := Lib.hid (HE1.out.ext HO.out)
          have hzr2 : w.heap.size < wr.heap.size := Nat.lt_of_lt_of_le hzr HO.out.size
          clear hA4 HT
          go_wp2
          replace hb : (∀ o, wr.cell? ⟨w.heap.size, o, none⟩ = #[Value.slice A1 xs.length c1, Value.int .i64 hand][o]?) := fun o => (hc _ _ hzr).trans (hb o)
          clear hc hf HO HJ hzr
          generalize wr = W2 at *
          go_loopg [7] (xs.length) (fun m i wr => ∃ j : Nat, m + j = xs.length ∧ i = .int .i64 j ∧ Ext W2 wr ∧ Hid (∀ k l (hk : k < xs.length) (hl : l < k), k < j → (xs[k].Page != -1 && xs[k].Page == (xs[l]'(by omega)).Page) = false))
          case atStart => exact ⟨0, by simp, rfl, Only.refl _ _, fun k l _ _ h => by omega⟩
          case round =>
            obtain ⟨j, hj, rfl, hO, HT⟩ := hrel
            have HO := Lib.hid hO; have HJ := Lib.hid hj
            obtain ⟨hc, hf⟩ := bcell hO
            clear hO hj
            by_cases hlt : j < xs.length
            · go_wp2
              obtain ⟨wo, rfl⟩ : ∃ wo : World, wo = wr := ⟨_, rfl⟩
              go_loopg [8] (j) (fun m q wq => ∃ l : Nat, m + l = j ∧ q = .int .i64 l ∧ Ext wo wq ∧ Hid (∀ l' (hl : l' < j), l' < l → (xs[j].Page != -1 && xs[j].Page == (xs[l']'(by omega)).Page) = false))
              case atStart => exact ⟨0, by simp, rfl, Only.refl _ _, fun l _ h => by omega⟩
              case round =>
                obtain ⟨l, hl, rfl, hO2, HT2⟩ := hrel
                have HO2 := Lib.hid hO2; have HL := Lib.hid hl
                clear hO2 hl
                by_cases hll : l < j
                · have hll2 : l < xs.length := by omega
                  have hcq := (bcell HO2.out).1
                  obtain ⟨g, off, B1, d1, G1, rfl, hg, -, -, k0, -, -, -, -, -⟩ := sl_Frame (Rep.sl_ext S1.out (HE2.out.ext (HO.out.ext HO2.out))) j hlt
                  obtain ⟨g', off', B2, d2, G2, e2, hg', -, -, l0, -, -, -, -, -⟩ := sl_Frame (Rep.sl_ext S1.out (HE2.out.ext (HO.out.ext HO2.out))) l hll2
                  injection e2 with e2
                  injection e2 with e2 e3
                  subst e2
                  subst e3
                  have hzq : w.heap.size < wo.heap.size := Nat.lt_of_lt_of_le hzr2 HO.out.size
                  by_cases hp1 : xs[j].Page = -1
                  · have hp2 : (xs[j].Page != -1) = false := by simp [hp1]
                    have HP := Lib.hid hp1
                    clear hp1
                    go_wp2
                    go_quiet (fail)
                    go_wp2
                    go_roundg (j - (l + 1))
                    case measure => have := HL.out; omega
                    case rel =>
                      refine ⟨l + 1, by omega, by go_num, HO2.out.drewN _, fun l' hl' h => ?_⟩
                      simp [HP.out]
                  · have hp2 : (xs[j].Page != -1) = true := by simp [hp1]
                    have HP := Lib.hid hp1
                    clear hp1
                    by_cases he : xs[j].Page = xs[l].Page
                    · have he2 : (xs[j].Page == xs[l].Page) = true := by simp [he]
                      have HQ := Lib.hid he
                      clear he
                      go_wp2
                      go_quiet (fail)
                      go_wp2
                      go_ret
                      exact ⟨ret_int (by rw [← HR.out]; simp [frames5_true xs j l hlt hll (by simp [hp2, he2])]), HE2.out.ext (HO.out.ext (HO2.out.drewN _))⟩
                    · have he2 : (xs[j].Page == xs[l].Page) = false := by simp [he]
                      have HQ := Lib.hid he
                      clear he
                      go_wp2
                      go_quiet (fail)
                      go_wp2
                      go_roundg (j - (l + 1))
                      case measure => have := HL.out; omega
                      case rel =>
                        refine ⟨l + 1, by omega, by go_num, HO2.out.drewN _, fun l' hl' h => ?_⟩
                        by_cases e : l' = l
                        · subst e; simp [HQ.out]
                        · exact HT2.out l' hl' (by omega)
                · go_wp2
                  go_roundg (xs.length - (j + 1))
                  case measure => have := HJ.out; omega
                  case rel =>
                    refine ⟨j + 1, by omega, by go_num, HO.out.ext HO2.out, fun k l' hk hl' h => ?_⟩
                    by_cases e : k = j
                    · subst e; exact HT2.out l' hl' (by have := HL.out; omega)
                    · exact HT.out k l' hk hl' (by omega)
            · have h5 : frames5 xs = false := frames5_false xs fun k l hk hl => HT.out k l hk hl (by have := HJ.out; omega)
              have H5 := Lib.hid h5
              clear h5
              go_wp2
              go_ret
              exact ⟨ret_int (by rw [← HR.out, H5.out]; rfl), HE2.out.ext HO.out⟩
end Go.Proofs.Ytjjdainnofnmcaa
