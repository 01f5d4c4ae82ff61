/- The reference's PageFault. -/
import Derived.Test.YtghgjddiheebeaaDoorX9
namespace Go.Proofs.YtghgjddiheebeaaDoor
open Go.RowKit
set_option linter.unusedSimpArgs false
set_option linter.unusedVariables false
theorem slotsUp_length (p : List Int) (k : Nat) : (slotsUp p k).length = k := by simp [slotsUp]
theorem slotsUp_at (p : List Int) (k i : Nat) (hi : i < (slotsUp p k).length) : (slotsUp p k)[i] = (slO p i, slN p i) := by simp [slotsUp]
/-- The slots as cells. -/
theorem l3Slots_cells (w : World) (g off c : Nat) (p : List Int) (F : List Nat) (h : (Rep.int .u8).sl w (some ⟨g, off, none⟩) c p F) (hp : p.length = 4096) :
    Calls Tryd.prog 58 #[.slice (some ⟨g, off, none⟩) 4096 c] w fun e w' => ∃ B z cp : Nat, e = .returned (.slice (some ⟨B, z, none⟩) 32 cp) ∧ w.heap.size ≤ B ∧ B < w'.heap.size ∧ 32 ≤ cp ∧
      (∀ i, i < 32 → w'.cell? ⟨B, z + i * 2, none⟩ = some (.int .i64 (slO p i)) ∧ w'.cell? ⟨B, z + i * 2 + 1, none⟩ = some (.int .i64 (slN p i))) ∧ Ext w w' := by
  refine (l3Slots_calls w g off c p F h hp).mono ?_
  rintro e w' ⟨v, rfl, hO, hE⟩
  obtain ⟨F', hV, hF⟩ := hO.done
  obtain ⟨_, ⟨A, cp, rfl, hs⟩, rfl⟩ := hV
  have hlen := slotsUp_length p 32
  obtain ⟨B, z, _, _, rfl, hB, hBF, -⟩ := Rep.sl_at hs 0 (by omega)
  rw [hlen]
  refine ⟨B, z, cp, rfl, hF.ge B hBF, hB, by have := hs.1; omega, fun i hi => ?_, hE⟩
  obtain ⟨B', z', d, G, e', -, -, ⟨rfl, rfl, -⟩, -, hc⟩ := Rep.sl_at hs i (by omega)
  injection e' with e'
  injection e' with e1 e2
  subst e1; subst e2
  rw [slotsUp_at] at hc
  exact ⟨hc 0 _ rfl, hc 1 _ rfl⟩
theorem specFault_len (w : World) (A : Option Addr) (n c : Nat) (num : Int) (hp : ¬ n = 4096) :
    Calls Tryd.prog 74 #[.slice A n c, .int .i64 num] w fun e w' => e = .returned (.int .i64 1) ∧ Ext w w' := by
  have hp' : ¬ (n : Int) = 4096 := by omega
  go_enter Tryd.func74, Tryd.ntmps74
  go_wp2
  go_ret
  exact ⟨rfl, Only.refl _ _⟩
theorem head_cases (x num l L z8 z9 z b R : Int) (hl : (l < 0 ∨ l > 1099511627776) ↔ L > 1099511627776) (h2 : z = z8 * 256 + z9) (h8 : 0 ≤ z8) (h9 : 0 ≤ z9)
    (hR : R = if x ≠ num then 2 else if L > 1099511627776 ∨ z ≠ 0 then 3 else 4) (hx : x ≠ num ∨ L > 1099511627776 ∨ z ≠ 0 ∨ b < 148 ∨ b > 4096) :
    ((¬ x = num) ∧ R = 2) ∨ (x = num ∧ l < 0 ∧ R = 3) ∨ (x = num ∧ ¬ l < 0 ∧ 1099511627776 < l ∧ R = 3) ∨ (x = num ∧ ¬ l < 0 ∧ ¬ 1099511627776 < l ∧ ¬ z8 = 0 ∧ R = 3)
      ∨ (x = num ∧ ¬ l < 0 ∧ ¬ 1099511627776 < l ∧ z8 = 0 ∧ ¬ z9 = 0 ∧ R = 3) ∨ (x = num ∧ ¬ l < 0 ∧ ¬ 1099511627776 < l ∧ z8 = 0 ∧ z9 = 0 ∧ b < 148 ∧ R = 4) ∨ (x = num ∧ ¬ l < 0 ∧ ¬ 1099511627776 < l ∧ z8 = 0 ∧ z9 = 0 ∧ ¬ b < 148 ∧ 4096 < b ∧ R = 4) := by
  by_cases a1 : x = num
  case neg => exact .inl ⟨a1, by rw [hR, if_pos a1]⟩
  rw [if_neg (by simpa using a1)] at hR
  by_cases a2 : l < 0
  · exact .inr (.inl ⟨a1, a2, by rw [hR, if_pos (.inl (hl.1 (.inl a2)))]⟩)
  by_cases a3 : 1099511627776 < l
  · exact .inr (.inr (.inl ⟨a1, a2, a3, by rw [hR, if_pos (.inl (hl.1 (.inr a3)))]⟩))
  have a4 : ¬ L > 1099511627776 := fun h => (hl.2 h).elim a2 a3
  by_cases a5 : z8 = 0
  case neg => exact .inr (.inr (.inr (.inl ⟨a1, a2, a3, a5, by rw [hR, if_pos (.inr (by omega))]⟩)))
  by_cases a6 : z9 = 0
  case neg => exact .inr (.inr (.inr (.inr (.inl ⟨a1, a2, a3, a5, a6, by rw [hR, if_pos (.inr (by omega))]⟩))))
  have a7 : z = 0 := by omega
  have hR4 : R = 4 := by rw [hR, if_neg (by rintro (h | h); exact a4 h; exact h a7)]
  by_cases a8 : b < 148
  · exact .inr (.inr (.inr (.inr (.inr (.inl ⟨a1, a2, a3, a5, a6, a8, hR4⟩)))))
  refine .inr (.inr (.inr (.inr (.inr (.inr ⟨a1, a2, a3, a5, a6, a8, ?_, hR4⟩)))))
  rcases hx with h | h | h | h | h
  · exact absurd a1 h
  · exact absurd h a4
  · exact absurd a7 h
  · exact absurd h a8
  · exact h
set_option maxRecDepth 100000 in
set_option maxHeartbeats 8000000 in
theorem specFault_head (w : World) (g off c : Nat) (p : List Int) (F : List Nat) (h : (Rep.int .u8).sl w (some ⟨g, off, none⟩) c p F) (hp : p.length = 4096) (num : Int) (R : Int)
    (hR : R = if beAt p 12 4 ≠ num then 2 else if beAt p 4 8 > 1099511627776 ∨ beAt p 18 2 ≠ 0 then 3 else 4)
    (hx : beAt p 12 4 ≠ num ∨ beAt p 4 8 > 1099511627776 ∨ beAt p 18 2 ≠ 0 ∨ beAt p 16 2 < 148 ∨ beAt p 16 2 > 4096) :
    Calls Tryd.prog 74 #[.slice (some ⟨g, off, none⟩) 4096 c, .int .i64 num] w fun e w' => e = .returned (.int .i64 R) ∧ Ext w w' := by
  have hw : ∀ z ∈ p, 0 ≤ z ∧ z ≤ 255 := fun z hz => Lib.byte_of_wf (sl_wf h z hz)
  have HC12 := Lib.hid (fun W (hW : Ext w W) => by
    have h := l3Number_calls W g off c p F (Rep.sl_ext h hW) 12 4 (by decide) (by decide) (by omega) 12 4 rfl rfl (by omega)
    rw [hp, numAt_short _ 4 (by decide)] at h
    exact h)
  have HC8 := Lib.hid (fun W (hW : Ext w W) => by
    have h := l3Number_calls W g off c p F (Rep.sl_ext h hW) 4 8 (by decide) (by decide) (by omega) 4 8 rfl rfl (by omega)
    rw [hp] at h
    exact h)
  have HCB := Lib.hid (fun W (hW : Ext w W) => l3Bottom_calls W g off c p F (Rep.sl_ext h hW) hp)
  have C18 := Lib.hid (sl_byte h 18 (by omega)); have C19 := Lib.hid (sl_byte h 19 (by omega))
  have h2 := beAt_two (p := p) 18 (by omega)
  have hz8 := hw (p.getD 18 0) (by rw [List.getD, List.getElem?_eq_getElem (by omega)]; exact List.getElem_mem _)
  have hz9 := hw (p.getD 19 0) (by rw [List.getD, List.getElem?_eq_getElem (by omega)]; exact List.getElem_mem _)
  have hl := numAt_lsn hw 4
  have hcs := head_cases (beAt p 12 4) num (numAt p 4 8) (beAt p 4 8) (p.getD 18 0) (p.getD 19 0) (beAt p 18 2) (beAt p 16 2) R hl h2 hz8.1 hz9.1 hR hx
  generalize p.getD 18 0 = z8 at hcs C18
  generalize p.getD 19 0 = z9 at hcs C19
  generalize beAt p 12 4 = x at hcs HC12
  generalize numAt p 4 8 = l at hcs HC8
  generalize beAt p 16 2 = b at hcs HCB
  have hpc := h.1
  rw [hp] at hpc
  clear h hp hw h2 hz8 hz9 hl hR hx
  rcases hcs with ⟨h1, rfl⟩ | ⟨rfl, h1, rfl⟩ | ⟨rfl, h1, h2, rfl⟩ | ⟨rfl, h1, h2, h3, rfl⟩ | ⟨rfl, h1, h2, rfl, h3, rfl⟩ | ⟨rfl, h1, h2, rfl, rfl, h3, rfl⟩ | ⟨rfl, h1, h2, rfl, rfl, h3, h4, rfl⟩
  all_goals
    try (have h3' : (_ != (0 : Int)) = true := bne_iff_ne.2 h3)
    go_enter Tryd.func74, Tryd.ntmps74
    go_wp2_with (first
      | (go_at_call_of 108 (Value.int .i64 12); refine (HC12.out _ (Only.refl [] _)).mono ?_; rintro e w1 ⟨rfl, hE⟩; have HE1 := Lib.hid hE; clear hE)
      | (go_at_call_of 108 (Value.int .i64 8); refine (HC8.out _ HE1.out).mono ?_; rintro e w2 ⟨rfl, hE⟩; have HE2 := Lib.hid (HE1.out.ext hE); have c18 := HE2.out.ecell C18.out; have c19 := HE2.out.ecell C19.out; clear hE)
      | (go_at_call 60; refine (HCB.out _ HE2.out).mono ?_; rintro e w3 ⟨rfl, hE⟩; have HE3 := Lib.hid (HE2.out.ext hE); clear hE))
    go_ret
    first
      | exact ⟨rfl, HE3.out⟩
      | exact ⟨rfl, HE2.out⟩
      | exact ⟨rfl, HE1.out⟩
end Go.Proofs.YtghgjddiheebeaaDoor
