/- The reference's numbers are the program's; the bottom. -/
import Derived.Test.YtghgjddiheebeaaDoorX6
namespace Go.Proofs.YtghgjddiheebeaaDoor
open Go.RowKit
set_option linter.unusedSimpArgs false
set_option linter.unusedVariables false
theorem numAt_short {p : List Int} (i n : Nat) (hn : n < 8) : numAt p i n = beAt p i n := by
  rw [numAt, getNum, if_neg]
  · rfl
  · rintro ⟨h, _⟩
    simp at h
    omega
theorem numAt_lsn {p : List Int} (hw : ∀ z ∈ p, 0 ≤ z ∧ z ≤ 255) (i : Nat) : (numAt p i 8 < 0 ∨ numAt p i 8 > 1099511627776) ↔ beAt p i 8 > 1099511627776 := by
  have hwt : ∀ z ∈ (p.drop i).take 8, 0 ≤ z ∧ z ≤ 255 := fun z hz => hw z (List.mem_of_mem_drop (List.mem_of_mem_take hz))
  have h0 := (beAt_u64 hw i).1
  show (getNum ((p.drop i).take 8) < 0 ∨ getNum ((p.drop i).take 8) > 1099511627776) ↔ Lib.beZ ((p.drop i).take 8) > 1099511627776
  have h0' : 0 ≤ Lib.beZ ((p.drop i).take 8) := h0
  generalize (p.drop i).take 8 = l at *
  rw [getNum]
  by_cases hb : l.length = 8 ∧ l.getD 0 0 > 127
  · rw [if_pos hb]
    refine ⟨fun _ => ?_, fun _ => .inl (by decide)⟩
    obtain ⟨z, r, rfl⟩ : ∃ z r, l = z :: r := by
      cases l with
      | nil => simp at hb
      | cons z r => exact ⟨z, r, rfl⟩
    have hz : z > 127 := by simpa using hb.2
    obtain ⟨h3, _⟩ := beFromZ_range r z (fun y hy => hwt y (by simp [hy]))
    have hlen : r.length = 7 := by simpa using hb.1
    rw [hlen] at h3
    have h5 : (256 : Int) ^ 7 = 72057594037927936 := by decide
    rw [h5] at h3
    show Lib.beFromZ 0 (z :: r) > _
    simp only [Lib.beFromZ, Int.zero_mul, Int.zero_add]
    omega
  · rw [if_neg hb]
    constructor
    · rintro (h | h)
      · omega
      · exact h
    · exact .inr
theorem beAt_two {p : List Int} (i : Nat) (hi : i + 2 ≤ p.length) : beAt p i 2 = p.getD i 0 * 256 + p.getD (i + 1) 0 := by
  have h1 : p.drop i = p[i] :: p.drop (i + 1) := List.drop_eq_getElem_cons (by omega)
  have h2 : p.drop (i + 1) = p[i + 1] :: p.drop (i + 2) := List.drop_eq_getElem_cons (by omega)
  show Lib.beFromZ 0 ((p.drop i).take 2) = _
  rw [h1, h2]
  rw [List.getD, List.getD, List.getElem?_eq_getElem (show i < p.length by omega), List.getElem?_eq_getElem (show i + 1 < p.length by omega)]
  simp only [List.take_succ_cons, List.take_zero, Lib.beFromZ, Option.getD_some]
  omega
theorem l3Bottom_calls (w : World) (g off c : Nat) (p : List Int) (F : List Nat) (h : (Rep.int .u8).sl w (some ⟨g, off, none⟩) c p F) (hp : p.length = 4096) :
    Calls Tryd.prog 60 #[.slice (some ⟨g, off, none⟩) 4096 c] w fun e w' => e = .returned (.int .i64 (beAt p 16 2)) ∧ Ext w w' := by
  have hG := l3Number_calls w g off c p F h 16 2 (by decide) (by decide) (by omega) 16 2 rfl rfl (by omega)
  rw [hp, numAt_short 16 2 (by decide)] at hG
  have HG := Lib.hid hG
  clear hG h hp
  go_enter Tryd.func60, Tryd.ntmps60
  go_wp2_with (go_at_call 108; refine HG.out.mono ?_; rintro e w1 ⟨rfl, hE⟩)
  go_ret
  exact ⟨rfl, hE⟩
end Go.Proofs.YtghgjddiheebeaaDoor
