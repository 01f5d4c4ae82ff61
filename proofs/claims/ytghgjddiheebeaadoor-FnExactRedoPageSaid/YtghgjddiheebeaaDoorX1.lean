/- Numbers in pages: the plain law; the reference's readers. -/
import Derived.Test.YtghgjddiheebeaaDoorX0
import Derived.Test.YtghgjddiheebeaaDoorQT
namespace Go.Proofs.YtghgjddiheebeaaDoor
open Go.RowKit
set_option linter.unusedSimpArgs false
set_option linter.unusedVariables false
theorem beFromZ_snoc : ∀ (l : List Int) (a x : Int), Lib.beFromZ a (l ++ [x]) = Lib.beFromZ a l * 256 + x
  | [], a, x => rfl
  | z :: l, a, x => by simp only [List.cons_append, Lib.beFromZ]; exact beFromZ_snoc l _ x
theorem beZ_take (l : List Int) (i : Nat) (hi : i < l.length) : Lib.beZ (l.take (i + 1)) = Lib.beZ (l.take i) * 256 + l.getD i 0 := by
  show Lib.beFromZ 0 (l.take (i + 1)) = Lib.beFromZ 0 (l.take i) * 256 + l.getD i 0
  rw [← beFromZ_snoc]
  congr 1
  rw [List.take_add_one, List.getElem?_eq_getElem hi, List.getD, List.getElem?_eq_getElem hi]
  rfl
theorem beFromZ_range : ∀ (l : List Int) (a : Int), (∀ z ∈ l, 0 ≤ z ∧ z ≤ 255) → a * 256 ^ l.length ≤ Lib.beFromZ a l ∧ Lib.beFromZ a l < (a + 1) * 256 ^ l.length
  | [], a, _ => by simp [Lib.beFromZ]; omega
  | z :: l, a, h => by
    obtain ⟨h1, h2⟩ := beFromZ_range l (a * 256 + z) (fun y hy => h y (by simp [hy]))
    obtain ⟨h3, h4⟩ := h z (by simp)
    have hp : (0 : Int) ≤ 256 ^ l.length := Int.pow_nonneg (by decide)
    simp only [Lib.beFromZ, List.length_cons, Int.pow_succ]
    constructor
    · refine Int.le_trans ?_ h1
      rw [Int.mul_comm (256 ^ l.length) 256, ← Int.mul_assoc]
      exact Int.mul_le_mul_of_nonneg_right (by omega) hp
    · refine Int.lt_of_lt_of_le h2 ?_
      rw [Int.mul_comm (256 ^ l.length) 256, ← Int.mul_assoc]
      exact Int.mul_le_mul_of_nonneg_right (by omega) hp
theorem pow256_mono {a b : Nat} (h : a ≤ b) : (256 : Int) ^ a ≤ 256 ^ b := by
  have h1 := Nat.pow_le_pow_right (n := 256) (by decide) h
  have h2 : ((256 ^ a : Nat) : Int) ≤ ((256 ^ b : Nat) : Int) := Int.ofNat_le.2 h1
  rw [Int.natCast_pow, Int.natCast_pow] at h2
  exact h2
/-- What GetNumber gives at one to eight bytes. -/
def getNum (l : List Int) : Int := if l.length = 8 ∧ l.getD 0 0 > 127 then -1 else Lib.beZ l
theorem beZ_room {l : List Int} (hw : ∀ z ∈ l, 0 ≤ z ∧ z ≤ 255) (hl : l.length ≤ 8) (hb : ¬ (l.length = 8 ∧ l.getD 0 0 > 127)) (i : Nat) (hi : i < l.length) :
    0 ≤ Lib.beZ (l.take i) ∧ Lib.beZ (l.take i) * 256 + 255 ≤ 9223372036854775807 := by
  have hwt : ∀ z ∈ l.take i, 0 ≤ z ∧ z ≤ 255 := fun z hz => hw z (List.mem_of_mem_take hz)
  obtain ⟨h1, h2⟩ := beFromZ_range (l.take i) 0 hwt
  refine ⟨by show 0 ≤ Lib.beFromZ 0 (l.take i); simpa using h1, ?_⟩
  by_cases h7 : i ≤ 6
  · have h3 := pow256_mono (a := (l.take i).length) (b := 6) (by simp; omega)
    have h4 : (256 : Int) ^ 6 = 281474976710656 := by decide
    simp only [Int.zero_add, Int.one_mul] at h2
    show Lib.beFromZ 0 (l.take i) * 256 + 255 ≤ _
    omega
  · have hi7 : i = 7 := by omega
    have h8 : l.length = 8 := by omega
    subst hi7
    obtain ⟨z, r, rfl⟩ : ∃ z r, l = z :: r := by
      cases l with
      | nil => simp at h8
      | cons z r => exact ⟨z, r, rfl⟩
    have hz : ¬ z > 127 := fun h => hb ⟨h8, by simpa using h⟩
    have hz0 := (hw z (by simp)).1
    obtain ⟨h3, h4⟩ := beFromZ_range (r.take 6) z (fun y hy => hw y (by simp [List.mem_of_mem_take hy]))
    have hlen : (r.take 6).length = 6 := by simp at h8 ⊢; omega
    rw [hlen] at h3 h4
    have h5 : (256 : Int) ^ 6 = 281474976710656 := by decide
    rw [h5] at h3 h4
    show Lib.beFromZ 0 (z :: r.take 6) * 256 + 255 ≤ _
    simp only [Lib.beFromZ, Int.zero_mul, Int.zero_add]
    omega
set_option maxRecDepth 100000 in
set_option maxHeartbeats 2000000 in
theorem getNumber_calls (w : World) (g off c : Nat) (l : List Int) (F : List Nat) (h : (Rep.int .u8).sl w (some ⟨g, off, none⟩) c l F) (h1 : 1 ≤ l.length) (h8 : l.length ≤ 8) :
    Calls Tryd.prog 119 #[.slice (some ⟨g, off, none⟩) l.length c] w fun e w' => e = .returned (.int .i64 (getNum l)) ∧ Ext w w' := by
  have hw : ∀ z ∈ l, 0 ≤ z ∧ z ≤ 255 := fun z hz => Lib.byte_of_wf (sl_wf h z hz)
  have HC := Lib.hid (fun i hi => sl_byte h i hi)
  have c0 : w.cell? ⟨g, off, none⟩ = some (.int .u8 (l.getD 0 0)) := HC.out 0 (by omega)
  obtain ⟨n, hn⟩ : ∃ n, n = l.length := ⟨_, rfl⟩
  obtain ⟨b0, hb0⟩ : ∃ b, b = l.getD 0 0 := ⟨_, rfl⟩
  obtain ⟨R, hR⟩ : ∃ R, R = getNum l := ⟨_, rfl⟩
  obtain ⟨up, hup⟩ : ∃ up : Nat → Int, up = fun i => Lib.beZ (l.take i) := ⟨_, rfl⟩
  have HU0 := Lib.hid (show up 0 = 0 by rw [hup]; rfl)
  have HUS := Lib.hid (show ∀ i, i < n → up (i + 1) = up i * 256 + l.getD i 0 by rw [hup, hn]; exact fun i hi => beZ_take l i hi)
  have HW := Lib.hid hw
  have HU8 := Lib.hid (show n ≤ 8 from hn ▸ h8)
  have hRR : R = if n = 8 ∧ b0 > 127 then -1 else up n := by rw [hR, getNum, hn, hb0, hup]; simp
  have HRM := Lib.hid (show ¬ (n = 8 ∧ b0 > 127) → ∀ i, i < n → 0 ≤ up i ∧ up i * 256 + 255 ≤ 9223372036854775807 by rw [hup, hn, hb0]; exact fun hb i hi => beZ_room hw h8 hb i hi)
  have HL := Lib.hid hn
  rw [← hb0] at c0
  rw [← hR, ← hn]
  rw [← hn] at h1 h8
  clear h hw hb0 hR hup hn
  by_cases hB : n = 8 ∧ b0 > 127
  · obtain ⟨rfl, hb⟩ := hB
    rw [if_pos ⟨rfl, hb⟩] at hRR
    subst hRR
    go_enter Tryd.func119, Tryd.ntmps119
    go_wp2
    go_ret
    exact ⟨rfl, Only.refl _ _⟩
  have HR := Lib.hid (hRR.trans (if_neg hB))
  have HRM := Lib.hid (HRM.out hB)
  have hBB : ((n : Int) == 8) = false ∨ (((n : Int) == 8) = true ∧ ¬ (b0 > 127)) := by
    by_cases h : n = 8
    · right; exact ⟨by simp [h], fun hb => hB ⟨h, hb⟩⟩
    · left; simp; omega
  clear hRR hB
  have hn0 : (0 : Int) < n := by omega
  have hn1 : (n : Int) ≤ 8 := by omega
  rcases hBB with hBB | ⟨hBB, hbl⟩
  all_goals
    go_enter Tryd.func119, Tryd.ntmps119
    go_wp2
    go_loopg [3, 4] n (fun m v i wr => ∃ k : Nat, m + k = n ∧ i = .int .i64 k ∧ v = .int .i64 (up k) ∧ w = wr)
    case atStart => exact ⟨0, by simp, rfl, by rw [HU0.out], rfl⟩
    case round =>
      obtain ⟨k, hmk, rfl, rfl, rfl⟩ := hrel
      have HMK := Lib.hid hmk
      clear hmk
      by_cases hlt : (k : Int) < n
      · have hk : k < n := by omega
        have ck := HC.out k (by have := HL.out; omega)
        have hr := HRM.out k hk
        have hs := HUS.out k hk
        have hz := HW.out (l.getD k 0) (by rw [List.getD, List.getElem?_eq_getElem (by have := HL.out; omega)]; exact List.getElem_mem _)
        generalize l.getD k 0 = z at *
        obtain ⟨hr1, hr2⟩ := hr; obtain ⟨hz1, hz2⟩ := hz
        generalize up k = u at *
        have HS := Lib.hid hs
        clear hs
        have hw1 : IntKind.i64.wrap (u * 256) = u * 256 := by rw [IntKind.wrap_i64]; omega
        have hw2 : IntKind.i64.wrap (u * 256 + z) = u * 256 + z := by rw [IntKind.wrap_i64]; omega
        have hw3 : IntKind.i64.wrap z = z := by rw [IntKind.wrap_i64]; omega
        go_wp2
        go_roundg (n - (k + 1))
        case measure => have := HMK.out; omega
        case rel => exact ⟨k + 1, by have := HMK.out; omega, rfl, by rw [HS.out], rfl⟩
      · have hk : k = n := by have := HMK.out; omega
        subst hk
        go_wp2
        go_ret
        exact ⟨by rw [HR.out]; rfl, Only.refl _ _⟩
/-- The number at a place of a page. -/
def numAt (p : List Int) (i n : Nat) : Int := getNum ((p.drop i).take n)
theorem l3Number_calls (w : World) (g off c : Nat) (p : List Int) (F : List Nat) (h : (Rep.int .u8).sl w (some ⟨g, off, none⟩) c p F) (i n : Nat) (hn1 : 1 ≤ n) (hn8 : n ≤ 8) (hi : i + n ≤ p.length) (iz nz : Int) (hiz : iz = i) (hnz : nz = n) (hlim : p.length ≤ 140737488355328) :
    Calls Tryd.prog 108 #[.slice (some ⟨g, off, none⟩) p.length c, .int .i64 iz, .int .i64 nz] w fun e w' => e = .returned (.int .i64 (numAt p i n)) ∧ Ext w w' := by
  subst hiz; subst hnz
  have hx : p ≠ [] := by rintro rfl; simp at hi; omega
  have hs := sl_sub h hx i n (by omega)
  have hlen : ((p.drop i).take n).length = n := by simp; omega
  have hG := getNumber_calls w g (off + i) (c - i) _ F hs (by omega) (by omega)
  rw [hlen] at hG
  have hpc := h.1
  have HG := Lib.hid hG
  clear hG hs h hx hlen
  have a1 : (i : Int) ≤ (i : Int) + (n : Int) := by omega
  have a2 : (i : Int) + (n : Int) ≤ (c : Int) := by omega
  have a3 : IntKind.i64.wrap ((i : Int) + (n : Int)) = (i : Int) + (n : Int) := by rw [IntKind.wrap_i64]; omega
  have a4 : ((i : Int) + (n : Int) - (i : Int)).toNat = n := by omega
  have a5 : ((i : Int) + (n : Int)).toNat = i + n := by omega
  have a6 : i + n - i = n := by omega
  go_enter Tryd.func108, Tryd.ntmps108
  go_wp2_with (go_at_call 119; refine HG.out.mono ?_; rintro e w1 ⟨rfl, hE⟩)
  go_ret
  exact ⟨rfl, hE⟩
end Go.Proofs.YtghgjddiheebeaaDoor
