/- Compaction: the plain law. -/
import Derived.Test.YtghgjddiheebeaaDoorY1
namespace Go.Proofs.YtghgjddiheebeaaDoor
open Go.RowKit
set_option linter.unusedSimpArgs false
set_option linter.unusedVariables false
def cDat (p : List Int) (i : Nat) : List Int := (p.drop (slO p i).toNat).take (slN p i).toNat
def cBot (p : List Int) : Nat → Nat
  | 0 => 4096
  | k + 1 => cBot p k - (slN p k).toNat
/-- One slot moved. -/
def cStep (p L : List Int) (i : Nat) : List Int :=
  if slO p i = 0 then L else splice (splice (splice L (cBot p (i + 1)) (cDat p i)) (20 + 4 * i) (beL 2 (cBot p (i + 1)))) (20 + 4 * i + 2) (beL 2 (slN p i).toNat)
def cUp (p L : List Int) : Nat → List Int
  | 0 => L
  | k + 1 => cStep p (cUp p L k) k
def zeros (n : Nat) : List Int := List.replicate n 0
theorem zeros_len (n : Nat) : (zeros n).length = n := List.length_replicate
theorem zeros_at (n j : Nat) : (zeros n)[j]? = if j < n then some 0 else none := List.getElem?_replicate
def headI (p : List Int) : List Int := splice (zeros 4096) 0 (p.take 20)
def headS (p : List Int) : List Int := p.take 148 ++ zeros 3948
def compI (p : List Int) : List Int := splice (cUp p (headI p) 32) 16 (beL 2 (cBot p 32))
def compS (p : List Int) : List Int := splice (cUp p (headS p) 32) 16 (beL 2 (cBot p 32))
/-- What compaction leans on. -/
structure Wf (p : List Int) : Prop where
  len : p.length = 4096
  byte : ∀ z ∈ p, 0 ≤ z ∧ z ≤ 255
  zero : pageFault p (beAt p 12 4) = 0
section
variable {p : List Int} (h : Wf p)
include h
theorem Wf.slot (i : Nat) (hi : i < 32) : 0 ≤ slO p i ∧ 0 ≤ slN p i ∧ slO p i ≤ 4096 ∧ slN p i ≤ 1000 ∧ slO p i + slN p i ≤ 4096 ∧ (slO p i = 0 → slN p i = 0) ∧ (slO p i ≠ 0 → 148 ≤ slO p i) := by
  have h1 := (beAt_u16 h.byte (20 + 4 * i)).1
  have h2 := (beAt_u16 h.byte (20 + 4 * i + 2)).1
  obtain ⟨_, _, _, _, h5, h6, h7, _⟩ := fault_zero h.zero
  have h8 := h7 i hi
  change 0 ≤ slO p i at h1
  change 0 ≤ slN p i at h2
  omega
theorem Wf.bot (k : Nat) (hk : k ≤ 32) : cBot p k = 4096 - sumN p k ∧ 148 ≤ cBot p k ∧ cBot p k ≤ 4096 := by
  have h1 := sumN_room h.byte h.zero
  have h2 := sumN_mono p hk
  obtain ⟨_, _, _, _, h5, h6, _, _⟩ := fault_zero h.zero
  have h3 : ∀ m, cBot p m = 4096 - sumN p m := by
    intro m
    induction m with
    | zero => rfl
    | succ m ih => simp only [cBot, sumN, ih]; omega
  have := h3 k
  omega
theorem Wf.bot_succ (k : Nat) (hk : k < 32) : cBot p (k + 1) + (slN p k).toNat = cBot p k ∧ cBot p (k + 1) = cBot p k - (slN p k).toNat := by
  have h1 := h.bot (k + 1) (by omega)
  have h2 := h.bot k (by omega)
  refine ⟨?_, rfl⟩
  simp only [cBot] at h1 ⊢
  omega
theorem Wf.dat (i : Nat) (hi : i < 32) : (cDat p i).length = (slN p i).toNat := by
  have := h.slot i hi
  have := h.len
  simp [cDat]; omega
theorem Wf.step_len {L : List Int} (hL : L.length = 4096) (i : Nat) (hi : i < 32) : (cStep p L i).length = 4096 := by
  unfold cStep
  split
  · exact hL
  · have h1 := h.bot (i + 1) (by omega)
    have h2 := h.bot_succ i hi
    have h3 := h.dat i hi
    have h4 := (h.bot i (by omega)).2.2
    have e1 : (splice L (cBot p (i + 1)) (cDat p i)).length = 4096 := by rw [splice_len _ _ _ (by omega), hL]
    have e2 : (splice (splice L (cBot p (i + 1)) (cDat p i)) (20 + 4 * i) (beL 2 (cBot p (i + 1)))).length = 4096 := by rw [splice_len _ _ _ (by rw [beL_length]; omega), e1]
    rw [splice_len _ _ _ (by rw [beL_length]; omega), e2]
theorem Wf.up_len {L : List Int} (hL : L.length = 4096) : ∀ k, k ≤ 32 → (cUp p L k).length = 4096
  | 0, _ => hL
  | k + 1, hk => h.step_len (Wf.up_len hL k (by omega)) k (by omega)
theorem Wf.headI_len : (headI p).length = 4096 := by
  have := h.len
  rw [headI, splice_len _ _ _ (by rw [zeros_len, List.length_take]; omega), zeros_len]
theorem Wf.headS_len : (headS p).length = 4096 := by
  have := h.len
  rw [headS, List.length_append, List.length_take, zeros_len]; omega
theorem Wf.step_at {L : List Int} (hL : L.length = 4096) (i : Nat) (hi : i < 32) (ho : slO p i ≠ 0) (j : Nat) :
    (cStep p L i)[j]? = if 20 + 4 * i + 2 ≤ j ∧ j < 20 + 4 * i + 2 + 2 then (beL 2 (slN p i).toNat)[j - (20 + 4 * i + 2)]? else if 20 + 4 * i ≤ j ∧ j < 20 + 4 * i + 2 then (beL 2 (cBot p (i + 1)))[j - (20 + 4 * i)]?
      else if cBot p (i + 1) ≤ j ∧ j < cBot p (i + 1) + (slN p i).toNat then (cDat p i)[j - cBot p (i + 1)]? else L[j]? := by
  have h1 := h.bot (i + 1) (by omega)
  have h2 := h.bot_succ i hi
  have h3 := h.dat i hi
  have h4 := (h.bot i (by omega)).2.2
  have e1 : (splice L (cBot p (i + 1)) (cDat p i)).length = 4096 := by rw [splice_len _ _ _ (by omega), hL]
  have e2 : (splice (splice L (cBot p (i + 1)) (cDat p i)) (20 + 4 * i) (beL 2 (cBot p (i + 1)))).length = 4096 := by rw [splice_len _ _ _ (by rw [beL_length]; omega), e1]
  rw [cStep, if_neg ho, splice_get _ _ _ (by rw [beL_length]; omega), splice_get _ _ _ (by rw [beL_length]; omega), splice_get _ _ _ (by omega), beL_length, beL_length, h3]
theorem Wf.same : ∀ k, k ≤ 32 → (∀ j, (j < 20 + 4 * k ∨ 148 ≤ j) → (cUp p (headS p) k)[j]? = (cUp p (headI p) k)[j]?) ∧ (∀ j, 20 + 4 * k ≤ j → j < 148 → (cUp p (headS p) k)[j]? = p[j]? ∧ (cUp p (headI p) k)[j]? = some 0)
  | 0, _ => by
    have hl := h.len
    have e1 : ∀ j, (headI p)[j]? = if j < 20 then p[j]? else (zeros 4096)[j]? := fun j => by
      rw [headI, splice_get _ _ _ (by rw [zeros_len, List.length_take]; omega)]
      simp only [List.length_take, hl, Nat.zero_le, true_and, Nat.sub_zero, Nat.zero_add]
      by_cases hj : j < 20
      · rw [if_pos (by omega), if_pos hj, List.getElem?_take, if_pos hj]
      · rw [if_neg (by omega), if_neg hj]
    have e2 : ∀ j, (headS p)[j]? = if j < 148 then p[j]? else (zeros 3948)[j - 148]? := fun j => by
      rw [headS]
      by_cases hj : j < 148
      · rw [if_pos hj, List.getElem?_append_left (by rw [List.length_take]; omega), List.getElem?_take, if_pos hj]
      · rw [if_neg hj, List.getElem?_append_right (by rw [List.length_take]; omega)]
        rw [List.length_take, show min 148 p.length = 148 by omega]
    refine ⟨fun j hj => ?_, fun j h1 h2 => ?_⟩
    · refine Eq.trans (b := (headS p)[j]?) rfl (Eq.trans (b := (headI p)[j]?) ?_ rfl)
      rw [e1, e2]
      by_cases hj2 : j < 20
      · rw [if_pos (by omega), if_pos hj2]
      · rw [if_neg (by omega), if_neg hj2, zeros_at, zeros_at]
        by_cases hj3 : j < 4096
        · rw [if_pos (by omega), if_pos hj3]
        · rw [if_neg (by omega), if_neg hj3]
    · refine ⟨?_, ?_⟩
      · show (headS p)[j]? = _
        rw [e2, if_pos h2]
      · show (headI p)[j]? = _
        rw [e1, if_neg (by omega), zeros_at, if_pos (by omega)]
  | k + 1, hk => by
    obtain ⟨i1, i2⟩ := Wf.same k (by omega)
    have hk' : k < 32 := by omega
    have hl := h.len
    have l1 := h.up_len h.headS_len k (by omega)
    have l2 := h.up_len h.headI_len k (by omega)
    have hb := h.bot (k + 1) hk
    by_cases ho : slO p k = 0
    · have e : ∀ L, cUp p L (k + 1) = cUp p L k := fun L => by show cStep _ _ _ = _; rw [cStep, if_pos ho]
      rw [e, e]
      have hn : slN p k = 0 := (h.slot k hk').2.2.2.2.2.1 ho
      have hz : ∀ j, 20 + 4 * k ≤ j → j < 20 + 4 * k + 4 → p[j]? = some 0 := by
        have b1 := beAt_two (p := p) (20 + 4 * k) (by omega)
        have b2 := beAt_two (p := p) (20 + 4 * k + 2) (by omega)
        have g : ∀ j, j < 4096 → p[j]? = some (p.getD j 0) ∧ 0 ≤ p.getD j 0 := fun j hj => by
          have hj' : j < p.length := by omega
          rw [List.getD, List.getElem?_eq_getElem hj']
          exact ⟨rfl, (h.byte _ (List.getElem_mem _)).1⟩
        change slO p k = _ at b1
        change slN p k = _ at b2
        intro j h1 h2
        have g0 := g (20 + 4 * k) (by omega); have g1 := g (20 + 4 * k + 1) (by omega); have g2 := g (20 + 4 * k + 2) (by omega); have g3 := g (20 + 4 * k + 2 + 1) (by omega)
        rw [ho] at b1
        rw [hn] at b2
        have z0 : p.getD (20 + 4 * k) 0 = 0 := by omega
        have z1 : p.getD (20 + 4 * k + 1) 0 = 0 := by omega
        have z2 : p.getD (20 + 4 * k + 2) 0 = 0 := by omega
        have z3 : p.getD (20 + 4 * k + 2 + 1) 0 = 0 := by omega
        rw [z0] at g0
        rw [z1] at g1
        rw [z2] at g2
        rw [z3] at g3
        have hj : j = 20 + 4 * k ∨ j = 20 + 4 * k + 1 ∨ j = 20 + 4 * k + 2 ∨ j = 20 + 4 * k + 2 + 1 := by omega
        rcases hj with rfl | rfl | rfl | rfl
        · exact g0.1
        · exact g1.1
        · exact g2.1
        · exact g3.1
      refine ⟨fun j hj => ?_, fun j h1 h2 => i2 j (by omega) h2⟩
      by_cases hj2 : j < 20 + 4 * k ∨ 148 ≤ j
      · exact i1 j hj2
      · obtain ⟨q1, q2⟩ := i2 j (by omega) (by omega)
        rw [q1, q2, hz j (by omega) (by omega)]
    · have s1 := h.step_at l1 k hk' ho
      have s2 := h.step_at l2 k hk' ho
      have e : ∀ (L : List Int) (j : Nat), (cUp p L (k + 1))[j]? = (cStep p (cUp p L k) k)[j]? := fun L j => rfl
      refine ⟨fun j hj => ?_, fun j h1 h2 => ?_⟩
      · rw [e, e, s1, s2]
        by_cases c1 : 20 + 4 * k + 2 ≤ j ∧ j < 20 + 4 * k + 2 + 2
        · rw [if_pos c1, if_pos c1]
        · rw [if_neg c1, if_neg c1]
          by_cases c2 : 20 + 4 * k ≤ j ∧ j < 20 + 4 * k + 2
          · rw [if_pos c2, if_pos c2]
          · rw [if_neg c2, if_neg c2, i1 j (by omega)]
      · obtain ⟨q1, q2⟩ := i2 j (by omega) h2
        rw [e, e, s1, s2, if_neg (by omega), if_neg (by omega), if_neg (by omega), if_neg (by omega), if_neg (by omega), if_neg (by omega)]
        exact ⟨q1, q2⟩
theorem Wf.comp : compS p = compI p := by
  have h1 := (h.same 32 (Nat.le_refl _)).1
  have : cUp p (headS p) 32 = cUp p (headI p) 32 := List.ext_getElem? fun j => h1 j (by omega)
  rw [compS, compI, this]
end
theorem Wf.of {w : World} {A : Option Addr} {c : Nat} {p : List Int} {F : List Nat} (h : (Rep.int .u8).sl w A c p F) (hw : wellF p = true) : Wf p :=
  ⟨(fault_zero (wellF_iff.1 hw)).1, fun z hz => Lib.byte_of_wf (sl_wf h z hz), wellF_iff.1 hw⟩
noncomputable def pageCompact (p : List Int) : List Int := if wellF p = true then compI p else []
end Go.Proofs.YtghgjddiheebeaaDoor
