/- PageSet: the plain law. -/
import Derived.Test.YtghgjddiheebeaaDoorY8
namespace Go.Proofs.YtghgjddiheebeaaDoor
open Go.RowKit
set_option linter.unusedSimpArgs false
set_option linter.unusedVariables false
theorem splice_comm {α : Type} (X : List α) (a b : Nat) (u v : List α) (hd : a + u.length ≤ b ∨ b + v.length ≤ a) (ha : a + u.length ≤ X.length) (hb : b + v.length ≤ X.length) : splice (splice X a u) b v = splice (splice X b v) a u := by
  refine List.ext_getElem? fun j => ?_
  rw [splice_get _ _ _ (by rw [splice_len _ _ _ ha]; exact hb), splice_get _ _ _ ha, splice_get _ _ _ (by rw [splice_len _ _ _ hb]; exact ha), splice_get _ _ _ hb]
  by_cases h1 : b ≤ j ∧ j < b + v.length
  · rw [if_pos h1, if_neg (by omega), if_pos h1]
  · rw [if_neg h1, if_neg h1]
theorem splice_join {α : Type} (X : List α) (a : Nat) (u v : List α) (ha : a + u.length + v.length ≤ X.length) : splice (splice X a u) (a + u.length) v = splice X a (u ++ v) := by
  refine List.ext_getElem? fun j => ?_
  rw [splice_get _ _ _ (by rw [splice_len _ _ _ (by omega)]; omega), splice_get _ _ _ (by omega), splice_get _ _ _ (by rw [List.length_append]; omega), List.length_append]
  by_cases h1 : a + u.length ≤ j ∧ j < a + u.length + v.length
  · rw [if_pos h1, if_pos (by omega), List.getElem?_append_right (by omega)]
    congr 1
    omega
  · rw [if_neg h1]
    by_cases h2 : a ≤ j ∧ j < a + u.length
    · rw [if_pos h2, if_pos (by omega), List.getElem?_append_left (by omega)]
    · rw [if_neg h2, if_neg (by omega)]
theorem splice_mem {α : Type} {X : List α} {a : Nat} {u : List α} {z : α} (h : z ∈ splice X a u) : z ∈ X ∨ z ∈ u := by
  simp only [splice, List.mem_append] at h
  rcases h with h | h | h
  · exact .inl (List.mem_of_mem_take h)
  · exact .inr h
  · exact .inl (List.mem_of_mem_drop h)
theorem beAt_off (X : List Int) (a : Nat) (u : List Int) (ha : a + u.length ≤ X.length) (i n : Nat) (hd : i + n ≤ a ∨ a + u.length ≤ i) : beAt (splice X a u) i n = beAt X i n := by
  rw [beAt, splice_off _ _ _ ha i n hd]; rfl
theorem beAt_on (X : List Int) (a k v : Nat) (ha : a + k ≤ X.length) (hv : v < 256 ^ k) : beAt (splice X a (beL k v)) a k = v := by
  have h := splice_on X a (beL k v) (by rw [beL_length]; exact ha)
  rw [beL_length] at h
  rw [beAt, h, beZ_beL k v hv]
def setLsn (X : List Int) (lsn : Nat) : List Int := splice X 4 (beL 8 lsn)
def setBase (p : List Int) (s : Nat) : List Int := splice p (20 + 4 * s) (beL 4 0)
noncomputable def setRoom (P : List Int) (n : Nat) : List Int := if beAt P 16 2 - 148 < n then compI P else P
def setBot (P : List Int) (n : Nat) : Nat := (beAt P 16 2).toNat - n
def setPut (P : List Int) (s : Nat) (d : List Int) : List Int :=
  splice (splice (splice (splice P (setBot P d.length) d) 16 (beL 2 (setBot P d.length))) (20 + 4 * s) (beL 2 (setBot P d.length))) (20 + 4 * s + 2) (beL 2 d.length)
noncomputable def setPage (p : List Int) (s : Nat) (u : Bool) (d : List Int) (lsn : Nat) : List Int :=
  setLsn (if u = true then setPut (setRoom (setBase p s) d.length) s d else setBase p s) lsn
theorem Wf.of_slots {p X : List Int} (h : Wf p) (hl : X.length = 4096) (hb : ∀ z ∈ X, 0 ≤ z ∧ z ≤ 255) (h1 : beAt X 4 8 ≤ 1099511627776) (h2 : beAt X 18 2 = 0) (h3 : beAt X 16 2 = beAt p 16 2)
    (h4 : ∀ i, i < 32 → (slO X i = slO p i ∧ slN X i = slN p i) ∨ (slO X i = 0 ∧ slN X i = 0)) : Wf X := by
  obtain ⟨_, _, _, _, h5, h6, h7, h8⟩ := fault_zero h.zero
  refine ⟨hl, hb, fault_zero_of hl rfl h1 h2 (by omega) (by omega) (fun i hi => ?_) (fun i j k hi hj hc => ?_)⟩
  · have := h7 i hi
    have := h4 i hi
    omega
  · refine h8 i j k hi hj ⟨?_, ?_⟩
    · have h9 := h4 i hi
      have h10 := hc.1
      unfold cov at h10 ⊢
      omega
    · have h9 := h4 j (by omega)
      have h10 := hc.2
      unfold cov at h10 ⊢
      omega
section
variable {p : List Int} (h : Wf p) (s : Nat) (hs : s < 32)
include h hs
theorem Wf.base_len : (setBase p s).length = 4096 := by
  rw [setBase, splice_len _ _ _ (by rw [beL_length, h.len]; omega), h.len]
theorem Wf.base_slot (i : Nat) (hi : i < 32) : (i ≠ s → slO (setBase p s) i = slO p i ∧ slN (setBase p s) i = slN p i) ∧ (i = s → slO (setBase p s) i = 0 ∧ slN (setBase p s) i = 0) := by
  have hl := h.len
  constructor
  · intro hne
    exact ⟨beAt_off _ _ _ (by rw [beL_length]; omega) _ _ (by rw [beL_length]; omega), beAt_off _ _ _ (by rw [beL_length]; omega) _ _ (by rw [beL_length]; omega)⟩
  · rintro rfl
    have e : setBase p i = splice (splice p (20 + 4 * i) (beL 2 0)) (20 + 4 * i + 2) (beL 2 0) := by
      have := splice_join p (20 + 4 * i) (beL 2 0) (beL 2 0) (by simp only [beL_length]; omega)
      rw [beL_length] at this
      rw [this]; rfl
    have l1 : (splice p (20 + 4 * i) (beL 2 0)).length = 4096 := by rw [splice_len _ _ _ (by rw [beL_length]; omega), hl]
    rw [slO, slN, e]
    constructor
    · rw [beAt_off _ _ _ (by rw [beL_length]; omega) _ _ (by rw [beL_length]; omega), beAt_on _ _ _ _ (by omega) (by decide)]; rfl
    · rw [beAt_on _ _ _ _ (by omega) (by decide)]; rfl
theorem Wf.base : Wf (setBase p s) := by
  have hl := h.len
  obtain ⟨_, _, h3, h4, _⟩ := fault_zero h.zero
  refine h.of_slots (h.base_len s hs) ?_ ?_ ?_ ?_ ?_
  · intro z hz
    rcases splice_mem hz with hz | hz
    · exact h.byte z hz
    · exact beL_byte _ _ z hz
  · rw [setBase, beAt_off _ _ _ (by rw [beL_length]; omega) _ _ (by rw [beL_length]; omega)]; exact h3
  · rw [setBase, beAt_off _ _ _ (by rw [beL_length]; omega) _ _ (by rw [beL_length]; omega)]; exact h4
  · rw [setBase, beAt_off _ _ _ (by rw [beL_length]; omega) _ _ (by rw [beL_length]; omega)]
  · intro i hi
    obtain ⟨q1, q2⟩ := h.base_slot s hs i hi
    by_cases e : i = s
    · exact .inr (q2 e)
    · exact .inl (q1 e)
theorem Wf.base_bot : beAt (setBase p s) 16 2 = beAt p 16 2 := by
  have hl := h.len
  rw [setBase, beAt_off _ _ _ (by rw [beL_length]; omega) _ _ (by rw [beL_length]; omega)]
theorem Wf.base_sum : ∀ k, k ≤ 32 → sumN (setBase p s) k + (if s < k then (slN p s).toNat else 0) = sumN p k
  | 0, _ => rfl
  | k + 1, hk => by
    have ih := Wf.base_sum k (by omega)
    obtain ⟨q1, q2⟩ := h.base_slot s hs k (by omega)
    simp only [sumN]
    by_cases e : k = s
    · subst e
      rw [if_neg (by omega)] at ih
      rw [if_pos (by omega), (q2 rfl).2]
      omega
    · rw [(q1 e).2]
      by_cases e2 : s < k
      · rw [if_pos e2] at ih
        rw [if_pos (by omega)]
        omega
      · rw [if_neg e2] at ih
        rw [if_neg (by omega)]
        omega
end
section
variable {X : List Int} (hX : X.length = 4096) (lsn : Nat)
include hX
theorem lsn_len : (setLsn X lsn).length = 4096 := by rw [setLsn, splice_len _ _ _ (by rw [beL_length]; omega), hX]
theorem lsn_off (i n : Nat) (hi : 12 ≤ i) : beAt (setLsn X lsn) i n = beAt X i n := by
  rw [setLsn, beAt_off _ _ _ (by rw [beL_length]; omega) _ _ (by rw [beL_length]; omega)]
theorem lsn_slO (i : Nat) : slO (setLsn X lsn) i = slO X i := lsn_off hX lsn _ _ (by omega)
theorem lsn_slN (i : Nat) : slN (setLsn X lsn) i = slN X i := lsn_off hX lsn _ _ (by omega)
theorem lsn_put (s : Nat) (hs : s < 32) (d : List Int) (hb : 148 ≤ setBot X d.length) (hb2 : setBot X d.length + d.length ≤ 4096) : setPut (setLsn X lsn) s d = setLsn (setPut X s d) lsn := by
  have e : setBot (setLsn X lsn) d.length = setBot X d.length := by rw [setBot, setBot, lsn_off hX lsn _ _ (by omega)]
  rw [setPut, setPut, e]
  generalize setBot X d.length = b at *
  rw [setLsn, setLsn]
  have hl : ∀ (Y : List Int) a u, a + u.length ≤ 4096 → Y.length = 4096 → (splice Y a u).length = 4096 := fun Y a u h1 h2 => by rw [splice_len _ _ _ (by omega), h2]
  have l1 := hl X b d hb2 hX
  have l2 := hl _ 16 (beL 2 b) (by rw [beL_length]; omega) l1
  have l3 := hl _ (20 + 4 * s) (beL 2 b) (by rw [beL_length]; omega) l2
  rw [splice_comm X 4 b _ _ (by rw [beL_length]; omega) (by rw [beL_length]; omega) (by omega)]
  rw [splice_comm _ 4 16 _ _ (by rw [beL_length]; omega) (by rw [beL_length]; omega) (by rw [beL_length]; omega)]
  rw [splice_comm _ 4 (20 + 4 * s) _ _ (by rw [beL_length]; omega) (by rw [beL_length]; omega) (by rw [beL_length]; omega)]
  rw [splice_comm _ 4 (20 + 4 * s + 2) _ _ (by rw [beL_length]; omega) (by rw [beL_length]; omega) (by rw [beL_length]; omega)]
end
theorem Wf.lsn {X : List Int} (h : Wf X) (lsn : Nat) (hl : lsn ≤ 1099511627776) : Wf (setLsn X lsn) := by
  have hx := h.len
  obtain ⟨_, _, h3, h4, _⟩ := fault_zero h.zero
  refine h.of_slots (lsn_len hx lsn) ?_ ?_ ?_ ?_ ?_
  · intro z hz
    rcases splice_mem hz with hz | hz
    · exact h.byte z hz
    · exact beL_byte _ _ z hz
  · rw [setLsn, beAt_on _ _ _ _ (by omega) (by
      have : (256 : Nat) ^ 8 = 18446744073709551616 := by decide
      omega)]
    omega
  · rw [lsn_off hx _ _ _ (by omega)]; exact h4
  · rw [lsn_off hx _ _ _ (by omega)]
  · intro i hi
    exact .inl ⟨lsn_slO hx lsn i, lsn_slN hx lsn i⟩
section
variable {X : List Int} (h : Wf X) (lsn : Nat)
include h
theorem Wf.lsn_dat (i : Nat) (hi : i < 32) : cDat (setLsn X lsn) i = cDat X i := by
  have hx := h.len
  have h1 := h.slot i hi
  rw [cDat, cDat, lsn_slO hx, lsn_slN hx]
  by_cases ho : slO X i = 0
  · have : slN X i = 0 := h1.2.2.2.2.2.1 ho
    rw [this]; rfl
  · have := h1.2.2.2.2.2.2 ho
    exact splice_off _ _ _ (by rw [beL_length]; omega) _ _ (by rw [beL_length]; omega)
theorem Wf.lsn_bot : ∀ k, cBot (setLsn X lsn) k = cBot X k
  | 0 => rfl
  | k + 1 => by rw [cBot, cBot, Wf.lsn_bot k, lsn_slN h.len]
theorem Wf.lsn_head : headI (setLsn X lsn) = setLsn (headI X) lsn := by
  have hx := h.len
  have e : (setLsn X lsn).take 20 = splice (X.take 20) 4 (beL 8 lsn) := by
    refine List.ext_getElem? fun j => ?_
    rw [List.getElem?_take, setLsn, splice_get _ _ _ (by rw [beL_length]; omega), splice_get _ _ _ (by rw [beL_length, List.length_take]; omega), List.getElem?_take]
    by_cases hj : j < 20
    · rw [if_pos hj, if_pos hj]
    · rw [if_neg hj, if_neg (by rw [beL_length]; omega), if_neg hj]
  have l20 : (X.take 20).length = 20 := by rw [List.length_take]; omega
  rw [headI, headI, e, setLsn]
  refine List.ext_getElem? fun j => ?_
  have lb : (beL 8 lsn).length = 8 := beL_length 8 lsn
  have l3 : (splice (X.take 20) 4 (beL 8 lsn)).length = 20 := by rw [splice_len _ _ _ (by omega), l20]
  have l4 : (splice (zeros 4096) 0 (X.take 20)).length = 4096 := by rw [splice_len _ _ _ (by rw [zeros_len]; omega), zeros_len]
  have a1 : (splice (zeros 4096) 0 (splice (X.take 20) 4 (beL 8 lsn)))[j]? = if j < 20 then (if 4 ≤ j ∧ j < 12 then (beL 8 lsn)[j - 4]? else (X.take 20)[j]?) else (zeros 4096)[j]? := by
    rw [splice_get (zeros 4096) 0 _ (by rw [zeros_len]; omega), l3, splice_get (X.take 20) 4 (beL 8 lsn) (by omega), lb]
    by_cases hj : j < 20
    · rw [if_pos (by omega), if_pos hj, Nat.sub_zero]
    · rw [if_neg (by omega), if_neg hj]
  have a2 : (splice (splice (zeros 4096) 0 (X.take 20)) 4 (beL 8 lsn))[j]? = if 4 ≤ j ∧ j < 12 then (beL 8 lsn)[j - 4]? else if j < 20 then (X.take 20)[j]? else (zeros 4096)[j]? := by
    rw [splice_get _ 4 (beL 8 lsn) (by omega), lb, splice_get (zeros 4096) 0 _ (by rw [zeros_len]; omega), l20]
    by_cases hj : 4 ≤ j ∧ j < 12
    · rw [if_pos (by omega), if_pos hj]
    · rw [if_neg (by omega), if_neg hj]
      by_cases hk : j < 20
      · rw [if_pos (by omega), if_pos hk, Nat.sub_zero]
      · rw [if_neg (by omega), if_neg hk]
  rw [a1, a2]
  by_cases hj : 4 ≤ j ∧ j < 12
  · rw [if_pos (by omega), if_pos hj, if_pos hj]
  · rw [if_neg hj, if_neg hj]
theorem Wf.lsn_step {L : List Int} (hL : L.length = 4096) (i : Nat) (hi : i < 32) : cStep (setLsn X lsn) (setLsn L lsn) i = setLsn (cStep X L i) lsn := by
  have hx := h.len
  rw [cStep, cStep, lsn_slO hx]
  by_cases ho : slO X i = 0
  · rw [if_pos ho, if_pos ho]
  · rw [if_neg ho, if_neg ho, h.lsn_dat lsn i hi, h.lsn_bot, lsn_slN hx]
    have h1 := h.bot (i + 1) (by omega)
    have h2 := h.bot_succ i hi
    have h3 := h.dat i hi
    have h4 := (h.bot i (by omega)).2.2
    generalize cBot X (i + 1) = b at *
    rw [setLsn, setLsn]
    have l1 : (splice L b (cDat X i)).length = 4096 := by rw [splice_len _ _ _ (by omega), hL]
    have l2 : (splice (splice L b (cDat X i)) (20 + 4 * i) (beL 2 b)).length = 4096 := by rw [splice_len _ _ _ (by rw [beL_length]; omega), l1]
    rw [splice_comm L 4 b _ _ (by rw [beL_length]; omega) (by rw [beL_length]; omega) (by omega)]
    rw [splice_comm _ 4 (20 + 4 * i) _ _ (by rw [beL_length]; omega) (by rw [beL_length]; omega) (by rw [beL_length]; omega)]
    rw [splice_comm _ 4 (20 + 4 * i + 2) _ _ (by rw [beL_length]; omega) (by rw [beL_length]; omega) (by rw [beL_length]; omega)]
theorem Wf.lsn_up : ∀ k, k ≤ 32 → cUp (setLsn X lsn) (headI (setLsn X lsn)) k = setLsn (cUp X (headI X) k) lsn
  | 0, _ => h.lsn_head lsn
  | k + 1, hk => by
    rw [cUp, cUp, Wf.lsn_up k (by omega)]
    exact h.lsn_step lsn (h.up_len h.headI_len k (by omega)) k (by omega)
theorem Wf.lsn_comp : compI (setLsn X lsn) = setLsn (compI X) lsn := by
  have l := h.up_len h.headI_len 32 (Nat.le_refl _)
  rw [compI, compI, h.lsn_up lsn 32 (Nat.le_refl _), h.lsn_bot, setLsn, setLsn]
  exact splice_comm _ 4 16 _ _ (by rw [beL_length]; omega) (by rw [beL_length]; omega) (by rw [beL_length]; omega)
theorem Wf.lsn_room (n : Nat) : setRoom (setLsn X lsn) n = setLsn (setRoom X n) lsn := by
  rw [setRoom, setRoom, lsn_off h.len lsn _ _ (by omega)]
  split
  · exact h.lsn_comp lsn
  · rfl
theorem Wf.comp_bot : beAt (compI X) 16 2 = cBot X 32 := by
  have l := h.up_len h.headI_len 32 (Nat.le_refl _)
  have := (h.bot 32 (Nat.le_refl _)).2.2
  rw [compI, beAt_on _ _ _ _ (by omega) (by
    have : (256 : Nat) ^ 2 = 65536 := by decide
    omega)]
theorem Wf.room (n : Nat) (hn : sumN X 32 + n ≤ 3948) : (setRoom X n).length = 4096 ∧ 148 ≤ setBot (setRoom X n) n ∧ setBot (setRoom X n) n + n ≤ 4096 ∧ beAt (setRoom X n) 16 2 = ((setBot (setRoom X n) n + n : Nat) : Int) := by
  obtain ⟨_, _, _, _, h5, h6, _, _⟩ := fault_zero h.zero
  have hb := h.bot 32 (Nat.le_refl _)
  rw [setRoom]
  split
  · refine ⟨h.compI_len, ?_⟩
    rw [setBot, h.comp_bot]
    omega
  · refine ⟨h.len, ?_⟩
    rw [setBot]
    omega
end
end Go.Proofs.YtghgjddiheebeaaDoor
