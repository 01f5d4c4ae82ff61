/- FnLocks: plain: what stays true of the list of locks and of the table of modes. -/
import Derived.Test.YtildfjlekplgjaaN10
namespace Go.Proofs.Ytildfjlekplgjaa
set_option linter.unusedSimpArgs false
set_option linter.unusedVariables false
structure LkOK (xs : List DLock) : Prop where
  ok : ∀ x ∈ xs, lockOK x = true
  lt : xs.Pairwise fun a b => lkLt a b = true
  fit : xs.Pairwise fun a b => lkFit a b = true
theorem adjL_pair {α : Type} {q : α → α → Bool} : ∀ {xs : List α}, xs.Pairwise (fun a b => q a b = true) → adjL q xs = true
  | [], _ => rfl
  | [_], _ => rfl
  | a :: b :: l, h => by
    simp only [adjL, Bool.and_eq_true]
    rw [List.pairwise_cons] at h
    exact ⟨h.1 b (by simp), adjL_pair h.2⟩
theorem LkOK.all {xs : List DLock} (h : LkOK xs) : xs.all lockOK = true := List.all_eq_true.2 h.ok
theorem LkOK.fault {xs : List DLock} (h : LkOK xs) (hl : xs.length ≤ 4096) : locksFault xs = 0 := by
  unfold locksFault
  rw [if_neg (by omega), if_neg (by rw [h.all]; decide), if_neg (by rw [adjL_pair h.lt]; decide), if_neg (by rw [adjL_pair h.fit]; decide)]
theorem lkFit_iff {a b : DLock} : lkFit a b = true ↔ (a.Id = b.Id → a.Mode ≠ 2 ∧ b.Mode ≠ 2) := by
  simp only [lkFit, Bool.not_eq_true', Bool.and_eq_false_iff, Bool.or_eq_false_iff, decide_eq_false_iff_not]
  constructor
  · rintro (h | h) e
    · exact absurd e h
    · exact h
  · intro h
    by_cases e : a.Id = b.Id
    · exact .inr (h e)
    · exact .inl e
theorem LkOK.filter {xs : List DLock} (h : LkOK xs) (p : DLock → Bool) : LkOK (xs.filter p) := ⟨fun x hx => h.ok x (List.mem_filter.1 hx).1, h.lt.filter p, h.fit.filter p⟩
theorem mem_takeW {α : Type} {p : α → Bool} : ∀ {l : List α} {a : α}, a ∈ l.takeWhile p → p a = true
  | x :: l, a, h => by
    rw [List.takeWhile_cons] at h
    split at h
    · rcases List.mem_cons.1 h with rfl | h
      · assumption
      · exact mem_takeW h
    · cases h
theorem after_drop (txn id : Int) : ∀ {ys : List DLock}, ys.Pairwise (fun a b => lkLt a b = true) → (∀ y ∈ ys, isKey txn id y = false) → ∀ b ∈ ys.dropWhile (before txn id), after txn id b = true
  | [], _, _, b, hb => by cases hb
  | a :: l, h, hk, b, hb => by
    rw [List.pairwise_cons] at h
    rw [List.dropWhile_cons] at hb
    split at hb
    · exact after_drop txn id h.2 (fun y hy => hk y (by simp [hy])) b hb
    · rename_i hn
      have h0 := hk a (by simp)
      have ha : after txn id a = true := by
        simp [before, after, isKey] at *; omega
      rcases List.mem_cons.1 hb with rfl | hb
      · exact ha
      · have h1 := lkLt_iff.1 (h.1 b hb)
        simp [after] at *; omega
theorem LkOK.put {xs : List DLock} (h : LkOK xs) (txn id m : Int) (hm : lockOK ⟨id, txn, m⟩ = true) (hf : ∀ y ∈ xs, y.Id = id → y.Txn ≠ txn → y.Mode ≠ 2 ∧ m ≠ 2) : LkOK (askPut xs txn id ⟨id, txn, m⟩) := by
  rw [askPut_is]
  have hy : LkOK (xs.filter (fun l => !isKey txn id l)) := h.filter _
  have hk : ∀ y ∈ xs.filter (fun l => !isKey txn id l), isKey txn id y = false := fun y hy => by simpa using (List.mem_filter.1 hy).2
  have hf' : ∀ y ∈ xs.filter (fun l => !isKey txn id l), y.Id = id → y.Mode ≠ 2 ∧ m ≠ 2 := fun y hy he => by
    have h1 := List.mem_filter.1 hy
    exact hf y h1.1 he (fun ht => by have := h1.2; simp [isKey, he, ht] at this)
  generalize xs.filter (fun l => !isKey txn id l) = ys at *
  have hb := after_drop txn id hy.lt hk
  have ha : ∀ a ∈ ys.takeWhile (before txn id), before txn id a = true := fun a h => mem_takeW h
  obtain ⟨o1, o2, o3⟩ := hy
  rw [← List.takeWhile_append_dropWhile (p := before txn id) (l := ys)] at o1 o2 o3 hf'
  generalize ys.takeWhile (before txn id) = us at *
  generalize ys.dropWhile (before txn id) = bs at *
  rw [List.pairwise_append] at o2 o3
  refine ⟨fun x hx => ?_, List.pairwise_append.2 ⟨o2.1, List.pairwise_cons.2 ⟨fun b h => ?_, o2.2.1⟩, fun a h b k => ?_⟩, List.pairwise_append.2 ⟨o3.1, List.pairwise_cons.2 ⟨fun b h => ?_, o3.2.1⟩, fun a h b k => ?_⟩⟩
  · rcases List.mem_append.1 hx with hx | hx
    · exact o1 x (by simp [hx])
    · rcases List.mem_cons.1 hx with rfl | hx
      · exact hm
      · exact o1 x (by simp [hx])
  · have := hb b h
    refine lkLt_iff.2 ?_
    simp [after] at this; dsimp only; omega
  · rcases List.mem_cons.1 k with rfl | k
    · have := ha a h
      refine lkLt_iff.2 ?_
      simp [before] at this; dsimp only; omega
    · exact o2.2.2 a h b k
  · refine lkFit_iff.2 fun he => ?_
    have := hf' b (by simp [h]) he.symm
    exact ⟨this.2, this.1⟩
  · rcases List.mem_cons.1 k with rfl | k
    · exact lkFit_iff.2 fun he => hf' a (by simp [h]) he
    · exact o3.2.2 a h b k
theorem mem_put {xs : List DLock} {txn id : Int} {new y : DLock} : y ∈ askPut xs txn id new ↔ y = new ∨ (y ∈ xs ∧ isKey txn id y = false) := by
  have e : y ∈ xs ∧ isKey txn id y = false ↔ y ∈ xs.filter (fun l => !isKey txn id l) := by simp
  rw [askPut_is, e]
  generalize xs.filter (fun l => !isKey txn id l) = ys
  have e2 : y ∈ ys ↔ y ∈ ys.takeWhile (before txn id) ∨ y ∈ ys.dropWhile (before txn id) := by
    rw [← List.mem_append, List.takeWhile_append_dropWhile]
  rw [e2]
  simp only [List.mem_append, List.mem_cons]
  constructor
  · rintro (h | h | h)
    · exact .inr (.inl h)
    · exact .inl h
    · exact .inr (.inr h)
  · rintro (h | h | h)
    · exact .inr (.inl h)
    · exact .inl h
    · exact .inr (.inr h)
theorem put_len (xs : List DLock) (txn id : Int) (new : DLock) : (askPut xs txn id new).length ≤ xs.length + 1 := by
  rw [askPut_is]
  have h1 := List.length_filter_le (fun l => !isKey txn id l) xs
  generalize xs.filter (fun l => !isKey txn id l) = ys at *
  have h2 : (ys.takeWhile (before txn id)).length + (ys.dropWhile (before txn id)).length = ys.length := by
    rw [← List.length_append, List.takeWhile_append_dropWhile]
  simp only [List.length_append, List.length_cons]
  omega
theorem LkOK.mode {xs : List DLock} (h : LkOK xs) {x : DLock} (hx : x ∈ xs) : modeL xs x.Txn x.Id false = x.Mode := by
  obtain ⟨k, hk, rfl⟩ := List.getElem_of_mem hx
  exact modeL_hit (adjL_pair h.lt) h.all _ _ k hk rfl rfl
theorem LkOK.mode_ways {xs : List DLock} (h : LkOK xs) (t i : Int) : (∃ x ∈ xs, x.Id = i ∧ x.Txn = t ∧ modeL xs t i false = x.Mode) ∨ ((∀ x ∈ xs, ¬ (x.Id = i ∧ x.Txn = t)) ∧ modeL xs t i false = 0) := by
  by_cases hq : ∃ x ∈ xs, x.Id = i ∧ x.Txn = t
  · obtain ⟨x, hx, rfl, rfl⟩ := hq
    exact .inl ⟨x, hx, rfl, rfl, h.mode hx⟩
  · have hq' : ∀ x ∈ xs, ¬ (x.Id = i ∧ x.Txn = t) := fun x hx hh => hq ⟨x, hx, hh⟩
    exact .inr ⟨hq', modeL_skip t i 0 xs hq'⟩
theorem others_fold (txn id : Int) : ∀ (xs : List DLock) (m : Int), (m ≤ xs.foldl (modeStep txn id true) m ∧ (∀ x ∈ xs, x.Id = id → x.Txn ≠ txn → x.Mode ≤ xs.foldl (modeStep txn id true) m) ∧
    (xs.foldl (modeStep txn id true) m = m ∨ ∃ x ∈ xs, x.Id = id ∧ x.Txn ≠ txn ∧ xs.foldl (modeStep txn id true) m = x.Mode))
  | [], m => ⟨Int.le_refl m, fun x hx => by simp at hx, .inl rfl⟩
  | a :: l, m => by
    rw [List.foldl_cons]
    obtain ⟨h1, h2, h3⟩ := others_fold txn id l (modeStep txn id true m a)
    by_cases hc : a.Id = id ∧ a.Txn ≠ txn
    · have e : modeStep txn id true m a = max m a.Mode := by
        unfold modeStep
        rw [if_pos ⟨hc.1, by simpa using hc.2⟩]
      have a1 : m ≤ max m a.Mode := by omega
      have a2 : a.Mode ≤ max m a.Mode := by omega
      have a3 : max m a.Mode = m ∨ max m a.Mode = a.Mode := by omega
      rw [e] at h1 h2 h3 ⊢
      clear e
      generalize max m a.Mode = q at *
      generalize List.foldl (modeStep txn id true) q l = R at *
      refine ⟨by omega, fun x hx he ht => ?_, ?_⟩
      · rcases List.mem_cons.1 hx with rfl | hx
        · omega
        · exact h2 x hx he ht
      · rcases h3 with h3 | ⟨x, hx, h4⟩
        · rcases a3 with hm | hm
          · exact .inl (by omega)
          · exact .inr ⟨a, by simp, hc.1, hc.2, by omega⟩
        · exact .inr ⟨x, by simp [hx], h4⟩
    · have e : modeStep txn id true m a = m := by
        unfold modeStep
        rw [if_neg]
        rintro ⟨h4, h5⟩
        exact hc ⟨h4, by simpa using h5⟩
      rw [e] at h1 h2 h3 ⊢
      refine ⟨h1, fun x hx he ht => ?_, ?_⟩
      · rcases List.mem_cons.1 hx with rfl | hx
        · exact absurd ⟨he, ht⟩ hc
        · exact h2 x hx he ht
      · rcases h3 with h3 | ⟨x, hx, h4⟩
        · exact .inl h3
        · exact .inr ⟨x, by simp [hx], h4⟩
/-- The list and the table of modes (row: transaction, column: id). -/
structure LInv (xs : List DLock) (M : List Int) : Prop where
  lk : LkOK xs
  rng : ∀ x ∈ xs, x.Id ≤ 7 ∧ x.Txn ≤ 4
  len : M.length = 40
  md : ∀ t i : Nat, 1 ≤ t → t ≤ 4 → i ≤ 7 → M[t * 8 + i]? = some (modeL xs t i false)
theorem LInv.start : LInv [] (List.replicate 40 0) :=
  ⟨⟨by simp, .nil, .nil⟩, by simp, by simp, fun t i h1 h2 h3 => by rw [List.getElem?_replicate, if_pos (by omega)]; rfl⟩
def othStep (M : List Int) (txn id : Nat) (m : Int) (t : Nat) : Int := if t ≠ txn ∧ m < M.getD (t * 8 + id) 0 then M.getD (t * 8 + id) 0 else m
def othUp (M : List Int) (txn id : Nat) : Nat → Int
  | 0 => 0
  | k + 1 => othStep M txn id (othUp M txn id k) (k + 1)
theorem othUp_le (M : List Int) (txn id : Nat) (R : Int) (h0 : 0 ≤ R) (h : ∀ t, 1 ≤ t → t ≤ 4 → t ≠ txn → M.getD (t * 8 + id) 0 ≤ R) : ∀ k, k ≤ 4 → othUp M txn id k ≤ R
  | 0, _ => h0
  | k + 1, hk => by
    have ih := othUp_le M txn id R h0 h k (by omega)
    show othStep M txn id _ (k + 1) ≤ R
    unfold othStep
    split
    · rename_i hc
      exact h (k + 1) (by omega) hk hc.1
    · exact ih
theorem othUp_mono (M : List Int) (txn id : Nat) (k : Nat) : othUp M txn id k ≤ othUp M txn id (k + 1) := by
  show _ ≤ othStep M txn id _ (k + 1)
  unfold othStep
  split
  · rename_i hc
    exact Int.le_of_lt hc.2
  · exact Int.le_refl _
theorem othUp_ge (M : List Int) (txn id : Nat) (t : Nat) (h1 : 1 ≤ t) (ht : t ≠ txn) : ∀ k, t ≤ k → M.getD (t * 8 + id) 0 ≤ othUp M txn id k
  | 0, hk => by omega
  | k + 1, hk => by
    by_cases he : t = k + 1
    · subst he
      show _ ≤ othStep M txn id _ (k + 1)
      unfold othStep
      split
      · exact Int.le_refl _
      · rename_i hc
        have : ¬ othUp M txn id k < M.getD ((k + 1) * 8 + id) 0 := fun h => hc ⟨ht, h⟩
        omega
    · exact Int.le_trans (othUp_ge M txn id t h1 ht k (by omega)) (othUp_mono M txn id k)
theorem othUp_nonneg (M : List Int) (txn id : Nat) : ∀ k, 0 ≤ othUp M txn id k
  | 0 => Int.le_refl _
  | k + 1 => Int.le_trans (othUp_nonneg M txn id k) (othUp_mono M txn id k)
theorem LInv.getD {xs : List DLock} {M : List Int} (h : LInv xs M) (t i : Nat) (h1 : 1 ≤ t) (h2 : t ≤ 4) (h3 : i ≤ 7) : M.getD (t * 8 + i) 0 = modeL xs t i false := by
  rw [List.getD_eq_getElem?_getD, h.md t i h1 h2 h3]; rfl
theorem LInv.others {xs : List DLock} {M : List Int} (h : LInv xs M) (txn id : Nat) (hi : id ≤ 7) : othUp M txn id 4 = modeL xs txn id true := by
  obtain ⟨q1, q2, q3⟩ := others_fold txn id xs 0
  apply Int.le_antisymm
  · refine othUp_le M txn id _ q1 (fun t h1 h2 ht => ?_) 4 (Nat.le_refl _)
    rw [h.getD t id h1 h2 hi]
    rcases h.lk.mode_ways t id with ⟨x, hx, e1, e2, e3⟩ | ⟨-, e3⟩
    · rw [e3]
      exact q2 x hx e1 (by omega)
    · rw [e3]; exact q1
  · rcases q3 with q3 | ⟨x, hx, e1, e2, e3⟩
    · unfold modeL
      rw [q3]; exact othUp_nonneg M txn id 4
    · have ok := lockOK_iff.1 (h.lk.ok x hx)
      have hr := h.rng x hx
      obtain ⟨t, ht⟩ : ∃ t : Nat, x.Txn = t := ⟨x.Txn.toNat, by omega⟩
      have h4 := othUp_ge M txn id t (by omega) (by omega) 4 (by omega)
      rw [h.getD t id (by omega) (by omega) hi] at h4
      have h5 := h.lk.mode hx
      rw [ht, e1] at h5
      unfold modeL at h4 h5 ⊢
      omega
def clrUp (M : List Int) (txn : Nat) : Nat → List Int
  | 0 => M
  | k + 1 => (clrUp M txn k).set (txn * 8 + k) 0
theorem clrUp_len (M : List Int) (txn : Nat) : ∀ k, (clrUp M txn k).length = M.length
  | 0 => rfl
  | k + 1 => by simp [clrUp, clrUp_len M txn k]
theorem clrUp_at (M : List Int) (txn : Nat) (hM : txn * 8 + 8 ≤ M.length) (j : Nat) : ∀ k, k ≤ 8 → (clrUp M txn k)[j]? = if txn * 8 ≤ j ∧ j < txn * 8 + k then some 0 else M[j]?
  | 0, _ => by rw [if_neg (by omega)]; rfl
  | k + 1, hk => by
    have ih := clrUp_at M txn hM j k (by omega)
    rw [clrUp, List.getElem?_set, clrUp_len, ih]
    by_cases he : txn * 8 + k = j
    · rw [if_pos he, if_pos (by omega), if_pos (by omega)]
    · rw [if_neg he]
      by_cases hc : txn * 8 ≤ j ∧ j < txn * 8 + k
      · rw [if_pos hc, if_pos (by omega)]
      · rw [if_neg hc, if_neg (by omega)]
theorem LInv.free {xs : List DLock} {M : List Int} (h : LInv xs M) (txn : Nat) (h1 : 1 ≤ txn) (h4 : txn ≤ 4) : LInv (xs.filter (fun l => !decide (l.Txn = (txn : Int)))) (clrUp M txn 8) := by
  have hf : LkOK (xs.filter (fun l => !decide (l.Txn = (txn : Int)))) := h.lk.filter _
  refine ⟨hf, fun x hx => h.rng x (List.mem_filter.1 hx).1, by rw [clrUp_len]; exact h.len, fun t i a b c => ?_⟩
  rw [clrUp_at M txn (by rw [h.len]; omega) _ 8 (by omega)]
  by_cases he : t = txn
  · subst he
    rw [if_pos (by omega)]
    rcases hf.mode_ways t i with ⟨x, hx, e1, e2, -⟩ | ⟨-, e3⟩
    · have := (List.mem_filter.1 hx).2
      simp [e2] at this
    · rw [e3]
  · rw [if_neg (by omega), h.md t i a b c]
    rcases h.lk.mode_ways t i with ⟨x, hx, e1, e2, e3⟩ | ⟨e1, e3⟩
    · have hx' : x ∈ xs.filter (fun l => !decide (l.Txn = (txn : Int))) := by
        rw [List.mem_filter]
        refine ⟨hx, ?_⟩
        rw [e2]
        simp
        omega
      have := hf.mode hx'
      rw [e1, e2] at this
      rw [e3, this]
    · rw [e3, modeL_skip t i 0 _ (fun x hx => e1 x (List.mem_filter.1 hx).1) |> fun (e : modeL _ t i false = 0) => e]
theorem LInv.ask {xs : List DLock} {M : List Int} (h : LInv xs M) (txn id : Nat) (mode : Int) (h1 : 1 ≤ txn) (h4 : txn ≤ 4) (hi : id ≤ 7) (hm : 1 ≤ mode ∧ mode ≤ 2) (hok : ¬ (modeL xs txn id true = 2 ∨ modeL xs txn id true ≠ 0 ∧ mode = 2)) :
    LInv (askPut xs txn id ⟨id, txn, max (modeL xs txn id false) mode⟩) (if modeL xs txn id false < mode then M.set (txn * 8 + id) mode else M) := by
  obtain ⟨q1, q2, q3⟩ := others_fold txn id xs 0
  have hr := modeL_range (xs := xs) txn id false h.lk.all
  have hp : LkOK (askPut xs txn id ⟨id, txn, max (modeL xs txn id false) mode⟩) := by
    refine h.lk.put txn id _ (lockOK_iff.2 ?_) (fun y hy e1 e2 => ?_)
    · dsimp only; omega
    · have h5 : y.Mode ≤ modeL xs txn id true := q2 y hy e1 e2
      have h6 := (lockOK_iff.1 (h.lk.ok y hy)).2.2
      have h8 := modeL_range (xs := xs) txn id true h.lk.all
      have h7 : modeL xs txn id false ≠ 2 := by
        rcases h.lk.mode_ways txn id with ⟨x, hx, a1, a2, a3⟩ | ⟨-, a3⟩
        · rw [a3]
          rcases Classical.em (x = y) with rfl | hne
          · exact absurd a2 e2
          · have hfit : lkFit x y = true ∨ lkFit y x = true := by
              obtain ⟨i, hi', rfl⟩ := List.getElem_of_mem hx
              obtain ⟨j, hj', rfl⟩ := List.getElem_of_mem hy
              have hpw := List.pairwise_iff_getElem.1 h.lk.fit
              rcases Nat.lt_trichotomy i j with hij | hij | hij
              · exact .inl (hpw i j hi' hj' hij)
              · subst hij; exact absurd rfl hne
              · exact .inr (hpw j i hj' hi' hij)
            rcases hfit with hfit | hfit
            · exact (lkFit_iff.1 hfit (by omega)).1
            · exact (lkFit_iff.1 hfit (by omega)).2
        · rw [a3]; decide
      clear q1 q2 q3
      omega
  refine ⟨hp, fun x hx => ?_, ?_, fun t i a b c => ?_⟩
  · rcases mem_put.1 hx with rfl | ⟨hx, -⟩
    · dsimp only; omega
    · exact h.rng x hx
  · split
    · rw [List.length_set]; exact h.len
    · exact h.len
  · have hlen := h.len
    have hnew : (⟨id, txn, max (modeL xs txn id false) mode⟩ : DLock) ∈ askPut xs txn id ⟨id, txn, max (modeL xs txn id false) mode⟩ := mem_put.2 (.inl rfl)
    have hmn := hp.mode hnew
    dsimp only at hmn
    by_cases he : t = txn ∧ i = id
    · obtain ⟨rfl, rfl⟩ := he
      rw [hmn]
      split
      · rw [List.getElem?_set, if_pos rfl, if_pos (by omega)]
        congr 1; omega
      · rw [h.md t i a b c]
        congr 1; omega
    · have e : (if modeL xs txn id false < mode then M.set (txn * 8 + id) mode else M)[t * 8 + i]? = M[t * 8 + i]? := by
        split
        · rw [List.getElem?_set, if_neg (by omega)]
        · rfl
      rw [e, h.md t i a b c]
      have hkey : ∀ x : DLock, x.Id = i → x.Txn = t → isKey txn id x = false := fun x a1 a2 => by
        simp only [isKey, Bool.and_eq_false_iff, decide_eq_false_iff_not, a1, a2]
        omega
      rcases h.lk.mode_ways t i with ⟨x, hx, e1, e2, e3⟩ | ⟨e1, e3⟩
      · have := hp.mode (mem_put.2 (.inr ⟨hx, hkey x e1 e2⟩))
        rw [e1, e2] at this
        rw [e3, this]
      · rcases hp.mode_ways t i with ⟨y, hy, a1, a2, -⟩ | ⟨-, a3⟩
        · rcases mem_put.1 hy with rfl | ⟨hy, -⟩
          · exfalso; dsimp only at a1 a2; omega
          · exact absurd ⟨a1, a2⟩ (e1 y hy)
        · rw [e3, a3]
theorem lockAsk_is {xs : List DLock} (h : LkOK xs) (hl : xs.length < 4096) (txn id mode : Int) (ht : 1 ≤ txn ∧ txn ≤ 2147483647) (hi : 0 ≤ id ∧ id ≤ 511) (hm : 1 ≤ mode ∧ mode ≤ 2) :
    lockAsk xs txn id mode = if modeL xs txn id true = 2 ∨ modeL xs txn id true ≠ 0 ∧ mode = 2 then ⟨1, []⟩ else ⟨0, askPut xs txn id ⟨id, txn, max (modeL xs txn id false) mode⟩⟩ := by
  have hok : askOK xs txn id mode = true := by
    simp only [askOK, h.fault (by omega), decide_true, Bool.true_and, Bool.and_eq_true, inR_iff]
    exact ⟨⟨hi, ht⟩, hm⟩
  unfold lockAsk
  rw [if_neg (by rw [hok]; decide), if_neg (by omega)]
end Go.Proofs.Ytildfjlekplgjaa
