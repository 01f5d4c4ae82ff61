/- FnHolds: plain: what stays true of lengths, holds, owners and what may be given up. -/
import Derived.Test.YtildfjlekplgjaaR0
namespace Go.Proofs.Ytildfjlekplgjaa
set_option linter.unusedSimpArgs false
set_option linter.unusedVariables false
theorem ordL_pair {xs : List DHold} (h : ordL xs = true) : xs.Pairwise fun a b => a.Id < b.Id := by
  induction xs with
  | nil => exact .nil
  | cons a l ih => exact List.pairwise_cons.2 ⟨ordL_all h, ih (ordL_tail h)⟩
theorem pair_ordL : ∀ {xs : List DHold}, (xs.Pairwise fun a b => a.Id < b.Id) → ordL xs = true
  | [], _ => rfl
  | [_], _ => rfl
  | a :: b :: l, h => by
    simp only [ordL, Bool.and_eq_true, decide_eq_true_eq]
    rw [List.pairwise_cons] at h
    exact ⟨h.1 b (by simp), pair_ordL h.2⟩
structure HdOK (xs : List DHold) : Prop where
  ok : ∀ x ∈ xs, holdOK x = true
  lt : xs.Pairwise fun a b => a.Id < b.Id
theorem holdOK_iff {h : DHold} : holdOK h = true ↔ (0 ≤ h.Id ∧ h.Id ≤ 511) ∧ (1 ≤ h.Txn ∧ h.Txn ≤ 2147483647) ∧ 0 ≤ h.Most ∧ h.Most ≤ 1000 := by
  simp [holdOK, inR, and_assoc]
theorem HdOK.all {xs : List DHold} (h : HdOK xs) : xs.all holdOK = true := List.all_eq_true.2 h.ok
theorem HdOK.fault {xs : List DHold} (h : HdOK xs) (hl : xs.length ≤ 512) : holdsFault xs = 0 := by
  unfold holdsFault
  rw [if_neg (by omega), if_neg (by rw [pair_ordL h.lt]; decide), if_neg (by rw [h.all]; decide)]
theorem HdOK.filter {xs : List DHold} (h : HdOK xs) (p : DHold → Bool) : HdOK (xs.filter p) := ⟨fun x hx => h.ok x (List.mem_filter.1 hx).1, h.lt.filter p⟩
theorem HdOK.most {xs : List DHold} (h : HdOK xs) {x : DHold} (hx : x ∈ xs) (d : Int) : mostL xs x.Id d = x.Most := by
  obtain ⟨k, hk, rfl⟩ := List.getElem_of_mem hx
  have hp := List.pairwise_iff_getElem.1 h.lt
  exact mostL_hit k hk rfl fun j hj hlt => by have := hp j k hj hk hlt; omega
theorem most_no {xs : List DHold} {id d : Int} (h : ∀ x ∈ xs, x.Id ≠ id) : mostL xs id d = d := mostL_none fun j hj => h _ (List.getElem_mem hj)
theorem HdOK.most_ways {xs : List DHold} (h : HdOK xs) (id d : Int) : (∃ x ∈ xs, x.Id = id ∧ mostL xs id d = x.Most) ∨ ((∀ x ∈ xs, x.Id ≠ id) ∧ mostL xs id d = d) := by
  by_cases hq : ∃ x ∈ xs, x.Id = id
  · obtain ⟨x, hx, rfl⟩ := hq
    exact .inl ⟨x, hx, rfl, h.most hx d⟩
  · have hq' : ∀ x ∈ xs, x.Id ≠ id := fun x hx hh => hq ⟨x, hx, hh⟩
    exact .inr ⟨hq', most_no hq'⟩
theorem mem_takeWh {α : Type} {p : α → Bool} : ∀ {l : List α} {a : α}, a ∈ l.takeWhile p → p a = true
  | x :: l, a, h => by
    rw [List.takeWhile_cons] at h
    split at h
    · rcases List.mem_cons.1 h with rfl | h
      · assumption
      · exact mem_takeWh h
    · cases h
theorem ge_drop (id : Int) : ∀ {ys : List DHold}, (ys.Pairwise fun a b => a.Id < b.Id) → (∀ y ∈ ys, y.Id ≠ id) → ∀ b ∈ ys.dropWhile (fun h => decide (h.Id < id)), id < b.Id
  | [], _, _, b, hb => by cases hb
  | a :: l, h, hk, b, hb => by
    rw [List.pairwise_cons] at h
    rw [List.dropWhile_cons] at hb
    split at hb
    · exact ge_drop id h.2 (fun y hy => hk y (by simp [hy])) b hb
    · rename_i hn
      have h0 := hk a (by simp)
      have ha : id < a.Id := by
        simp at hn; omega
      rcases List.mem_cons.1 hb with rfl | hb
      · exact ha
      · have := h.1 b hb; omega
/-- The list with one hold taken. -/
theorem takeOK_of {H : List DHold} (h : HdOK H) (hl : H.length ≤ 512) {t id b a : Int} (ht : 1 ≤ t ∧ t ≤ 2147483647) (hi : 0 ≤ id ∧ id ≤ 511) (hb : -1 ≤ b ∧ b ≤ 1000) (ha : -1 ≤ a ∧ a ≤ 1000) : takeOK H t id b a = true := by
  simp only [takeOK, h.fault hl, decide_true, Bool.true_and, Bool.and_eq_true, inR_iff]
  exact ⟨⟨⟨ht, hi⟩, hb⟩, ha⟩
theorem mem_take {H : List DHold} {t id b a : Int} (h : takeOK H t id b a = true) {y : DHold} : y ∈ holdTake H t id b a ↔ y = takeNew H t id b a ∨ (y ∈ H ∧ y.Id ≠ id) := by
  have e : y ∈ H ∧ y.Id ≠ id ↔ y ∈ H.filter (fun h => decide (h.Id ≠ id)) := by simp
  rw [holdTake_is h, e]
  generalize H.filter (fun h => decide (h.Id ≠ id)) = ys
  have e2 : y ∈ ys ↔ y ∈ ys.takeWhile (fun h => decide (h.Id < id)) ∨ y ∈ ys.dropWhile (fun h => decide (h.Id < id)) := by
    rw [← List.mem_append, List.takeWhile_append_dropWhile]
  rw [e2]
  simp only [List.mem_append, List.mem_cons]
  constructor
  · rintro (h | h | h)
    · exact .inr (.inl h)
    · exact .inl h
    · exact .inr (.inr h)
  · rintro (h | h | h)
    · exact .inr (.inl h)
    · exact .inl h
    · exact .inr (.inr h)
theorem take_len {H : List DHold} {t id b a : Int} (h : takeOK H t id b a = true) : 1 ≤ (holdTake H t id b a).length ∧ (holdTake H t id b a).length ≤ H.length + 1 := by
  rw [holdTake_is h]
  have h1 := List.length_filter_le (fun h : DHold => decide (h.Id ≠ id)) H
  generalize H.filter (fun h => decide (h.Id ≠ id)) = ys at *
  have h2 : (ys.takeWhile (fun h => decide (h.Id < id))).length + (ys.dropWhile (fun h => decide (h.Id < id))).length = ys.length := by
    rw [← List.length_append, List.takeWhile_append_dropWhile]
  simp only [List.length_append, List.length_cons]
  omega
theorem HdOK.take {H : List DHold} (h : HdOK H) {t id b a : Int} (ho : takeOK H t id b a = true) (ht : 1 ≤ t ∧ t ≤ 2147483647) (hi : 0 ≤ id ∧ id ≤ 511) (hb : -1 ≤ b ∧ b ≤ 1000) (ha : -1 ≤ a ∧ a ≤ 1000) : HdOK (holdTake H t id b a) := by
  refine ⟨fun x hx => ?_, ?_⟩
  · rcases (mem_take ho).1 hx with rfl | ⟨hx, -⟩
    · have := mostL_in (id := id) h.all
      refine holdOK_iff.2 ?_
      simp only [takeNew]
      omega
    · exact h.ok x hx
  · rw [holdTake_is ho]
    have hy := h.filter (fun h => decide (h.Id ≠ id))
    have hk : ∀ y ∈ H.filter (fun h => decide (h.Id ≠ id)), y.Id ≠ id := fun y hy => by simpa using (List.mem_filter.1 hy).2
    generalize H.filter (fun h => decide (h.Id ≠ id)) = ys at *
    have hd := ge_drop id hy.lt hk
    have ht : ∀ a ∈ ys.takeWhile (fun h => decide (h.Id < id)), a.Id < id := fun a h => by simpa using mem_takeWh h
    have o2 := hy.lt
    rw [← List.takeWhile_append_dropWhile (p := fun h : DHold => decide (h.Id < id)) (l := ys), List.pairwise_append] at o2
    refine List.pairwise_append.2 ⟨o2.1, List.pairwise_cons.2 ⟨fun b h => hd b h, o2.2.1⟩, fun a h b k => ?_⟩
    rcases List.mem_cons.1 k with rfl | k
    · exact ht a h
    · exact o2.2.2 a h b k
theorem take_most {H : List DHold} (h : HdOK H) {t id b a : Int} (ho : takeOK H t id b a = true) (ht : 1 ≤ t ∧ t ≤ 2147483647) (hi : 0 ≤ id ∧ id ≤ 511) (hb : -1 ≤ b ∧ b ≤ 1000) (ha : -1 ≤ a ∧ a ≤ 1000) (i : Int) :
    mostL (holdTake H t id b a) i 0 = if i = id then max (max (mostL H id 0) 0) (max b a) else mostL H i 0 := by
  have h' := h.take ho ht hi hb ha
  by_cases he : i = id
  · subst he
    rw [if_pos rfl]
    have := h'.most ((mem_take ho).2 (.inl rfl)) 0
    rw [show (takeNew H t i b a).Id = i from rfl] at this
    rw [this, mostL_max h.all]
    simp only [takeNew]
    omega
  · rw [if_neg he]
    rcases h.most_ways i 0 with ⟨x, hx, rfl, e⟩ | ⟨hn, e⟩
    · rw [e, h'.most ((mem_take ho).2 (.inr ⟨hx, he⟩)) 0]
    · rw [e]
      refine most_no fun x hx => ?_
      rcases (mem_take ho).1 hx with rfl | ⟨hx, -⟩
      · exact fun e => he e.symm
      · exact hn x hx
/-- The sum of what is needed, up to place k. -/
theorem roomUp_mono {L L' : List Int} {H H' : List DHold} (h : ∀ i, i < 32 → need L' H' i ≤ need L H i) : ∀ k, k ≤ 32 → roomUp L H 0 k ≤ roomUp L' H' 0 k
  | 0, _ => Int.le_refl _
  | k + 1, hk => by
    have h1 := roomUp_mono h k (by omega)
    have h2 := h k (by omega)
    simp only [roomUp, Nat.zero_add]
    omega
theorem roomUp_one {L L' : List Int} {H H' : List DHold} (id : Nat) (d : Int) (hd : 0 ≤ d) (h : ∀ i, i < 32 → i ≠ id → need L' H' i = need L H i) (h1 : need L' H' id ≤ need L H id + d) : ∀ k, k ≤ 32 → roomUp L H 0 k - d ≤ roomUp L' H' 0 k ∧ (k ≤ id → roomUp L H 0 k = roomUp L' H' 0 k)
  | 0, _ => ⟨by simp only [roomUp]; omega, fun _ => rfl⟩
  | k + 1, hk => by
    have ih := roomUp_one id d hd h h1 k (by omega)
    simp only [roomUp, Nat.zero_add]
    by_cases he : k = id
    · subst he
      have := ih.2 (Nat.le_refl _)
      exact ⟨by omega, fun hq => by omega⟩
    · rw [h k (by omega) he]
      exact ⟨by omega, fun hq => by have := ih.2 (by omega); omega⟩
def fitUp (L : List Int) : Nat → Int
  | 0 => 0
  | k + 1 => if 0 < L.getD k 0 then fitUp L k + L.getD k 0 else fitUp L k
theorem fitUp_room (L : List Int) (H : List DHold) : ∀ k, 0 ≤ fitUp L k ∧ fitUp L k ≤ 3948 - roomUp L H 0 k
  | 0 => ⟨Int.le_refl _, by simp [fitUp, roomUp]⟩
  | k + 1 => by
    have ih := fitUp_room L H k
    simp only [fitUp, roomUp, Nat.zero_add, need, List.getD_eq_getElem?_getD]
    split <;> omega
theorem fitUp_le (L : List Int) (hL : ∀ i, L.getD i 0 ≤ 1000) : ∀ k, fitUp L k ≤ 1000 * k
  | 0 => by simp [fitUp]
  | k + 1 => by
    have ih := fitUp_le L hL k
    have := hL k
    simp only [fitUp]
    split <;> omega
/-- While transactions go on: the lengths, the holds, the owners, the changes of each. -/
structure HInv (L : List Int) (H : List DHold) (W : List Int) (I O : Nat → List Int) : Prop where
  len : L.length = 32
  rng : ∀ i, i < 32 → -1 ≤ L.getD i 0 ∧ L.getD i 0 ≤ 1000
  hd : HdOK H
  ids : ∀ x ∈ H, x.Id ≤ 8
  wlen : W.length = 32
  wr : ∀ i, i < 32 → 0 ≤ W.getD i 0 ∧ W.getD i 0 ≤ 3
  own : ∀ x ∈ H, W.getD x.Id.toNat 0 = x.Txn
  low : ∀ i, i < 32 → W.getD i 0 ≠ 0 → L.getD i 0 ≤ mostL H i 0
  room : 0 ≤ roomL L H 0
  same : ∀ t, (O t).length = (I t).length
  ent : ∀ t j, 1 ≤ t → t ≤ 3 → j < (I t).length → ∃ id : Nat, (I t)[j]? = some (id : Int) ∧ id ≤ 8 ∧ W.getD id 0 = t ∧ ∃ o, (O t)[j]? = some o ∧ -1 ≤ o ∧ o ≤ 1000 ∧ o ≤ mostL H id 0
theorem need_eq (L : List Int) (H : List DHold) (i : Nat) : need L H i = max 0 (max (L.getD i 0) (mostL H i 0)) := by
  unfold need
  rw [List.getD_eq_getElem?_getD]
theorem roomUp_zero : ∀ k, k ≤ 32 → roomUp (List.replicate 32 (-1)) [] 0 k = 3948
  | 0, _ => rfl
  | k + 1, hk => by
    simp only [roomUp, roomUp_zero k (by omega), Nat.zero_add, need_eq]
    rw [List.getD_eq_getElem?_getD, List.getElem?_replicate, if_pos (by omega), show mostL [] (k : Int) 0 = 0 from rfl]
    decide
theorem HInv.start : HInv (List.replicate 32 (-1)) [] (List.replicate 32 0) (fun _ => []) (fun _ => []) := by
  refine ⟨by simp, fun i hi => ?_, ⟨by simp, .nil⟩, by simp, by simp, fun i hi => ?_, by simp, fun i hi h => ?_, ?_, fun _ => rfl, fun t j _ _ h => by simp at h⟩
  · rw [List.getD_eq_getElem?_getD, List.getElem?_replicate, if_pos hi]; decide
  · rw [List.getD_eq_getElem?_getD, List.getElem?_replicate, if_pos hi]; decide
  · rw [List.getD_eq_getElem?_getD, List.getElem?_replicate, if_pos hi] at h; exact absurd rfl h
  · show 0 ≤ roomUp _ _ (0 * 32) 32
    rw [show 0 * 32 = 0 from rfl, roomUp_zero 32 (by omega)]; decide
theorem HInv.most_rng {L : List Int} {H : List DHold} {W : List Int} {I O : Nat → List Int} (h : HInv L H W I O) (id : Int) : 0 ≤ mostL H id 0 ∧ mostL H id 0 ≤ 1000 := most_range h.hd.all
def ownFree (W : List Int) (t : Nat) : Nat → List Int
  | 0 => W
  | k + 1 => if (ownFree W t k).getD k 0 = t then (ownFree W t k).set k 0 else ownFree W t k
theorem ownFree_len (W : List Int) (t : Nat) : ∀ k, (ownFree W t k).length = W.length
  | 0 => rfl
  | k + 1 => by simp only [ownFree]; split <;> simp [ownFree_len W t k]
theorem ownFree_at (W : List Int) (t : Nat) (hW : W.length = 32) (j : Nat) : ∀ k, k ≤ 32 → (ownFree W t k).getD j 0 = if j < k ∧ W.getD j 0 = t then 0 else W.getD j 0
  | 0, _ => by rw [if_neg (by omega)]; rfl
  | k + 1, hk => by
    have ih := ownFree_at W t hW j k (by omega)
    have ihk := ownFree_at W t hW k k (by omega)
    rw [if_neg (by omega)] at ihk
    simp only [ownFree]
    rw [ihk]
    by_cases hc : W.getD k 0 = t
    · rw [if_pos hc, List.getD_eq_getElem?_getD, List.getElem?_set, ownFree_len, hW]
      by_cases he : k = j
      · subst he
        rw [if_pos rfl, if_pos (by omega), if_pos ⟨by omega, hc⟩]; rfl
      · rw [if_neg he, ← List.getD_eq_getElem?_getD, ih]
        by_cases hj : j < k ∧ W.getD j 0 = t
        · rw [if_pos hj, if_pos ⟨by omega, hj.2⟩]
        · rw [if_neg hj, if_neg (fun hq => hj ⟨by omega, hq.2⟩)]
    · rw [if_neg hc, ih]
      by_cases hj : j < k ∧ W.getD j 0 = t
      · rw [if_pos hj, if_pos ⟨by omega, hj.2⟩]
      · rw [if_neg hj]
        by_cases he : j = k
        · subst he; rw [if_neg (fun hq => hc hq.2)]
        · rw [if_neg (fun hq => hj ⟨by omega, hq.2⟩)]
def upd (f : Nat → List Int) (t : Nat) (v : List Int) : Nat → List Int := fun s => if s = t then v else f s
theorem HInv.free {L : List Int} {H : List DHold} {W : List Int} {I O : Nat → List Int} (h : HInv L H W I O) (t : Nat) (h1 : 1 ≤ t) (h3 : t ≤ 3) :
    HInv L (H.filter (fun x => !decide (x.Txn = (t : Int)))) (ownFree W t 32) (upd I t []) (upd O t []) := by
  have hf : HdOK (H.filter (fun x => !decide (x.Txn = (t : Int)))) := h.hd.filter _
  have hat : ∀ j, j < 32 → (ownFree W t 32).getD j 0 = if W.getD j 0 = t then 0 else W.getD j 0 := fun j hj => by
    rw [ownFree_at W t h.wlen j 32 (Nat.le_refl _)]
    by_cases hc : W.getD j 0 = t
    · rw [if_pos ⟨hj, hc⟩, if_pos hc]
    · rw [if_neg (fun hq => hc hq.2), if_neg hc]
  have hid : ∀ x ∈ H, 0 ≤ x.Id ∧ x.Id ≤ 8 := fun x hx => ⟨(holdOK_iff.1 (h.hd.ok x hx)).1.1, h.ids x hx⟩
  have hmost : ∀ i : Nat, i < 32 → mostL (H.filter (fun x => !decide (x.Txn = (t : Int)))) i 0 = if W.getD i 0 = t then 0 else mostL H i 0 := fun i hi => by
    rcases h.hd.most_ways i 0 with ⟨x, hx, e1, e2⟩ | ⟨hn, e2⟩
    · have ho := h.own x hx
      rw [e1, Int.toNat_natCast] at ho
      by_cases hc : W.getD i 0 = t
      · rw [if_pos hc]
        refine most_no fun y hy hq => ?_
        have hy' := List.mem_filter.1 hy
        have ho2 := h.own y hy'.1
        rw [hq, Int.toNat_natCast, hc] at ho2
        simp [← ho2] at hy'
      · rw [if_neg hc, e2]
        have hx' : x ∈ H.filter (fun x => !decide (x.Txn = (t : Int))) := by
          rw [List.mem_filter]
          refine ⟨hx, ?_⟩
          rw [← ho]
          simpa using hc
        have := hf.most hx' 0
        rw [e1] at this
        exact this
    · rw [e2]
      have : mostL (H.filter (fun x => !decide (x.Txn = (t : Int)))) i 0 = 0 := most_no fun y hy => hn y (List.mem_filter.1 hy).1
      rw [this]; split <;> rfl
  refine ⟨h.len, h.rng, hf, fun x hx => h.ids x (List.mem_filter.1 hx).1, by rw [ownFree_len]; exact h.wlen, fun i hi => ?_, fun x hx => ?_, fun i hi hw => ?_, ?_, fun s => ?_, fun s j a b hj => ?_⟩
  · rw [hat i hi]; have := h.wr i hi; split <;> omega
  · have hx' := List.mem_filter.1 hx
    have hi := hid x hx'.1
    rw [hat _ (by omega), h.own x hx'.1, if_neg]
    intro hq
    simp [hq] at hx'
  · rw [hat i hi] at hw
    by_cases hc : W.getD i 0 = t
    · rw [if_pos hc] at hw; exact absurd rfl hw
    · rw [if_neg hc] at hw
      rw [hmost i hi, if_neg hc]; exact h.low i hi hw
  · refine Int.le_trans h.room ?_
    unfold roomL
    refine roomUp_mono (fun i hi => ?_) 32 (Nat.le_refl _)
    have := h.most_rng i
    rw [need_eq, need_eq, hmost i hi]
    split <;> omega
  · unfold upd; split
    · rfl
    · exact h.same s
  · unfold upd at hj ⊢
    by_cases hs : s = t
    · rw [if_pos hs] at hj; simp at hj
    · rw [if_neg hs] at hj ⊢
      rw [if_neg hs]
      obtain ⟨id, e1, e2, e3, o, e4, e5, e6, e7⟩ := h.ent s j a b hj
      have hns : ¬ W.getD id 0 = t := by rw [e3]; omega
      exact ⟨id, e1, e2, by rw [hat id (by omega), if_neg hns, e3], o, e4, e5, e6, by rw [hmost id (by omega), if_neg hns]; exact e7⟩
theorem roomL0 (L : List Int) (H : List DHold) : roomL L H 0 = roomUp L H 0 32 := rfl
theorem roomForB_low {L : List Int} {H : List DHold} {id : Nat} {len : Int} (hi : id < 32) (h : roomForB L H id len = true) : max 0 (len - need L H id) ≤ roomL L H 0 := by
  have e : id / 32 = 0 := by omega
  unfold roomForB at h
  rw [e] at h
  exact of_decide_eq_true h
theorem room_take {L L' : List Int} {H H' : List DHold} {len : Int} (h : 0 ≤ roomL L H 0) (id : Nat) (hi : id < 32) (hr : len < 0 ∨ roomForB L H id len = true) (hn : 0 ≤ mostL H id 0) (h1 : ∀ i, i < 32 → i ≠ id → need L' H' i = need L H i) (h2 : need L' H' id ≤ need L H id + max 0 (len - need L H id)) : 0 ≤ roomL L' H' 0 := by
  have hle : max 0 (len - need L H id) ≤ roomL L H 0 := by
    rcases hr with hr | hr
    · have : max 0 (len - need L H id) = 0 := by rw [need_eq]; omega
      rw [this]; exact h
    · exact roomForB_low hi hr
  have := (roomUp_one (L := L) (L' := L') (H := H) (H' := H') id _ (Int.le_max_left _ _) h1 h2 32 (Nat.le_refl _)).1
  rw [roomL0] at hle ⊢
  generalize roomUp L H 0 32 = x at *
  generalize roomUp L' H' 0 32 = y at *
  omega
theorem HInv.take {L : List Int} {H : List DHold} {W : List Int} {I O : Nat → List Int} (h : HInv L H W I O) (hl : H.length ≤ 511) (t id : Nat) (len : Int) (h1 : 1 ≤ t) (h3 : t ≤ 3) (hi : id ≤ 8) (hlen : -1 ≤ len ∧ len ≤ 1000)
    (hw : W.getD id 0 = 0 ∨ W.getD id 0 = t) (hr : len < 0 ∨ roomForB L H id len = true) :
    HInv (L.set id len) (holdTake H t id (L.getD id 0) len) (W.set id t) (upd I t (I t ++ [(id : Int)])) (upd O t (O t ++ [L.getD id 0])) ∧ 1 ≤ (holdTake H t id (L.getD id 0) len).length ∧ (holdTake H t id (L.getD id 0) len).length ≤ H.length + 1 := by
  have hb := h.rng id (by omega)
  have ho := takeOK_of h.hd (by omega) (t := t) (id := id) (b := L.getD id 0) (a := len) (by omega) (by omega) hb hlen
  have hd' := h.hd.take ho (by omega) (by omega) hb hlen
  have hm := take_most h.hd ho (by omega) (by omega) hb hlen
  have hLat : ∀ i, (L.set id len).getD i 0 = if i = id then len else L.getD i 0 := fun i => by
    rw [List.getD_eq_getElem?_getD, List.getElem?_set, h.len]
    by_cases he : id = i
    · rw [if_pos he, if_pos (by omega), if_pos he.symm]; rfl
    · rw [if_neg he, if_neg (fun e => he e.symm), List.getD_eq_getElem?_getD]
  have hWat : ∀ i, (W.set id (t : Int)).getD i 0 = if i = id then (t : Int) else W.getD i 0 := fun i => by
    rw [List.getD_eq_getElem?_getD, List.getElem?_set, h.wlen]
    by_cases he : id = i
    · rw [if_pos he, if_pos (by omega), if_pos he.symm]; rfl
    · rw [if_neg he, if_neg (fun e => he e.symm), List.getD_eq_getElem?_getD]
  have hmi : ∀ i : Nat, mostL (holdTake H t id (L.getD id 0) len) i 0 = if i = id then max (max (mostL H id 0) 0) (max (L.getD id 0) len) else mostL H i 0 := fun i => by
    rw [hm i]
    by_cases he : i = id
    · rw [if_pos he, if_pos (by omega)]
    · rw [if_neg he, if_neg (by omega)]
  have hup : ∀ i : Nat, mostL H i 0 ≤ mostL (holdTake H t id (L.getD id 0) len) i 0 := fun i => by
    rw [hmi i]
    by_cases he : i = id
    · rw [if_pos he, he]; omega
    · rw [if_neg he]; exact Int.le_refl _
  have hlens := take_len ho
  refine ⟨⟨by rw [List.length_set]; exact h.len, fun i hi' => ?_, hd', fun x hx => ?_, by rw [List.length_set]; exact h.wlen, fun i hi' => ?_, fun x hx => ?_, fun i hi' hwi => ?_, ?_, fun s => ?_, fun s j a b hj => ?_⟩, hlens.1, hlens.2⟩
  · rw [hLat i]; split
    · exact hlen
    · exact h.rng i hi'
  · rcases (mem_take ho).1 hx with rfl | ⟨hx, -⟩
    · simp only [takeNew]; omega
    · exact h.ids x hx
  · rw [hWat i]; split
    · omega
    · exact h.wr i hi'
  · rcases (mem_take ho).1 hx with rfl | ⟨hx, hne⟩
    · simp only [takeNew, Int.toNat_natCast]
      rw [hWat id, if_pos rfl]
    · have := (holdOK_iff.1 (h.hd.ok x hx)).1
      rw [hWat, if_neg (by omega)]
      exact h.own x hx
  · rw [hLat i, hmi i]
    by_cases he : i = id
    · rw [if_pos he, if_pos he]; omega
    · rw [if_neg he, if_neg he]
      rw [hWat i, if_neg he] at hwi
      exact h.low i hi' hwi
  · refine room_take h.room id (by omega) hr (h.most_rng (id : Int)).1 (fun i hi' hne => by rw [need_eq, need_eq, hLat i, if_neg hne, hmi i, if_neg hne]) ?_
    rw [need_eq, need_eq, hLat id, if_pos rfl, hmi id, if_pos rfl]
    clear hLat hWat hmi hup hm ho
    omega
  · unfold upd; split
    · rename_i hs; rw [List.length_append, List.length_append, h.same t]; rfl
    · exact h.same s
  · unfold upd at hj ⊢
    by_cases hs : s = t
    · subst hs
      rw [if_pos rfl] at hj ⊢
      rw [if_pos rfl]
      rw [List.length_append, List.length_singleton] at hj
      by_cases hjl : j < (I s).length
      · obtain ⟨i, e1, e2, e3, o, e4, e5, e6, e7⟩ := h.ent s j a b hjl
        refine ⟨i, by rw [List.getElem?_append_left hjl]; exact e1, e2, ?_, o, by rw [List.getElem?_append_left (by rw [h.same s]; exact hjl)]; exact e4, e5, e6, Int.le_trans e7 (hup i)⟩
        rw [hWat i]; split
        · rfl
        · exact e3
      · have hje : j = (I s).length := by omega
        subst hje
        refine ⟨id, by rw [List.getElem?_append_right (Nat.le_refl _), Nat.sub_self]; rfl, hi, by rw [hWat id, if_pos rfl], _, by rw [List.getElem?_append_right (by rw [h.same s]; exact Nat.le_refl _), h.same s, Nat.sub_self]; rfl, hb.1, hb.2, ?_⟩
        rw [hmi id, if_pos rfl]; omega
    · rw [if_neg hs] at hj ⊢
      rw [if_neg hs]
      obtain ⟨i, e1, e2, e3, o, e4, e5, e6, e7⟩ := h.ent s j a b hj
      have hne : i ≠ id := by
        rintro rfl
        rw [e3] at hw
        omega
      exact ⟨i, e1, e2, by rw [hWat i, if_neg hne, e3], o, e4, e5, e6, Int.le_trans e7 (hup i)⟩
/-- While changes are given up. -/
structure HInv2 (L : List Int) (H : List DHold) (I O : Nat → List Int) : Prop where
  len : L.length = 32
  rng : ∀ i, i < 32 → -1 ≤ L.getD i 0 ∧ L.getD i 0 ≤ 1000
  mr : ∀ id : Int, 0 ≤ mostL H id 0 ∧ mostL H id 0 ≤ 1000
  room : 0 ≤ roomL L H 0
  same : ∀ t, (O t).length = (I t).length
  ent : ∀ t j, 1 ≤ t → t ≤ 3 → j < (I t).length → ∃ id : Nat, (I t)[j]? = some (id : Int) ∧ id ≤ 8 ∧ ∃ o, (O t)[j]? = some o ∧ -1 ≤ o ∧ o ≤ 1000 ∧ o ≤ mostL H id 0
theorem HInv.two {L : List Int} {H : List DHold} {W : List Int} {I O : Nat → List Int} (h : HInv L H W I O) : HInv2 L H I O :=
  ⟨h.len, h.rng, h.most_rng, h.room, h.same, fun t j a b hj => by
    obtain ⟨id, e1, e2, -, e4⟩ := h.ent t j a b hj
    exact ⟨id, e1, e2, e4⟩⟩
theorem HInv2.undo {L : List Int} {H : List DHold} {I O : Nat → List Int} (h : HInv2 L H I O) (t n id : Nat) (o : Int) (h1 : 1 ≤ t) (h3 : t ≤ 3) (hn : (I t).length = n + 1) (hid : (I t)[n]? = some (id : Int)) (ho : (O t)[n]? = some o) :
    HInv2 (L.set id o) H (upd I t ((I t).take n)) (upd O t ((O t).take n)) := by
  obtain ⟨id', e1, e2, o', e4, e5, e6, e7⟩ := h.ent t n h1 h3 (by omega)
  rw [hid] at e1
  rw [ho] at e4
  injection e1 with e1
  injection e4 with e4
  subst e4
  obtain rfl : id = id' := by omega
  have hLat : ∀ i, (L.set id o).getD i 0 = if i = id then o else L.getD i 0 := fun i => by
    rw [List.getD_eq_getElem?_getD, List.getElem?_set, h.len]
    by_cases he : id = i
    · rw [if_pos he, if_pos (by omega), if_pos he.symm]; rfl
    · rw [if_neg he, if_neg (fun e => he e.symm), List.getD_eq_getElem?_getD]
  refine ⟨by rw [List.length_set]; exact h.len, fun i hi' => ?_, h.mr, ?_, fun s => ?_, fun s j a b hj => ?_⟩
  · rw [hLat i]; split
    · exact ⟨e5, e6⟩
    · exact h.rng i hi'
  · refine Int.le_trans h.room ?_
    unfold roomL
    refine roomUp_mono (fun i hi => ?_) 32 (Nat.le_refl _)
    have := h.mr id
    rw [need_eq, need_eq, hLat i]
    by_cases he : i = id
    · rw [if_pos he, he]; omega
    · rw [if_neg he]; exact Int.le_refl _
  · unfold upd; split
    · rw [List.length_take, List.length_take, h.same t]
    · exact h.same s
  · unfold upd at hj ⊢
    by_cases hs : s = t
    · subst hs
      rw [if_pos rfl] at hj ⊢
      rw [if_pos rfl]
      rw [List.length_take] at hj
      obtain ⟨i, a1, a2, o2, a4, a5⟩ := h.ent s j a b (by omega)
      exact ⟨i, by rw [List.getElem?_take, if_pos (by omega)]; exact a1, a2, o2, by rw [List.getElem?_take, if_pos (by omega)]; exact a4, a5⟩
    · rw [if_neg hs] at hj ⊢
      rw [if_neg hs]
      exact h.ent s j a b hj
theorem HInv2.fit {L : List Int} {H : List DHold} {I O : Nat → List Int} (h : HInv2 L H I O) : 0 ≤ fitUp L 32 ∧ fitUp L 32 ≤ 3948 := by
  have h1 := fitUp_room L H 32
  have h2 := h.room
  unfold roomL at h2
  rw [show 0 * 32 = 0 from rfl] at h2
  omega
end Go.Proofs.Ytildfjlekplgjaa
