/- A slice of the call's own that grows: its cells, its blocks, all from number n on. -/
import Derived.Test.YtdjcfcgkldokgaaA
import Derived.WalkSpells
import Derived.Maps.AppendAt
namespace Go.Proofs.Ytdjcfcgkldokgaa
open Go.RowKit

/-- v is nil or at the head of a block of the call's own (from number n on), and reads as xs; all its blocks are from n on, no two one, none frozen. -/
def Own {α : Type} (r : Rep α) (e : TypeId) (n : Nat) (w : World) (v : Value) (xs : List α) : Prop :=
  ∃ cs G, w.ownsRow n e r.sz v xs.length cs ∧ r.cells w xs cs G ∧ (∀ g, v.ownBlock = some g → g ∉ G) ∧ NewIn n w G ∧ n ≤ w.heap.size
section
variable {α : Type} {r : Rep α} {e : TypeId} {n : Nat} {w w' w2 : World} {v : Value} {xs : List α} {F G H : List Nat}
theorem Own.nil (h : n ≤ w.heap.size) : Own r e n w (.slice none 0 0) [] :=
  ⟨[], [], World.ownsRow_nil w n e r.sz, ⟨rfl, rfl⟩, by simp, NewIn.nil _ _, h⟩
theorem Own.made (h : n ≤ w.heap.size) (cur : Array Value) (cap : Nat) (hm : cap ≤ maxLen) (hs : cur.size = cap * r.sz) : Own r e n (w.alloc (.cells cur e)) (.slice (some ⟨w.heap.size, 0, none⟩) 0 cap) [] :=
  ⟨[], [], World.ownsRow_made w cur cap h hm hs, ⟨rfl, rfl⟩, by simp, NewIn.nil _ _, by simp; omega⟩
theorem ownsRow_only {cs : List Value} {sz k : Nat} (h : w.ownsRow n e sz v k cs) (hk : Only H w w') (hH : ∀ g ∈ H, g < n ∨ w.heap.size ≤ g) : w'.ownsRow n e sz v k cs := by
  refine ⟨h.1, ?_⟩
  rcases h.2 with h | ⟨g, cap, cur, rfl, hb, hgg, rest⟩
  · exact .inl h
  · refine .inr ⟨g, cap, cur, rfl, hb, hk.heap hgg (fun hg => ?_), rest⟩
    have := (Array.getElem?_eq_some_iff.1 hgg).1
    rcases hH g hg with h | h <;> omega
theorem NewIn.keep (h : NewIn n w G) (hk : Only H w w') (hH : ∀ g ∈ H, g < n ∨ w.heap.size ≤ g) : NewIn n w' G :=
  ⟨h.ge, fun g hg => Nat.lt_of_lt_of_le (h.lt g hg) hk.size, h.nodup, fun g hg j => (World.frozen?_of_block (a := ⟨g, j, none⟩) (hk.block g (h.lt g hg) (fun hb => by
    have h1 := h.ge g hg; have h2 := h.lt g hg
    rcases hH g hb with h | h <;> omega))).trans (h.unfr g hg j)⟩
theorem cells_only {cs : List Value} (h : r.cells w xs cs G) (hG : NewIn n w G) (hk : Only H w w') (hH : ∀ g ∈ H, g < n ∨ w.heap.size ≤ g) : r.cells w' xs cs G :=
  Rep.cells_keep h fun b hb => hk.block b (hG.lt b hb) (fun hg => by
    have h1 := hG.ge b hb; have h2 := hG.lt b hb
    rcases hH b hg with h | h <;> omega)
theorem Own.keep (h : Own r e n w v xs) (hk : Only H w w') (hH : ∀ g ∈ H, g < n ∨ w.heap.size ≤ g) : Own r e n w' v xs := by
  obtain ⟨cs, G, h1, h2, h3, h4, h5⟩ := h
  exact ⟨cs, G, ownsRow_only h1 hk hH, cells_only h2 h4 hk hH, h3, h4.keep hk hH, Nat.le_trans h5 hk.size⟩
theorem Own.ext (h : Own r e n w v xs) (hk : Ext w w') : Own r e n w' v xs := h.keep hk (by simp)
theorem Own.form (h : Own r e n w v xs) : ∃ A c, v = .slice A xs.length c ∧ c ≤ maxLen := by
  obtain ⟨cs, G, ⟨_, ⟨rfl, h⟩ | ⟨g, cap, cur, rfl, _, _, _, hm, _⟩⟩, _⟩ := h
  · exact ⟨none, 0, by rw [h], by simp⟩
  · exact ⟨_, _, rfl, hm⟩
theorem Own.le (h : Own r e n w v xs) : n ≤ w.heap.size := by obtain ⟨_, _, _, _, _, _, h⟩ := h; exact h
/-- One element more. -/
theorem Own.app {x : α} {c : List Value} (h : Own r e n w v xs) (hk : Only H w w2) (hH : ∀ g ∈ H, g < n ∨ w.heap.size ≤ g) (hF : NewIn w.heap.size w2 F) (hx : r.R w2 x c F) :
    ∃ cs, w2.ownsRow n e r.sz v xs.length cs ∧ n ≤ w2.heap.size ∧ ∀ v' w3, w3.ownsRow n e r.sz v' (xs.length + 1) (cs ++ c) → w2.grownBy w3 v.ownBlock → (v'.ownBlock = v.ownBlock ∨ v'.ownBlock = some w2.heap.size) →
      Own r e n w3 v' (xs ++ [x]) ∧ ∀ F0 W0, Only F0 W0 w2 → W0.heap.size ≤ n → Only F0 W0 w3 := by
  obtain ⟨cs, G, h1, h2, h3, h4, h5⟩ := h
  have k1 := ownsRow_only h1 hk hH
  have k2 := cells_only h2 h4 hk hH
  have k4 := h4.keep hk hH
  have hl := h1.lt
  have hs := hk.size
  refine ⟨cs, k1, by omega, fun v' w3 ho hg hat => ⟨⟨cs ++ c, G ++ F, by simpa using ho, Rep.cells_snoc (Rep.cells_keep k2 fun b hb => ?_) (r.keep hx fun b hb => ?_), fun g hg' hm => ?_, ⟨fun g hm => ?_, fun g hm => ?_, ?_, fun g hm j => ?_⟩, by have := hg.size; omega⟩, fun F0 W0 hO hn => ?_⟩⟩
  · exact hg.block b (k4.lt b hb) (fun he => h3 b he.symm hb)
  · exact hg.block b (hF.lt b hb) (fun he => by have := hl b he.symm; have := hF.ge b hb; omega)
  · rcases hat with hat | hat
    · rw [hat] at hg'
      rcases List.mem_append.1 hm with hm | hm
      · exact h3 g hg' hm
      · have := hl g hg'; have := hF.ge g hm; omega
    · rw [hat] at hg'
      injection hg' with hg'
      subst hg'
      rcases List.mem_append.1 hm with hm | hm
      · exact Nat.lt_irrefl _ (k4.lt _ hm)
      · exact Nat.lt_irrefl _ (hF.lt _ hm)
  · rcases List.mem_append.1 hm with hm | hm
    · exact h4.ge g hm
    · have := hF.ge g hm; omega
  · have hs2 := hg.size
    rcases List.mem_append.1 hm with hm | hm
    · have := k4.lt g hm; omega
    · have := hF.lt g hm; omega
  · refine List.nodup_append.2 ⟨h4.nodup, hF.nodup, fun a ha b hb he => ?_⟩
    subst he
    have := h4.lt a ha; have := hF.ge a hb; omega
  · rcases List.mem_append.1 hm with hm | hm
    · exact (World.frozen?_of_block (a := ⟨g, j, none⟩) (hg.block g (k4.lt g hm) (fun he => h3 g he.symm hm))).trans (k4.unfr g hm j)
    · exact (World.frozen?_of_block (a := ⟨g, j, none⟩) (hg.block g (hF.lt g hm) (fun he => by have := hl g he.symm; have := hF.ge g hm; omega))).trans (hF.unfr g hm j)
  · exact hO.grown hg (fun g he hlt => by have := hl g he; omega)
theorem Own.done (h : Own r e n w v xs) : ∃ F, r.slice.V w v xs F ∧ NewIn n w F := by
  obtain ⟨cs, G, h1, h2, h3, h4, h5⟩ := h
  rcases h1.2 with ⟨rfl, h0⟩ | ⟨g, cap, cur, rfl, hb, hgg, hn, hm, hsz, htake⟩
  · obtain rfl : xs = [] := List.eq_nil_of_length_eq_zero h0
    exact ⟨[], Rep.slice_mk (xs := []) (Rep.sl_nil (by simp)), NewIn.nil _ _⟩
  · have hg := (Array.getElem?_eq_some_iff.1 hgg).1
    refine ⟨g :: G, Rep.slice_mk ⟨hn, hm, .inr ⟨g, 0, G, cs, rfl, rfl, hg, h2, fun j u hu => ?_⟩⟩, ⟨fun b hb' => ?_, fun b hb' => ?_, List.nodup_cons.2 ⟨h3 g rfl, h4.nodup⟩, fun b hb' j => ?_⟩⟩
    · have := h1.cells (g := g) rfl j u hu
      rwa [show (⟨g, 0, none⟩ : Addr).add j = ⟨g, 0 + j, none⟩ by unfold Addr.add; split <;> simp_all] at this
    · rcases List.mem_cons.1 hb' with rfl | hb'
      · exact hb
      · exact h4.ge b hb'
    · rcases List.mem_cons.1 hb' with rfl | hb'
      · exact hg
      · exact h4.lt b hb'
    · rcases List.mem_cons.1 hb' with rfl | hb'
      · exact frozen_of_row _ _ _ _ _ hgg
      · exact h4.unfr b hb' j
end
section
variable {α : Type} {r : Rep α} {w w0 w' : World} {A : Option Addr} {c g off sz : Nat} {xs : List α} {F G : List Nat} {d : List Value}
theorem Foc.ext (h : Foc w0 w g off sz F G d) (hk : Ext w w') (hl : ∀ b ∈ F, b < w0.heap.size) : Foc w0 w' g off sz F G d where
  only := h.only.ext hk
  lt := Nat.lt_of_lt_of_le h.lt hk.size
  cell := fun j u hu => hk.ecell (h.cell j u hu)
  len := h.len
  rest := fun j hj => (World.cell?_of_block (a := ⟨g, j, none⟩) (hk.block g h.lt (by simp))).trans (h.rest j hj)
  block := fun b hb hne hbG => (hk.block b (Nat.lt_of_lt_of_le (hl b hb) h.only.size) (by simp)).trans (h.block b hb hne hbG)
  unfr := h.unfr.ext hk (fun b hb => Nat.lt_of_lt_of_le (hl b hb) h.only.size)
/-- An element taken out of a list whose blocks are the call's own; the list with another element in its place, which may stand on blocks of its own. -/
theorem Rep.sl_foc2 (h : r.sl w A c xs F) (hn : F.Nodup) (hu : Unfr w F) (i : Nat) (hi : i < xs.length) :
    ∃ g off d G, A = some ⟨g, off, none⟩ ∧ g ∈ F ∧ g ∉ G ∧ (∀ b ∈ G, b ∈ F) ∧ G.Nodup ∧ r.R w xs[i] d G ∧ Foc w w g (off + i * r.sz) r.sz F G d ∧
      ∀ (w' : World) (x' : α) (d' : List Value) (G' : List Nat), Foc w w' g (off + i * r.sz) r.sz F G d' → r.R w' x' d' G' → g ∉ G' → G'.Nodup → Unfr w' G' → (∀ b ∈ G', b ∈ F → b ∈ G) →
        ∃ F', r.sl w' A c (xs.set i x') F' ∧ F'.Nodup ∧ Unfr w' F' ∧ ∀ b ∈ F', b ∈ F ∨ b ∈ G' := by
  obtain ⟨hl, hm, ⟨rfl, _⟩ | ⟨g, off, G0, cs, rfl, rfl, hg, hr, hc⟩⟩ := id h
  · cases hi
  obtain ⟨c1, d, c2, F1, G, F2, rfl, rfl, hl1, h1, hx, h2⟩ := Rep.cells_split hr i hi
  have hd : d.length = r.sz := r.len hx
  have hn0 := hn
  simp only [List.nodup_cons, List.mem_append, List.nodup_append, List.append_assoc, not_or] at hn
  obtain ⟨⟨hg1, hgG, hg2⟩, hn1, ⟨hnG, hn2, hd2⟩, hd1⟩ := hn
  refine ⟨g, off, d, G, rfl, by simp, hgG, fun b hb => by simp [hb], hnG, hx, ⟨Only.refl _ _, hg, fun j u hj => ?_, hd, fun _ _ => rfl, fun _ _ _ _ => rfl, hu⟩, fun w' x' d' G' hf hR hgG' hnG' huG' hdis => ?_⟩
  · have hjl : j < d.length := (List.getElem?_eq_some_iff.1 hj).1
    have := hc (i * r.sz + j) u (by rw [List.append_assoc, List.getElem?_append_right (by omega), hl1, Nat.add_sub_cancel_left, List.getElem?_append_left hjl, hj])
    rwa [← Nat.add_assoc] at this
  have hld' : d'.length = r.sz := r.len hR
  refine ⟨g :: (F1 ++ (G' ++ F2)), ⟨by simpa using hl, hm, .inr ⟨g, off, _, c1 ++ d' ++ c2, rfl, rfl, hf.lt, ?_, fun j u hu' => ?_⟩⟩, ?_, fun b hb j => ?_, fun b hb => ?_⟩
  · have e : xs.set i x' = xs.take i ++ ([x'] ++ xs.drop (i + 1)) := by
      rw [List.set_eq_take_append_cons_drop, if_pos hi]; simp
    rw [e, List.append_assoc]
    refine Rep.cells_append.2 ⟨_, _, _, _, rfl, rfl, ?_, Rep.cells_append.2 ⟨_, _, _, _, rfl, rfl, Rep.cells_one.2 hR, ?_⟩⟩
    · exact Rep.cells_keep h1 fun b hb1 => hf.block b (by simp [hb1]) (fun e => hg1 (e ▸ hb1)) (fun hG => hd1 b hb1 b (.inl hG) rfl)
    · exact Rep.cells_keep h2 fun b hb2 => hf.block b (by simp [hb2]) (fun e => hg2 (e ▸ hb2)) (fun hG => hd2 b hG b hb2 rfl)
  · by_cases hj1 : j < i * r.sz
    · rw [hf.rest (off + j) (by omega)]
      refine hc j u ?_
      rw [List.append_assoc, List.getElem?_append_left (by omega)] at hu' ⊢
      exact hu'
    · by_cases hj2 : j < i * r.sz + r.sz
      · rw [List.append_assoc, List.getElem?_append_right (by omega), hl1, List.getElem?_append_left (by omega)] at hu'
        have := hf.cell _ _ hu'
        rwa [Nat.add_assoc, Nat.add_sub_cancel' (by omega)] at this
      · rw [hf.rest (off + j) (by omega)]
        refine hc j u ?_
        have e1 : (c1 ++ d').length = i * r.sz + r.sz := by simp [hl1, hld']
        have e2 : (c1 ++ d).length = i * r.sz + r.sz := by simp [hl1, hd]
        rw [List.getElem?_append_right (by omega), e1] at hu'
        rw [List.getElem?_append_right (by omega), e2]
        exact hu'
  · simp only [List.nodup_cons, List.mem_append, List.nodup_append, not_or]
    refine ⟨⟨hg1, hgG', hg2⟩, hn1, ⟨hnG', hn2, fun a ha b hb e => ?_⟩, fun a ha b hb e => ?_⟩
    · subst e; exact hd2 a (hdis a ha (by simp [hb])) a hb rfl
    · subst e
      rcases hb with hb | hb
      · exact hd1 a ha a (.inl (hdis a hb (by simp [ha]))) rfl
      · exact hd1 a ha a (.inr hb) rfl
  · simp only [List.mem_cons, List.mem_append] at hb
    rcases hb with rfl | hb | hb | hb
    · exact hf.unfr _ (by simp) j
    · exact hf.unfr _ (by simp [hb]) j
    · exact huG' b hb j
    · exact hf.unfr _ (by simp [hb]) j
  · simp only [List.mem_cons, List.mem_append] at hb ⊢
    rcases hb with rfl | hb | hb | hb <;> simp [*]
end
theorem Only.efroz {w w' : World} (h : Ext w w') {p : Addr} (hp : p.block < w.heap.size) (hf : w.frozen? p = false) : w'.frozen? p = false :=
  (World.frozen?_of_block (h.block p.block hp (by simp))).trans hf
theorem ownsRow_form {w : World} {n : Nat} {e : TypeId} {sz k : Nat} {v : Value} {cs : List Value} (h : w.ownsRow n e sz v k cs) : ∃ A c, v = .slice A k c := by
  rcases h.2 with ⟨rfl, rfl⟩ | ⟨g, cap, cur, rfl, _⟩
  · exact ⟨none, 0, rfl⟩
  · exact ⟨_, _, rfl⟩
theorem heap_at (w : World) (o : Obj) {k : Nat} (hk : k = w.heap.size) : (w.alloc o).heap[k]? = some o := by subst hk; exact heap_alloc_new _ _
theorem cells_new (vs : List Value) (w : World) (t : TypeId) : ∀ j u, vs[j]? = some u → (w.alloc (.cells vs.toArray t)).cell? ((⟨w.heap.size, 0, none⟩ : Addr).add j) = some u := by
  intro j u hj
  have : (⟨w.heap.size, 0, none⟩ : Addr).add j = ⟨w.heap.size, j, none⟩ := by unfold Addr.add; split <;> simp_all
  rw [this, cell_of_row _ _ _ _ _ _ (heap_alloc_new w _)]
  simpa using hj
theorem cells_new' (vs : List Value) (w : World) (t : TypeId) {k : Nat} (hk : k = w.heap.size) : ∀ j u, vs[j]? = some u → (w.alloc (.cells vs.toArray t)).cell? ((⟨k, 0, none⟩ : Addr).add j) = some u := by subst hk; exact cells_new vs w t
theorem sl_ints {k : IntKind} {w : World} {A : Option Addr} {c : Nat} {xs : List Int} {F : List Nat} (h : (Rep.int k).sl w A c xs F) (hx : xs ≠ []) :
    ∃ g off, A = some ⟨g, off, none⟩ ∧ g < w.heap.size ∧ ∀ j u, (xs.map (Value.int k))[j]? = some u → w.cell? ((⟨g, off, none⟩ : Addr).add j) = some u := by
  obtain ⟨g, off, rfl, hg, -⟩ := Rep.sl_int h 0 (List.length_pos_iff.2 hx)
  refine ⟨g, off, rfl, hg, fun j u hu => ?_⟩
  have hj : j < xs.length := by have := (List.getElem?_eq_some_iff.1 hu).1; simpa using this
  obtain ⟨g', off', e, _, _, hc, _⟩ := Rep.sl_int h j hj
  injection e with e
  injection e with e1 e2
  subst e1; subst e2
  have e3 : (⟨g, off, none⟩ : Addr).add j = ⟨g, off + j, none⟩ := by unfold Addr.add; split <;> simp_all
  rw [e3, hc]
  simp [hj] at hu
  rw [hu]
end Go.Proofs.Ytdjcfcgkldokgaa
