/- A disk of the call's own beside a box: its blocks meet a condition. -/
import Derived.Test.YtdjcfcgkldokgaaD9
namespace Go.Proofs.Ytdjcfcgkldokgaa
open Go.RowKit
set_option linter.unusedSimpArgs false
set_option linter.unusedVariables false
/-- As Own, all its blocks with the property P. -/
def OwnP (P : Nat → Prop) {α : Type} (r : Rep α) (e : TypeId) (n : Nat) (w : World) (v : Value) (xs : List α) : Prop :=
  ∃ cs G, w.ownsRow n e r.sz v xs.length cs ∧ r.cells w xs cs G ∧ (∀ g, v.ownBlock = some g → g ∉ G ∧ P g) ∧ NewIn n w G ∧ (∀ g ∈ G, P g) ∧ n ≤ w.heap.size
section
variable {P Q : Nat → Prop} {α : Type} {r : Rep α} {e : TypeId} {n : Nat} {w w' w2 : World} {v : Value} {xs : List α} {F G H : List Nat}
theorem OwnP.of (h : Own r e n w v xs) (hP : ∀ g, n ≤ g → g < w.heap.size → P g) : OwnP P r e n w v xs := by
  obtain ⟨cs, G, h1, h2, h3, h4, h5⟩ := h
  exact ⟨cs, G, h1, h2, fun g hg => ⟨h3 g hg, hP g (h1.lt g hg).1 (h1.lt g hg).2⟩, h4, fun g hg => hP g (h4.ge g hg) (h4.lt g hg), h5⟩
theorem OwnP.own (h : OwnP P r e n w v xs) : Own r e n w v xs := by
  obtain ⟨cs, G, h1, h2, h3, h4, h5, h6⟩ := h
  exact ⟨cs, G, h1, h2, fun g hg => (h3 g hg).1, h4, h6⟩
theorem OwnP.imp (h : OwnP P r e n w v xs) (hPQ : ∀ g, P g → g < w.heap.size → Q g) : OwnP Q r e n w v xs := by
  obtain ⟨cs, G, h1, h2, h3, h4, h5, h6⟩ := h
  exact ⟨cs, G, h1, h2, fun g hg => ⟨(h3 g hg).1, hPQ g (h3 g hg).2 (h1.lt g hg).2⟩, h4, fun g hg => hPQ g (h5 g hg) (h4.lt g hg), h6⟩
theorem OwnP.nil (h : n ≤ w.heap.size) : OwnP P r e n w (.slice none 0 0) [] := ⟨[], [], World.ownsRow_nil w n e r.sz, ⟨rfl, rfl⟩, fun g hg => by simp [Value.ownBlock] at hg, NewIn.nil _ _, by simp, h⟩
theorem OwnP.keep (h : OwnP P r e n w v xs) (hk : Only H w w') (hH : ∀ g ∈ H, ¬ P g ∨ g < n ∨ w.heap.size ≤ g) : OwnP P r e n w' v xs := by
  obtain ⟨cs, G, h1, h2, h3, h4, h5, h6⟩ := h
  have hd : ∀ g ∈ G, g ∉ H := fun g hg hb => by
    have a1 := h4.ge g hg; have a2 := h4.lt g hg
    rcases hH g hb with h | h | h
    · exact h (h5 g hg)
    · omega
    · omega
  refine ⟨cs, G, ⟨h1.1, ?_⟩, Rep.cells_keep h2 fun b hb => hk.block b (h4.lt b hb) (hd b hb), h3, ⟨h4.ge, fun g hg => Nat.lt_of_lt_of_le (h4.lt g hg) hk.size, h4.nodup, Unfr.only h4.unfr hk h4.lt hd⟩, h5, Nat.le_trans h6 hk.size⟩
  rcases h1.2 with h | ⟨g, cap, cur, rfl, hb, hgg, rest⟩
  · exact .inl h
  · refine .inr ⟨g, cap, cur, rfl, hb, hk.heap hgg (fun hg => ?_), rest⟩
    have := (Array.getElem?_eq_some_iff.1 hgg).1
    rcases hH g hg with h | h | h
    · exact h (h3 g rfl).2
    · omega
    · omega
theorem OwnP.ext (h : OwnP P r e n w v xs) (hk : Ext w w') : OwnP P r e n w' v xs := h.keep hk (by simp)
/-- One element more. -/
theorem OwnP.app {x : α} {c : List Value} (h : OwnP P r e n w v xs) (hk : Only H w w2) (hH : ∀ g ∈ H, ¬ P g ∨ g < n ∨ w.heap.size ≤ g) (hF : NewIn w.heap.size w2 F) (hFP : ∀ g ∈ F, P g) (hP : P w2.heap.size) (hx : r.R w2 x c F) :
    ∃ cs, w2.ownsRow n e r.sz v xs.length cs ∧ n ≤ w2.heap.size ∧ (∀ g, v.ownBlock = some g → P g ∧ n ≤ g ∧ g < w.heap.size) ∧ ∀ v' w3, w3.ownsRow n e r.sz v' (xs.length + 1) (cs ++ c) → w2.grownBy w3 v.ownBlock → (v'.ownBlock = v.ownBlock ∨ v'.ownBlock = some w2.heap.size) →
      OwnP P r e n w3 v' (xs ++ [x]) := by
  have hlt0 : ∀ g, v.ownBlock = some g → P g ∧ n ≤ g ∧ g < w.heap.size := fun g hg => by
    obtain ⟨cs, G, h1, _, h3, _⟩ := h
    exact ⟨(h3 g hg).2, (h1.lt g hg).1, (h1.lt g hg).2⟩
  obtain ⟨cs, G, k1, k2, k3, k4, k5, k6⟩ := h.keep hk hH
  obtain ⟨cs0, G0, h1, h2, h3, h4, h5, h6⟩ := h
  have hs := hk.size
  have hGlt : ∀ g ∈ G, g < w.heap.size ∨ True := fun _ _ => .inr trivial
  -- the blocks of the elements that were there lie below w's heap
  have hG0 : ∃ G', r.cells w2 xs cs G' ∧ NewIn n w2 G' ∧ (∀ g ∈ G', P g ∧ g < w.heap.size) ∧ (∀ g, v.ownBlock = some g → g ∉ G') := by
    have hd : ∀ g ∈ G0, g ∉ H := fun g hg hb => by
      have a1 := h4.ge g hg; have a2 := h4.lt g hg
      rcases hH g hb with h | h | h
      · exact h (h5 g hg)
      · omega
      · omega
    have hcs : cs0 = cs := by
      have e1 := h1; have e2 := k1
      rcases h1.2 with ⟨rfl, h0⟩ | ⟨g, cap, cur, rfl, hb, hgg, hn', hm, hsz, htk⟩
      · obtain rfl : xs = [] := List.eq_nil_of_length_eq_zero h0
        have l1 := h1.1; have l2 := k1.1
        simp at l1 l2
        rw [l1, l2]
      · have hgH : g ∉ H := fun hg => by
          have := (Array.getElem?_eq_some_iff.1 hgg).1
          rcases hH g hg with h | h | h
          · exact h (h3 g rfl).2
          · omega
          · omega
        rcases k1.2 with ⟨h, _⟩ | ⟨g2, cap2, cur2, he2, hb2, hgg2, hn2, hm2, hsz2, htk2⟩
        · cases h
        · injection he2 with he2 _ he3
          injection he2 with he2
          injection he2 with he2
          subst he2
          have := (hk.heap hgg hgH).symm.trans hgg2
          injection this with this
          injection this with this
          subst this
          rw [← htk, ← htk2]
    subst hcs
    exact ⟨G0, Rep.cells_keep h2 fun b hb => hk.block b (h4.lt b hb) (hd b hb), ⟨h4.ge, fun g hg => Nat.lt_of_lt_of_le (h4.lt g hg) hs, h4.nodup, Unfr.only h4.unfr hk h4.lt hd⟩, fun g hg => ⟨h5 g hg, h4.lt g hg⟩, fun g hg => (h3 g hg).1⟩
  obtain ⟨G', g1, g2, g3, g4⟩ := hG0
  refine ⟨cs, k1, by omega, hlt0, fun v' w3 ho hg hat => ⟨cs ++ c, G' ++ F, by simpa using ho, Rep.cells_snoc (Rep.cells_keep g1 fun b hb => ?_) (r.keep hx fun b hb => ?_), fun g hg' => ⟨fun hm => ?_, ?_⟩, ⟨fun g hm => ?_, fun g hm => ?_, ?_, fun g hm j => ?_⟩, fun g hm => ?_, by have := hg.size; omega⟩⟩
  · exact hg.block b (g2.lt b hb) (fun he => g4 b he.symm hb)
  · exact hg.block b (hF.lt b hb) (fun he => by have := (hlt0 b he.symm).2.2; have := hF.ge b hb; omega)
  · rcases hat with hat | hat
    · rw [hat] at hg'
      rcases List.mem_append.1 hm with hm | hm
      · exact g4 g hg' hm
      · have := (hlt0 g hg').2.2; have := hF.ge g hm; omega
    · rw [hat] at hg'
      injection hg' with hg'
      subst hg'
      rcases List.mem_append.1 hm with hm | hm
      · exact Nat.lt_irrefl _ (g2.lt _ hm)
      · exact Nat.lt_irrefl _ (hF.lt _ hm)
  · rcases hat with hat | hat
    · rw [hat] at hg'; exact (hlt0 g hg').1
    · rw [hat] at hg'; injection hg' with hg'; subst hg'; exact hP
  · rcases List.mem_append.1 hm with hm | hm
    · exact g2.ge g hm
    · have := hF.ge g hm; omega
  · have hs2 := hg.size
    rcases List.mem_append.1 hm with hm | hm
    · have := g2.lt g hm; omega
    · have := hF.lt g hm; omega
  · refine List.nodup_append.2 ⟨g2.nodup, hF.nodup, fun a ha b hb he => ?_⟩
    subst he
    have := (g3 a ha).2; have := hF.ge a hb; omega
  · rcases List.mem_append.1 hm with hm | hm
    · exact (World.frozen?_of_block (a := ⟨g, j, none⟩) (hg.block g (g2.lt g hm) (fun he => g4 g he.symm hm))).trans (g2.unfr g hm j)
    · exact (World.frozen?_of_block (a := ⟨g, j, none⟩) (hg.block g (hF.lt g hm) (fun he => by have := (hlt0 g he.symm).2.2; have := hF.ge g hm; omega))).trans (hF.unfr g hm j)
  · rcases List.mem_append.1 hm with hm | hm
    · exact (g3 g hm).1
    · exact hFP g hm
theorem OwnP.done (h : OwnP P r e n w v xs) : ∃ F, r.slice.V w v xs F ∧ NewIn n w F ∧ ∀ g ∈ F, P g := by
  obtain ⟨cs, G, h1, h2, h3, h4, h5, h6⟩ := h
  have h1' := h1
  rcases h1.2 with ⟨rfl, h0⟩ | ⟨g, cap, cur, rfl, hb, hgg, hn, hm, hsz, htake⟩
  · obtain rfl : xs = [] := List.eq_nil_of_length_eq_zero h0
    exact ⟨[], Rep.slice_mk (xs := []) (Rep.sl_nil (by simp)), NewIn.nil _ _, by simp⟩
  · have hg := (Array.getElem?_eq_some_iff.1 hgg).1
    refine ⟨g :: G, Rep.slice_mk ⟨hn, hm, .inr ⟨g, 0, G, cs, rfl, rfl, hg, h2, fun j u hu => ?_⟩⟩, ⟨fun b hb' => ?_, fun b hb' => ?_, List.nodup_cons.2 ⟨(h3 g rfl).1, h4.nodup⟩, fun b hb' j => ?_⟩, fun b hb' => ?_⟩
    · have := h1'.cells (g := g) rfl j u hu
      rwa [show (⟨g, 0, none⟩ : Addr).add j = ⟨g, 0 + j, none⟩ by unfold Addr.add; split <;> simp_all] at this
    · rcases List.mem_cons.1 hb' with rfl | hb'
      · exact hb
      · exact h4.ge b hb'
    · rcases List.mem_cons.1 hb' with rfl | hb'
      · exact hg
      · exact h4.lt b hb'
    · rcases List.mem_cons.1 hb' with rfl | hb'
      · exact frozen_of_row _ _ _ _ _ hgg
      · exact h4.unfr b hb' j
    · rcases List.mem_cons.1 hb' with rfl | hb'
      · exact (h3 _ rfl).2
      · exact h5 b hb'
end
/-- As DiskOwn, all blocks with the property P. -/
def DiskP (P : Nat → Prop) (b n : Nat) (w : World) (A : Option Addr) (c : Nat) (pv : Value) (d : DDisk) : Prop :=
  ∃ F, (Rep.int .u8).sl w A c d.Durable F ∧ (∀ g ∈ F, b ≤ g ∧ g < n ∧ P g) ∧ F.Nodup ∧ Unfr w F ∧ OwnP P Rep.SectorWrite 64 n w pv d.Pending
section
variable {P Q : Nat → Prop} {b n : Nat} {w w' w0 : World} {A : Option Addr} {c : Nat} {pv : Value} {d : DDisk} {H : List Nat}
theorem DiskP.of (h : DiskOwn b n w A c pv d) (hP : ∀ g, b ≤ g → g < w.heap.size → P g) (hb : b ≤ n) : DiskP P b n w A c pv d := by
  obtain ⟨F, h1, h2, h3, h4, h5⟩ := h
  exact ⟨F, h1, fun g hg => ⟨(h2 g hg).1, (h2 g hg).2, hP g (h2 g hg).1 (Rep.sl_lt h1 g hg)⟩, h3, h4, OwnP.of h5 fun g hg => hP g (by omega)⟩
theorem DiskP.own (h : DiskP P b n w A c pv d) : DiskOwn b n w A c pv d := by
  obtain ⟨F, h1, h2, h3, h4, h5⟩ := h
  exact ⟨F, h1, fun g hg => ⟨(h2 g hg).1, (h2 g hg).2.1⟩, h3, h4, h5.own⟩
theorem DiskP.keep (h : DiskP P b n w A c pv d) (hk : Only H w w') (hH : ∀ g ∈ H, ¬ P g ∨ g < b ∨ w.heap.size ≤ g) (hb : b ≤ n) : DiskP P b n w' A c pv d := by
  obtain ⟨F, h1, h2, h3, h4, h5⟩ := h
  have hd : ∀ g ∈ F, g ∉ H := fun g hg hg' => by
    have h9 := h2 g hg; have := Rep.sl_lt h1 g hg
    rcases hH g hg' with h | h | h
    · exact h h9.2.2
    · omega
    · omega
  exact ⟨F, Rep.sl_only h1 hk hd, h2, h3, Unfr.only h4 hk (fun g hg => Rep.sl_lt h1 g hg) hd, h5.keep hk (fun g hg => by rcases hH g hg with h | h | h <;> first | exact .inl h | exact .inr (.inl (by omega)) | exact .inr (.inr h))⟩
theorem DiskP.ext (h : DiskP P b n w A c pv d) (hk : Ext w w') (hb : b ≤ n) : DiskP P b n w' A c pv d := h.keep hk (by simp) hb
theorem DiskP.le (h : DiskP P b n w A c pv d) : n ≤ w.heap.size := h.own.le
theorem DiskP.form (h : DiskP P b n w A c pv d) : ∃ Ap cp, pv = .slice Ap d.Pending.length cp ∧ cp ≤ maxLen := h.own.form
theorem DiskP.open_ (h : DiskP P b n w A c pv d) : ∃ F Ap cp G, pv = .slice Ap d.Pending.length cp ∧ (Rep.int .u8).sl w A c d.Durable F ∧ Rep.SectorWrite.sl w Ap cp d.Pending G ∧ (∀ g ∈ F, b ≤ g ∧ g < n ∧ P g) ∧ (∀ g ∈ G, n ≤ g ∧ P g) ∧ F.Nodup ∧ Unfr w F := by
  obtain ⟨F, h1, h2, h3, h4, h5⟩ := h
  obtain ⟨G, hV, hN, hP⟩ := h5.done
  obtain ⟨Ap, cp, rfl, q⟩ := Rep.slice_V hV
  exact ⟨F, Ap, cp, G, rfl, h1, q, h2, fun g hg => ⟨hN.ge g hg, hP g hg⟩, h3, h4⟩
end
def diskPut (d : DDisk) (s : Int) (data : List Int) : DDisk :=
  if d.Pending.length = 8192 then ⟨settleL d.Durable d.Pending, [⟨s, data⟩]⟩ else ⟨d.Durable, d.Pending ++ [⟨s, data⟩]⟩
def diskWrite (d : DDisk) (s : Int) (data : List Int) : DDisk :=
  if validDisk d = true ∧ 0 ≤ s ∧ s < (d.Durable.length / 512 : Nat) ∧ data.length = 512 then diskPut d s data else d
end Go.Proofs.Ytdjcfcgkldokgaa
