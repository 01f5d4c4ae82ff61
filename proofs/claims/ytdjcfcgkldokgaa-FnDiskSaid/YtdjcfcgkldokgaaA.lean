/- Words for memory: how data lie in cells, and the blocks on which they stand. -/
import Derived.WalkKit
import Derived.Deep.Draws
import Derived.Deep.LoopGhost
import Derived.Lib.Hide
import Derived.Laws.OwnMore
import Derived.Laws.IdiomCopy
namespace Go.Proofs.Ytdjcfcgkldokgaa
open Go.RowKit

/-- World w' is w, but for the blocks in F and what is new. -/
structure Only (F : List Nat) (w w' : World) : Prop where
  os : w'.os = w.os
  tape : w'.tape = w.tape
  output : w'.output = w.output
  size : w.heap.size ≤ w'.heap.size
  block : ∀ k, k < w.heap.size → k ∉ F → w'.heap[k]? = w.heap[k]?
abbrev Ext (w w' : World) : Prop := Only [] w w'

section
variable {F G : List Nat} {w w' w'' : World}
theorem Only.refl (F : List Nat) (w : World) : Only F w w := ⟨rfl, rfl, rfl, Nat.le_refl _, fun _ _ _ => rfl⟩
theorem Only.trans (h : Only F w w') (k : Only F w' w'') : Only F w w'' :=
  ⟨k.os.trans h.os, k.tape.trans h.tape, k.output.trans h.output, Nat.le_trans h.size k.size, fun i hi hn => (k.block i (Nat.lt_of_lt_of_le hi h.size) hn).trans (h.block i hi hn)⟩
/-- What is written later in blocks that are new, or in F. -/
theorem Only.then_ (h : Only F w w') (k : Only G w' w'') (hG : ∀ g ∈ G, g < w.heap.size → g ∈ F) : Only F w w'' :=
  ⟨k.os.trans h.os, k.tape.trans h.tape, k.output.trans h.output, Nat.le_trans h.size k.size,
    fun i hi hn => (k.block i (Nat.lt_of_lt_of_le hi h.size) (fun hg => hn (hG i hg hi))).trans (h.block i hi hn)⟩
theorem Only.ext (h : Only F w w') (k : Ext w' w'') : Only F w w'' := h.then_ k (by simp)
theorem Only.more (h : Only F w w') (hF : ∀ g ∈ F, g < w.heap.size → g ∈ G) : Only G w w' :=
  ⟨h.os, h.tape, h.output, h.size, fun i hi hn => h.block i hi (fun hf => hn (hF i hf hi))⟩
theorem Only.drew (h : Only F w w') : Only F w w'.drew := ⟨h.os, h.tape, h.output, h.size, h.block⟩
theorem Only.drewN (h : Only F w w') (n : Nat) : Only F w (w'.drewN n) := ⟨h.os, h.tape, h.output, h.size, h.block⟩
theorem Only.alloc (h : Only F w w') (o : Obj) : Only F w (w'.alloc o) :=
  ⟨h.os, h.tape, h.output, Nat.le_trans h.size (by simp), fun i hi hn => (Below.heap_alloc w' o i (Nat.lt_of_lt_of_le hi h.size)).trans (h.block i hi hn)⟩
theorem Only.setCell (h : Only F w w') {p : Addr} (hp : p.block < w.heap.size → p.block ∈ F) (u : Value) : Only F w (w'.setCell p u) :=
  ⟨h.os, h.tape, h.output, by simpa [World.setCell] using h.size, fun i hi hn => (Below.heap_setCell w' p u i (fun e => hn (e ▸ hp (e ▸ hi)))).trans (h.block i hi hn)⟩
theorem Only.set {p : Addr} {u : Value} (hp : p.block < w.heap.size → p.block ∈ F) (h : Only F w w') : Only F w (w'.setCell p u) := h.setCell hp u
theorem Only.grown (h : Only F w w') {row : Option Nat} (hg : w'.grownBy w'' row) (hr : ∀ g, row = some g → g < w.heap.size → g ∈ F) : Only F w w'' :=
  ⟨hg.os.trans h.os, hg.tape.trans h.tape, hg.output.trans h.output, Nat.le_trans h.size hg.size,
    fun i hi hn => (hg.block i (Nat.lt_of_lt_of_le hi h.size) (fun e => hn (hr i e.symm hi))).trans (h.block i hi hn)⟩
theorem Only.below (h : Ext w w') : Below w.heap.size w w' := ⟨h.os, h.tape, h.output, h.size, fun k hk => h.block k hk (by simp)⟩
theorem Only.of_below (h : Below w.heap.size w w') : Ext w w' := ⟨h.os, h.tape, h.output, h.size, fun k hk _ => h.block k hk⟩
theorem Only.heap (h : Only F w w') {k : Nat} {o : Obj} (hc : w.heap[k]? = some o) (hk : k ∉ F) : w'.heap[k]? = some o :=
  (h.block k (Array.getElem?_eq_some_iff.1 hc).1 hk).trans hc
theorem Only.cell (h : Only F w w') {p : Addr} {v : Value} (hc : w.cell? p = some v) (hp : p.block ∉ F) : w'.cell? p = some v :=
  (World.cell?_of_block (h.block p.block (World.block_lt_of_cell? w p hc) hp)).trans hc
theorem Only.ecell (h : Ext w w') {p : Addr} {v : Value} (hc : w.cell? p = some v) : w'.cell? p = some v := h.cell hc (by simp)
theorem Only.quiet (h : ∃ n, w' = w.drewN n) : Ext w w' := by obtain ⟨n, rfl⟩ := h; exact (Only.refl _ _).drewN n
end

/-- How data of a Lean type lie in cells: sz cells each; F: the blocks on which what they lead to stands; val: the value that is made of the cells. -/
structure Rep (α : Type) where
  sz : Nat
  R : World → α → List Value → List Nat → Prop
  val : List Value → Value
  len : ∀ {w x cs F}, R w x cs F → cs.length = sz
  lt : ∀ {w x cs F}, R w x cs F → ∀ g ∈ F, g < w.heap.size
  keep : ∀ {w w' x cs F}, R w x cs F → (∀ g ∈ F, w'.heap[g]? = w.heap[g]?) → R w' x cs F
def Rep.V {α : Type} (r : Rep α) (w : World) (v : Value) (x : α) (F : List Nat) : Prop := ∃ cs, r.R w x cs F ∧ v = r.val cs
def val1 : List Value → Value | [c] => c | _ => undef

/-- Numbers of an integer kind; bools. -/
def Rep.int (k : IntKind) : Rep Int where
  sz := 1
  R := fun _ x cs F => cs = [.int k x] ∧ F = [] ∧ (Lit.int k x).wf = true
  val := val1
  len := fun h => by rw [h.1]; rfl
  lt := fun h g hg => by rw [h.2.1] at hg; cases hg
  keep := fun h _ => h
def Rep.bool : Rep Bool where
  sz := 1
  R := fun _ x cs F => cs = [.bool x] ∧ F = []
  val := val1
  len := fun h => by rw [h.1]; rfl
  lt := fun h g hg => by rw [h.2] at hg; cases hg
  keep := fun h _ => h

section
variable {α : Type} (r : Rep α)
/-- The cells of the elements of a list, one element behind the other. -/
def Rep.cells (w : World) : List α → List Value → List Nat → Prop
  | [], cs, F => cs = [] ∧ F = []
  | x :: xs, cs, F => ∃ c1 c2 F1 F2, cs = c1 ++ c2 ∧ F = F1 ++ F2 ∧ r.R w x c1 F1 ∧ Rep.cells w xs c2 F2
variable {r} {w w' : World} {xs ys : List α} {cs : List Value} {F : List Nat}
theorem Rep.cells_len : ∀ {xs cs F}, r.cells w xs cs F → cs.length = xs.length * r.sz
  | [], _, _, ⟨rfl, _⟩ => by simp
  | _ :: _, _, _, ⟨c1, c2, _, _, rfl, _, h1, h2⟩ => by
    rw [List.length_append, r.len h1, Rep.cells_len h2, List.length_cons, Nat.add_mul]; omega
theorem Rep.cells_lt : ∀ {xs cs F}, r.cells w xs cs F → ∀ b ∈ F, b < w.heap.size
  | [], _, _, ⟨_, rfl⟩, b, hb => by cases hb
  | _ :: _, _, _, ⟨_, _, _, _, _, rfl, h1, h2⟩, b, hb => (List.mem_append.1 hb).elim (r.lt h1 b) (Rep.cells_lt h2 b)
theorem Rep.cells_keep : ∀ {xs cs F}, r.cells w xs cs F → (∀ b ∈ F, w'.heap[b]? = w.heap[b]?) → r.cells w' xs cs F
  | [], _, _, h, _ => h
  | _ :: _, _, _, ⟨c1, c2, F1, F2, e1, rfl, h1, h2⟩, hk =>
    ⟨c1, c2, F1, F2, e1, rfl, r.keep h1 (fun b hb => hk b (by simp [hb])), Rep.cells_keep h2 (fun b hb => hk b (by simp [hb]))⟩
theorem Rep.cells_append : ∀ {xs cs F}, r.cells w (xs ++ ys) cs F ↔ ∃ c1 c2 F1 F2, cs = c1 ++ c2 ∧ F = F1 ++ F2 ∧ r.cells w xs c1 F1 ∧ r.cells w ys c2 F2
  | [], cs, F => by
    constructor
    · intro h; exact ⟨[], cs, [], F, rfl, rfl, ⟨rfl, rfl⟩, h⟩
    · rintro ⟨c1, c2, F1, F2, rfl, rfl, ⟨rfl, rfl⟩, h⟩; exact h
  | x :: xs, cs, F => by
    constructor
    · rintro ⟨c1, c2, F1, F2, rfl, rfl, h1, h2⟩
      obtain ⟨d1, d2, G1, G2, rfl, rfl, k1, k2⟩ := Rep.cells_append.1 h2
      exact ⟨c1 ++ d1, d2, F1 ++ G1, G2, by simp, by simp, ⟨c1, d1, F1, G1, rfl, rfl, h1, k1⟩, k2⟩
    · rintro ⟨_, c2, _, F2, rfl, rfl, ⟨d1, d2, G1, G2, rfl, rfl, h1, h2⟩, k2⟩
      exact ⟨d1, d2 ++ c2, G1, G2 ++ F2, by simp, by simp, h1, Rep.cells_append.2 ⟨d2, c2, G2, F2, rfl, rfl, h2, k2⟩⟩
theorem Rep.cells_one {x : α} : r.cells w [x] cs F ↔ r.R w x cs F := by
  constructor
  · rintro ⟨c1, c2, F1, F2, rfl, rfl, h, ⟨rfl, rfl⟩⟩; simpa using h
  · intro h; exact ⟨cs, [], F, [], by simp, by simp, h, rfl, rfl⟩
theorem Rep.cells_snoc {x : α} {c1 c2 : List Value} {F1 F2 : List Nat} (h : r.cells w xs c1 F1) (hx : r.R w x c2 F2) : r.cells w (xs ++ [x]) (c1 ++ c2) (F1 ++ F2) :=
  Rep.cells_append.2 ⟨_, _, _, _, rfl, rfl, h, Rep.cells_one.2 hx⟩
/-- The element at place i: its cells, its blocks; what is ahead of it and behind it. -/
theorem Rep.cells_split (h : r.cells w xs cs F) (i : Nat) (hi : i < xs.length) :
    ∃ c1 c c2 F1 G F2, cs = c1 ++ c ++ c2 ∧ F = F1 ++ G ++ F2 ∧ c1.length = i * r.sz ∧ r.cells w (xs.take i) c1 F1 ∧ r.R w xs[i] c G ∧ r.cells w (xs.drop (i + 1)) c2 F2 := by
  have e : xs = xs.take i ++ ([xs[i]] ++ xs.drop (i + 1)) := by simp
  rw [e] at h
  obtain ⟨c1, _, F1, _, rfl, rfl, h1, h2⟩ := Rep.cells_append.1 h
  obtain ⟨c, c2, G, F2, rfl, rfl, h2, h3⟩ := Rep.cells_append.1 h2
  refine ⟨c1, c, c2, F1, G, F2, by simp, by simp, ?_, h1, Rep.cells_one.1 h2, h3⟩
  rw [Rep.cells_len h1, List.length_take, Nat.min_eq_left (by omega)]
theorem Rep.cells_at (h : r.cells w xs cs F) (i : Nat) (hi : i < xs.length) :
    ∃ c G, r.R w xs[i] c G ∧ (∀ b ∈ G, b ∈ F) ∧ ∀ j u, c[j]? = some u → cs[i * r.sz + j]? = some u := by
  obtain ⟨c1, c, c2, F1, G, F2, rfl, rfl, hl, _, hx, _⟩ := Rep.cells_split h i hi
  refine ⟨c, G, hx, fun b hb => by simp [hb], fun j u hu => ?_⟩
  have hj : j < c.length := (List.getElem?_eq_some_iff.1 hu).1
  rw [List.append_assoc, List.getElem?_append_right (by omega), hl, Nat.add_sub_cancel_left, List.getElem?_append_left hj, hu]

/-- A slice value's place that reads as a list. -/
def Rep.sl (r : Rep α) (w : World) (A : Option Addr) (c : Nat) (xs : List α) (F : List Nat) : Prop :=
  xs.length ≤ c ∧ c ≤ maxLen ∧ (xs = [] ∧ F = [] ∨ ∃ g off G cs, A = some ⟨g, off, none⟩ ∧ F = g :: G ∧ g < w.heap.size ∧ r.cells w xs cs G ∧ ∀ j u, cs[j]? = some u → w.cell? ⟨g, off + j, none⟩ = some u)
theorem Rep.sl_lt {A : Option Addr} {c : Nat} (h : r.sl w A c xs F) : ∀ b ∈ F, b < w.heap.size := by
  rintro b hb
  rcases h.2.2 with ⟨_, rfl⟩ | ⟨g, off, G, cs, _, rfl, hg, hr, _⟩
  · cases hb
  · rcases List.mem_cons.1 hb with rfl | hm
    · exact hg
    · exact Rep.cells_lt hr b hm
theorem heap_lt_of {w w' : World} {g : Nat} (h : w'.heap[g]? = w.heap[g]?) (hg : g < w.heap.size) : g < w'.heap.size := by
  rcases Nat.lt_or_ge g w'.heap.size with hlt | hge
  · exact hlt
  · rw [Array.getElem?_eq_none hge, Array.getElem?_eq_getElem hg] at h; cases h
theorem Rep.sl_keep {A : Option Addr} {c : Nat} (h : r.sl w A c xs F) (hk : ∀ b ∈ F, w'.heap[b]? = w.heap[b]?) : r.sl w' A c xs F := by
  refine ⟨h.1, h.2.1, ?_⟩
  rcases h.2.2 with h | ⟨g, off, G, cs, eA, rfl, hg, hr, hc⟩
  · exact .inl h
  · exact .inr ⟨g, off, G, cs, eA, rfl, heap_lt_of (hk g (by simp)) hg, Rep.cells_keep hr (fun b hb => hk b (by simp [hb])), fun j u hu => (World.cell?_of_block (hk g (by simp))).trans (hc j u hu)⟩
theorem Rep.sl_ext {A : Option Addr} {c : Nat} (h : r.sl w A c xs F) (hk : Ext w w') : r.sl w' A c xs F :=
  Rep.sl_keep h (fun b hb => hk.block b (Rep.sl_lt h b hb) (by simp))
theorem Rep.sl_only {A : Option Addr} {c : Nat} {G : List Nat} (h : r.sl w A c xs F) (hk : Only G w w') (hd : ∀ b ∈ F, b ∉ G) : r.sl w' A c xs F :=
  Rep.sl_keep h (fun b hb => hk.block b (Rep.sl_lt h b hb) (hd b hb))
theorem Rep.sl_at {A : Option Addr} {c : Nat} (h : r.sl w A c xs F) (i : Nat) (hi : i < xs.length) :
    ∃ g off d G, A = some ⟨g, off, none⟩ ∧ g < w.heap.size ∧ g ∈ F ∧ r.R w xs[i] d G ∧ (∀ b ∈ G, b ∈ F) ∧ ∀ j u, d[j]? = some u → w.cell? ⟨g, off + (i * r.sz + j), none⟩ = some u := by
  rcases h.2.2 with ⟨rfl, _⟩ | ⟨g, off, G, cs, rfl, rfl, hg, hr, hc⟩
  · cases hi
  · obtain ⟨d, G', hx, hG, hd⟩ := Rep.cells_at hr i hi
    exact ⟨g, off, d, G', rfl, hg, by simp, hx, fun b hb => by simp [hG b hb], fun j u hu => hc _ _ (hd j u hu)⟩
theorem Rep.sl_int {k : IntKind} {A : Option Addr} {c : Nat} {xs : List Int} (h : (Rep.int k).sl w A c xs F) (i : Nat) (hi : i < xs.length) :
    ∃ g off, A = some ⟨g, off, none⟩ ∧ g < w.heap.size ∧ g ∈ F ∧ w.cell? ⟨g, off + i, none⟩ = some (.int k xs[i]) ∧ (Lit.int k xs[i]).wf = true := by
  obtain ⟨g, off, cs, G, e, hg, hF, ⟨rfl, rfl, hwf⟩, _, hc⟩ := Rep.sl_at h i hi
  exact ⟨g, off, e, hg, hF, by simpa [Rep.int] using hc 0 _ rfl, hwf⟩
theorem Rep.sl_nil {A : Option Addr} {c : Nat} (hc : c ≤ maxLen) : r.sl w A c [] [] := ⟨Nat.zero_le _, hc, .inl ⟨rfl, rfl⟩⟩

/-- One element taken out: what it is; and the list again, with another one in its place. -/
theorem Rep.sl_upd {A : Option Addr} {c : Nat} (h : r.sl w A c xs F) (hn : F.Nodup) (i : Nat) (hi : i < xs.length) :
    ∃ g off d G, A = some ⟨g, off, none⟩ ∧ g < w.heap.size ∧ g ∈ F ∧ g ∉ G ∧ r.R w xs[i] d G ∧ (∀ b ∈ G, b ∈ F) ∧ G.Nodup ∧ (∀ j u, d[j]? = some u → w.cell? ⟨g, off + (i * r.sz + j), none⟩ = some u) ∧
      ∀ (w' : World) (x' : α) (d' : List Value), r.R w' x' d' G → g < w'.heap.size → (∀ j u, d'[j]? = some u → w'.cell? ⟨g, off + (i * r.sz + j), none⟩ = some u) →
        (∀ j, j < i * r.sz ∨ i * r.sz + r.sz ≤ j → w'.cell? ⟨g, off + j, none⟩ = w.cell? ⟨g, off + j, none⟩) → (∀ b ∈ F, b ≠ g → b ∉ G → w'.heap[b]? = w.heap[b]?) → r.sl w' A c (xs.set i x') F := by
  have hc0 := h.2.1
  rcases h with ⟨hl, hm, ⟨rfl, _⟩ | ⟨g, off, G, cs, rfl, rfl, hg, hr, hc⟩⟩
  · cases hi
  · obtain ⟨c1, d, c2, F1, G', F2, rfl, rfl, hl1, h1, hx, h2⟩ := Rep.cells_split hr i hi
    have hd : d.length = r.sz := r.len hx
    simp only [List.nodup_cons, List.mem_append, List.nodup_append, List.append_assoc, not_or] at hn
    obtain ⟨⟨hg1, hgG, hg2⟩, hn1, ⟨hnG, hn2, hd2⟩, hd1⟩ := hn
    refine ⟨g, off, d, G', rfl, hg, by simp, hgG, hx, fun b hb => by simp [hb], hnG, fun j u hu => hc _ _ ?_, fun w' x' d' hx' hg' hd' ho hb => ?_⟩
    · have hj : j < d.length := (List.getElem?_eq_some_iff.1 hu).1
      rw [List.append_assoc, List.getElem?_append_right (by omega), hl1, Nat.add_sub_cancel_left, List.getElem?_append_left hj, hu]
    · have hld' : d'.length = r.sz := r.len hx'
      refine ⟨by simpa using hl, hm, .inr ⟨g, off, _, c1 ++ d' ++ c2, rfl, rfl, hg', ?_, fun j u hu => ?_⟩⟩
      · have e : xs.set i x' = xs.take i ++ [x'] ++ xs.drop (i + 1) := by
          rw [List.set_eq_take_append_cons_drop, if_pos hi]; simp
        rw [e]
        refine Rep.cells_append.2 ⟨_, _, _, _, rfl, rfl, Rep.cells_append.2 ⟨_, _, _, _, rfl, rfl, ?_, Rep.cells_one.2 hx'⟩, ?_⟩
        · exact Rep.cells_keep h1 fun b hb1 => hb b (by simp [hb1]) (fun e => hg1 (e ▸ hb1)) (fun hG => hd1 b hb1 b (.inl hG) rfl)
        · exact Rep.cells_keep h2 fun b hb2 => hb b (by simp [hb2]) (fun e => hg2 (e ▸ hb2)) (fun hG => hd2 b hG b hb2 rfl)
      · by_cases hj1 : j < i * r.sz
        · rw [ho j (.inl hj1)]
          refine hc j u ?_
          rw [List.append_assoc, List.getElem?_append_left (by omega)] at hu ⊢
          exact hu
        · by_cases hj2 : j < i * r.sz + r.sz
          · rw [List.append_assoc, List.getElem?_append_right (by omega), hl1, List.getElem?_append_left (by omega)] at hu
            have := hd' _ _ hu
            rwa [Nat.add_sub_cancel' (by omega)] at this
          · rw [ho j (.inr (by omega))]
            refine hc j u ?_
            have e1 : (c1 ++ d').length = i * r.sz + r.sz := by simp [hl1, hld']
            have e2 : (c1 ++ d).length = i * r.sz + r.sz := by simp [hl1, hd]
            rw [List.getElem?_append_right (by omega), e1] at hu
            rw [List.getElem?_append_right (by omega), e2]
            exact hu

/-- Lists behind a slice value. -/
def Rep.slice (r : Rep α) : Rep (List α) where
  sz := 1
  R := fun w xs cs F => ∃ A c, cs = [.slice A xs.length c] ∧ r.sl w A c xs F
  val := val1
  len := fun ⟨_, _, e, _⟩ => by rw [e]; rfl
  lt := fun ⟨_, _, _, h⟩ => Rep.sl_lt h
  keep := fun ⟨A, c, e, h⟩ hk => ⟨A, c, e, Rep.sl_keep h hk⟩

theorem Rep.slice_V {r : Rep α} {w : World} {v : Value} {xs : List α} {F : List Nat} (h : r.slice.V w v xs F) : ∃ A c, v = .slice A xs.length c ∧ r.sl w A c xs F := by
  obtain ⟨_, ⟨A, c, rfl, hs⟩, rfl⟩ := h
  exact ⟨A, c, rfl, hs⟩
theorem Rep.slice_mk {r : Rep α} {w : World} {A : Option Addr} {c : Nat} {xs : List α} {F : List Nat} (h : r.sl w A c xs F) : r.slice.V w (.slice A xs.length c) xs F := ⟨_, ⟨A, c, rfl, h⟩, rfl⟩

/-- A slice of the call's own: at the head of a block from base on; its cells; the blocks of its elements. -/
def Rep.own (r : Rep α) (base : Nat) (e : TypeId) (w : World) (v : Value) (xs : List α) (G : List Nat) : Prop :=
  ∃ cs, w.ownsRow base e r.sz v xs.length cs ∧ r.cells w xs cs G ∧ ∀ g, v.ownBlock = some g → g ∉ G
end

/-- Nothing of these blocks is frozen. -/
def Unfr (w : World) (F : List Nat) : Prop := ∀ g ∈ F, ∀ j, w.frozen? ⟨g, j, none⟩ = false
/-- The blocks F are new since w, no two are one, none is frozen; all else of w stays. -/
structure New (w w' : World) (F : List Nat) : Prop where
  ext : Ext w w'
  new : ∀ g ∈ F, w.heap.size ≤ g
  nodup : F.Nodup
  unfr : Unfr w' F


theorem alloc_ext (w : World) (o : Obj) : Ext w (w.alloc o) := (Only.refl _ _).alloc _
theorem bcell {W w1 : World} (h : Ext W w1) : (∀ b o, b < W.heap.size → w1.cell? ⟨b, o, none⟩ = W.cell? ⟨b, o, none⟩) ∧ (∀ b o, b < W.heap.size → w1.frozen? ⟨b, o, none⟩ = W.frozen? ⟨b, o, none⟩) :=
  ⟨fun b _ hb => World.cell?_of_block (h.block b hb (by simp)), fun b _ hb => World.frozen?_of_block (h.block b hb (by simp))⟩

theorem alloc_cell {w : World} {cs : Array Value} {t : TypeId} {w1 : World} (h : Ext (w.alloc (.cells cs t)) w1) (j : Nat) : w1.cell? ⟨w.heap.size, j, none⟩ = cs[j]? :=
  cell_of_row _ _ _ _ _ _ (h.heap (heap_alloc_new w _) (by simp))
theorem V_keep {α : Type} {r : Rep α} {w w' : World} {v : Value} {x : α} {F : List Nat} (h : r.V w v x F) (hk : ∀ g ∈ F, w'.heap[g]? = w.heap[g]?) : r.V w' v x F := by
  obtain ⟨cs, hR, hv⟩ := h
  exact ⟨cs, r.keep hR hk, hv⟩
theorem V_ext {α : Type} {r : Rep α} {w w' : World} {v : Value} {x : α} {F : List Nat} (h : r.V w v x F) (hk : Ext w w') : r.V w' v x F := by
  obtain ⟨cs, hR, hv⟩ := h
  exact ⟨cs, r.keep hR fun g hg => hk.block g (r.lt hR g hg) (by simp), hv⟩
/-- Values laid one behind the other into a row. -/
def arrSet (arr : Array Value) : Nat → List Value → Array Value
  | _, [] => arr
  | o, v :: r => arrSet (arr.setIfInBounds o v) (o + 1) r
theorem size_arrSet : ∀ (vs : List Value) (o : Nat) (arr : Array Value), (arrSet arr o vs).size = arr.size
  | [], _, _ => rfl
  | v :: r, o, arr => by rw [arrSet, size_arrSet r]; simp
theorem arrSet_out : ∀ (vs : List Value) (o : Nat) (arr : Array Value) (j : Nat), (j < o ∨ o + vs.length ≤ j) → (arrSet arr o vs)[j]? = arr[j]?
  | [], _, _, _, _ => rfl
  | v :: r, o, arr, j, h => by
    rw [arrSet, arrSet_out r _ _ _ (by simp at h; omega), Array.getElem?_setIfInBounds]
    rw [if_neg (by simp at h; omega)]
theorem arrSet_in : ∀ (vs : List Value) (o : Nat) (arr : Array Value), o + vs.length ≤ arr.size → ∀ j u, vs[j]? = some u → (arrSet arr o vs)[o + j]? = some u
  | v :: r, o, arr, h, 0, u, hu => by
    rw [arrSet, arrSet_out r _ _ _ (by simp), Array.getElem?_setIfInBounds]
    simp at hu h
    subst hu
    rw [if_pos (by simp), if_pos (by omega)]
  | v :: r, o, arr, h, j + 1, u, hu => by
    have := arrSet_in r (o + 1) (arr.setIfInBounds o v) (by simp at h ⊢; omega) j u (by simpa using hu)
    rwa [arrSet, show o + (j + 1) = o + 1 + j by omega]
theorem heap_setCells : ∀ (vs : List Value) (o : Nat) (w : World) (g : Nat) (arr : Array Value) (e : TypeId), w.heap[g]? = some (.cells arr e (0, 0)) → (w.setCells g o vs).heap[g]? = some (.cells (arrSet arr o vs) e (0, 0))
  | [], _, _, _, _, _, h => h
  | v :: r, o, w, g, arr, e, h => heap_setCells r (o + 1) _ g _ e (heap_setCell_same w g o arr e v h)
theorem heap_setCells_other : ∀ (vs : List Value) (o : Nat) (w : World) (g k : Nat), k ≠ g → (w.setCells g o vs).heap[k]? = w.heap[k]?
  | [], _, _, _, _, _ => rfl
  | _ :: r, o, _, g, k, h => (heap_setCells_other r (o + 1) _ g k h).trans (Below.heap_setCell _ _ _ _ h)
theorem size_setCells : ∀ (vs : List Value) (o : Nat) (w : World) (g : Nat), (w.setCells g o vs).heap.size = w.heap.size
  | [], _, _, _ => rfl
  | _ :: r, o, _, g => (size_setCells r (o + 1) _ g).trans (by simp [World.setCell])
theorem os_setCells : ∀ (vs : List Value) (o : Nat) (w : World) (g : Nat), (w.setCells g o vs).os = w.os ∧ (w.setCells g o vs).tape = w.tape ∧ (w.setCells g o vs).output = w.output
  | [], _, _, _ => ⟨rfl, rfl, rfl⟩
  | _ :: r, o, _, g => os_setCells r (o + 1) _ g
theorem Only.cells {F : List Nat} {w w' : World} (h : Only F w w') {g : Nat} (hg : g < w.heap.size → g ∈ F) (o : Nat) (vs : List Value) : Only F w (w'.setCells g o vs) :=
  ⟨(os_setCells vs o w' g).1.trans h.os, (os_setCells vs o w' g).2.1.trans h.tape, (os_setCells vs o w' g).2.2.trans h.output, by rw [size_setCells]; exact h.size,
    fun i hi hn => (heap_setCells_other vs o w' g i (fun e => hn (e ▸ hg (e ▸ hi)))).trans (h.block i hi hn)⟩

/-- A new row of n elements, of which the first are filled in. -/
def Fill {α : Type} (r : Rep α) (e : TypeId) (w : World) (g n : Nat) (xs : List α) (G : List Nat) : Prop :=
  ∃ cs arr, w.heap[g]? = some (.cells arr e (0, 0)) ∧ arr.size = n * r.sz ∧ r.cells w xs cs G ∧ (∀ (j : Nat) (u : Value), cs[j]? = some u → arr[j]? = some u) ∧ g ∉ G
section
variable {α : Type} {r : Rep α} {e : TypeId} {w w' : World} {g n : Nat} {xs : List α} {G : List Nat}
theorem Fill.made (w : World) (cs : Array Value) (hs : cs.size = n * r.sz) : Fill r e (w.alloc (.cells cs e)) w.heap.size n [] [] :=
  ⟨[], cs, heap_alloc_new _ _, hs, ⟨rfl, rfl⟩, by simp, by simp⟩
theorem Fill.ext (h : Fill r e w g n xs G) (hk : Ext w w') : Fill r e w' g n xs G := by
  obtain ⟨cs, arr, h1, h2, h3, h4, h5⟩ := h
  exact ⟨cs, arr, hk.heap h1 (by simp), h2, Rep.cells_keep h3 fun b hb => hk.block b (Rep.cells_lt h3 b hb) (by simp), h4, h5⟩
theorem Fill.cell (h : Fill r e w g n xs G) {j : Nat} (hj : j < n * r.sz) : ∃ u, w.cell? ⟨g, j, none⟩ = some u := by
  obtain ⟨cs, arr, h1, h2, -⟩ := h
  exact ⟨arr[j]'(by omega), by rw [cell_of_row _ _ _ _ _ _ h1]; simp⟩
theorem Fill.lt (h : Fill r e w g n xs G) : g < w.heap.size := by
  obtain ⟨cs, arr, h1, -⟩ := h
  exact (Array.getElem?_eq_some_iff.1 h1).1
theorem Fill.glt (h : Fill r e w g n xs G) : ∀ b ∈ G, b < w.heap.size := by
  obtain ⟨cs, arr, -, -, h3, -⟩ := h
  exact Rep.cells_lt h3
theorem Fill.frozen (h : Fill r e w g n xs G) (j : Nat) : w.frozen? ⟨g, j, none⟩ = false := by
  obtain ⟨cs, arr, h1, -⟩ := h
  exact frozen_of_row _ _ _ _ _ h1
theorem Fill.step (h : Fill r e w g n xs G) {x : α} {c : List Value} {F : List Nat} (hx : r.R w x c F) (hF : g ∉ F) (hk : xs.length < n) : Fill r e (w.setCells g (xs.length * r.sz) c) g n (xs ++ [x]) (G ++ F) := by
  obtain ⟨cs, arr, h1, h2, h3, h4, h5⟩ := h
  have hl := Rep.cells_len h3
  have hc := r.len hx
  have hb : xs.length * r.sz + r.sz ≤ arr.size := by
    rw [h2, ← Nat.succ_mul]; exact Nat.mul_le_mul_right _ hk
  refine ⟨cs ++ c, arrSet arr (xs.length * r.sz) c, heap_setCells _ _ _ _ _ _ h1, by rw [size_arrSet, h2], Rep.cells_snoc ?_ ?_, fun j u hu => ?_, by simp [h5, hF]⟩
  · exact Rep.cells_keep h3 fun b hb => heap_setCells_other _ _ _ _ _ (fun e => h5 (e ▸ hb))
  · exact r.keep hx fun b hb => heap_setCells_other _ _ _ _ _ (fun e => hF (e ▸ hb))
  · by_cases hj : j < cs.length
    · rw [List.getElem?_append_left hj] at hu
      rw [arrSet_out _ _ _ _ (.inl (by omega))]
      exact h4 j u hu
    · rw [List.getElem?_append_right (by omega)] at hu
      have := arrSet_in c (xs.length * r.sz) arr (by omega) _ _ hu
      rwa [hl, Nat.add_sub_cancel' (by omega)] at this
theorem Fill.done (h : Fill r e w g xs.length xs G) (hm : xs.length ≤ maxLen) : r.slice.V w (.slice (some ⟨g, 0, none⟩) xs.length xs.length) xs (g :: G) := by
  obtain ⟨cs, arr, h1, h2, h3, h4, h5⟩ := h
  refine Rep.slice_mk ⟨Nat.le_refl _, hm, .inr ⟨g, 0, G, cs, rfl, rfl, (Array.getElem?_eq_some_iff.1 h1).1, h3, fun j u hu => ?_⟩⟩
  rw [Nat.zero_add, cell_of_row _ _ _ _ _ _ h1]
  exact h4 j u hu
theorem Fill.unfr (h : Fill r e w g n xs G) (hu : Unfr w G) : Unfr w (g :: G) := by
  intro b hb j
  rcases List.mem_cons.1 hb with rfl | hb
  · exact h.frozen j
  · exact hu b hb j
theorem Fill.nodup (h : Fill r e w g n xs G) (hn : G.Nodup) : (g :: G).Nodup := by
  obtain ⟨cs, arr, -, -, -, -, h5⟩ := h
  exact List.nodup_cons.2 ⟨h5, hn⟩
end
theorem Unfr.ext {w w' : World} {F : List Nat} (h : Unfr w F) (hk : Ext w w') (hl : ∀ g ∈ F, g < w.heap.size) : Unfr w' F :=
  fun g hg j => (World.frozen?_of_block (a := ⟨g, j, none⟩) (hk.block g (hl g hg) (by simp))).trans (h g hg j)
theorem Unfr.only {w w' : World} {F G : List Nat} (h : Unfr w F) (hk : Only G w w') (hl : ∀ g ∈ F, g < w.heap.size) (hd : ∀ g ∈ F, g ∉ G) : Unfr w' F :=
  fun g hg j => (World.frozen?_of_block (a := ⟨g, j, none⟩) (hk.block g (hl g hg) (hd g hg))).trans (h g hg j)
theorem Unfr.cells {w : World} {F : List Nat} (h : Unfr w F) (b o : Nat) (vs : List Value) : Unfr (w.setCells b o vs) F :=
  fun g hg j => (World.frozen?_setCells b vs o w _).trans (h g hg j)


/-- One element of a list is at work: its cells are d; all other cells of its block, and all other blocks of the list but those of G, are as in w0. -/
structure Foc (w0 w : World) (g off sz : Nat) (F G : List Nat) (d : List Value) : Prop where
  only : Only F w0 w
  lt : g < w.heap.size
  cell : ∀ j u, d[j]? = some u → w.cell? ⟨g, off + j, none⟩ = some u
  len : d.length = sz
  rest : ∀ j, j < off ∨ off + sz ≤ j → w.cell? ⟨g, j, none⟩ = w0.cell? ⟨g, j, none⟩
  block : ∀ b ∈ F, b ≠ g → b ∉ G → w.heap[b]? = w0.heap[b]?
  unfr : Unfr w F
section
variable {w0 w w' : World} {g off sz : Nat} {F G : List Nat} {d : List Value}
theorem Foc.set (h : Foc w0 w g off sz F G d) (hg : g ∈ F) (i : Nat) (hi : i < sz) (v : Value) : Foc w0 (w.setCell ⟨g, off + i, none⟩ v) g off sz F G (d.set i v) where
  only := h.only.setCell (fun _ => hg) _
  lt := by simpa [World.setCell] using h.lt
  cell := by
    intro j u hu
    by_cases e : i = j
    · subst e
      rw [List.getElem?_set_self (by rw [h.len]; exact hi)] at hu
      injection hu with hu
      subst hu
      exact World.cell?_setCell_same _ _ _ (h.cell i _ (List.getElem?_eq_getElem (by rw [h.len]; exact hi)))
    · rw [List.getElem?_set_ne e] at hu
      rw [World.cell?_setCell_other _ _ _ _ (by intro e'; injection e'; omega)]
      exact h.cell j u hu
  len := by simpa using h.len
  rest := by
    intro j hj
    rw [World.cell?_setCell_other _ _ _ _ (by intro e'; injection e'; omega)]
    exact h.rest j hj
  block := fun b hb hne hG => (Below.heap_setCell _ _ _ _ hne).trans (h.block b hb hne hG)
  unfr := fun b hb j => by rw [World.frozen?_setCell]; exact h.unfr b hb j
theorem Foc.call {H : List Nat} (h : Foc w0 w g off sz F G d) (hk : Only H w w') (hH : ∀ b ∈ H, b ∈ G) (hG : ∀ b ∈ G, b ∈ F) (hg : g ∉ G) (hu : Unfr w' H) (hl : ∀ b ∈ F, b < w0.heap.size) : Foc w0 w' g off sz F G d where
  only := h.only.trans (hk.more fun b hb _ => hG b (hH b hb))
  lt := Nat.lt_of_lt_of_le h.lt hk.size
  cell := fun j u hu => hk.cell (h.cell j u hu) (fun hb => hg (hH _ hb))
  len := h.len
  rest := fun j hj => (World.cell?_of_block (a := ⟨g, j, none⟩) (hk.block g h.lt (fun hb => hg (hH _ hb)))).trans (h.rest j hj)
  block := fun b hb hne hbG => (hk.block b (Nat.lt_of_lt_of_le (hl b hb) h.only.size) (fun hb => hbG (hH _ hb))).trans (h.block b hb hne hbG)
  unfr := fun b hb j => by
    by_cases hbG : b ∈ H
    · exact hu b hbG j
    · exact (World.frozen?_of_block (a := ⟨b, j, none⟩) (hk.block b (Nat.lt_of_lt_of_le (hl b hb) h.only.size) hbG)).trans (h.unfr b hb j)
end
/-- An element taken out of a list whose blocks are the call's own; the list with what the element has become. -/
theorem Rep.sl_foc {α : Type} {r : Rep α} {w : World} {A : Option Addr} {c : Nat} {xs : List α} {F : List Nat} (h : r.sl w A c xs F) (hn : F.Nodup) (hu : Unfr w F) (i : Nat) (hi : i < xs.length) :
    ∃ g off d G, A = some ⟨g, off, none⟩ ∧ g ∈ F ∧ g ∉ G ∧ (∀ b ∈ G, b ∈ F) ∧ G.Nodup ∧ r.R w xs[i] d G ∧ Foc w w g (off + i * r.sz) r.sz F G d ∧
      ∀ (w' : World) (x' : α) (d' : List Value), Foc w w' g (off + i * r.sz) r.sz F G d' → r.R w' x' d' G → r.sl w' A c (xs.set i x') F := by
  obtain ⟨g, off, d, G, e, hg, hF, hgG, hR, hGF, hGn, hc, hupd⟩ := Rep.sl_upd h hn i hi
  refine ⟨g, off, d, G, e, hF, hgG, hGF, hGn, hR, ⟨Only.refl _ _, hg, fun j u hj => ?_, r.len hR, fun _ _ => rfl, fun _ _ _ _ => rfl, hu⟩, fun w' x' d' hf hR' => hupd w' x' d' hR' hf.lt (fun j u hj => ?_) (fun j hj => ?_) hf.block⟩
  · rw [Nat.add_assoc]; exact hc j u hj
  · rw [← Nat.add_assoc]; exact hf.cell j u hj
  · exact hf.rest (off + j) (by omega)


/-- Blocks from number n on, no two one, none frozen. -/
structure NewIn (n : Nat) (w : World) (F : List Nat) : Prop where
  ge : ∀ g ∈ F, n ≤ g
  lt : ∀ g ∈ F, g < w.heap.size
  nodup : F.Nodup
  unfr : Unfr w F
section
variable {n : Nat} {w w' : World} {F G : List Nat}
theorem NewIn.nil (n : Nat) (w : World) : NewIn n w [] := ⟨by simp, by simp, by simp, by simp [Unfr]⟩
theorem NewIn.step (h : NewIn n w F) (hk : Only G w w') (hG : ∀ g ∈ G, g < n) : NewIn n w' F :=
  ⟨h.ge, fun g hg => Nat.lt_of_lt_of_le (h.lt g hg) hk.size, h.nodup, fun g hg j => (World.frozen?_of_block (a := ⟨g, j, none⟩) (hk.block g (h.lt g hg) (fun hb => by have := hG g hb; have := h.ge g hg; omega))).trans (h.unfr g hg j)⟩
theorem NewIn.add (h : NewIn n w F) (hk : New w w' G) (hlt : ∀ g ∈ G, g < w'.heap.size) (hn : n ≤ w.heap.size) : NewIn n w' (F ++ G) := by
  have h' := h.step hk.ext (by simp)
  refine ⟨fun g hg => ?_, fun g hg => ?_, List.nodup_append.2 ⟨h.nodup, hk.nodup, fun a ha b hb e => ?_⟩, fun g hg j => ?_⟩
  · rcases List.mem_append.1 hg with hg | hg
    · exact h.ge g hg
    · exact Nat.le_trans hn (hk.new g hg)
  · rcases List.mem_append.1 hg with hg | hg
    · exact h'.lt g hg
    · exact hlt g hg
  · subst e
    have := h.lt a ha
    have := hk.new a hb
    omega
  · rcases List.mem_append.1 hg with hg | hg
    · exact h'.unfr g hg j
    · exact hk.unfr g hg j
theorem NewIn.more {m : Nat} (h : NewIn n w F) (hm : m ≤ n) : NewIn m w F := ⟨fun g hg => Nat.le_trans hm (h.ge g hg), h.lt, h.nodup, h.unfr⟩
theorem NewIn.mk_ (h : NewIn w.heap.size w' F) (he : Ext w w') : New w w' F := ⟨he, h.ge, h.nodup, h.unfr⟩
theorem NewIn.one (h : New w w' F) (hlt : ∀ g ∈ F, g < w'.heap.size) (hn : n ≤ w.heap.size) : NewIn n w' F := by
  have := (NewIn.nil n w).add h hlt hn
  simpa using this
end
theorem Only.box {w w' : World} {F : List Nat} (h : Only F w w') {n : Nat} {o : Obj} (hb : w.heap[n]? = some o) (hF : ∀ g ∈ F, g < n) : w'.heap[n]? = some o :=
  h.heap hb (fun hg => Nat.lt_irrefl _ (hF n hg))
theorem Rep.sl_far {α : Type} {r : Rep α} {w w' : World} {A : Option Addr} {c : Nat} {xs : List α} {F G : List Nat} {n : Nat} (h : r.sl w A c xs F) (hk : Only G w w') (hF : ∀ b ∈ F, n ≤ b) (hG : ∀ b ∈ G, b < n) : r.sl w' A c xs F :=
  Rep.sl_only h hk (fun b hb hg => by have := hF b hb; have := hG b hg; omega)
theorem mid_at {α : Type} {xs ys : List α} {j : Nat} (hl : ys.length = xs.length) (h : j < xs.length) (h' : j < (ys.take j ++ xs.drop j).length) : (ys.take j ++ xs.drop j)[j] = xs[j] := by
  rw [List.getElem_append_right (by simp; omega)]
  simp [show min j ys.length = j by omega]
theorem map_sum_take {α : Type} (f : α → Nat) (xs : List α) (j : Nat) (h : j < xs.length) : ((xs.take (j + 1)).map f).sum = ((xs.take j).map f).sum + f xs[j] := by
  rw [List.take_succ_eq_append_getElem h, List.map_append, List.sum_append]; simp
theorem map_sum_mem {α : Type} (f : α → Nat) (xs : List α) (j : Nat) (h : j < xs.length) : ((xs.take j).map f).sum + f xs[j] ≤ (xs.map f).sum := by
  rw [← map_sum_take f xs j h]
  conv => rhs; rw [← List.take_append_drop (j + 1) xs, List.map_append, List.sum_append]
  omega
theorem bool_eq' {a b : Bool} (h : (a != b) = false) : a = b := by simpa using h


/-- A struct boxed in block n, while lists in the blocks F are written. -/
structure Box (w0 w : World) (n : Nat) (cs : Array Value) (t : TypeId) (F : List Nat) : Prop where
  only : Only F w0 w
  heap : w.heap[n]? = some (.cells cs t (0, 0))
  far : ∀ b ∈ F, b < n
  lt : ∀ b ∈ F, b < w0.heap.size
  unfr : Unfr w F
theorem Box.start {w : World} {F : List Nat} (hl : ∀ b ∈ F, b < w.heap.size) (hu : Unfr w F) (cs : Array Value) (t : TypeId) : Box w (w.alloc (.cells cs t)) w.heap.size cs t F :=
  ⟨(Only.refl _ _).alloc _, heap_alloc_new _ _, hl, hl, hu.ext (alloc_ext _ _) hl⟩
theorem Box.call {w0 w w' : World} {n : Nat} {cs : Array Value} {t : TypeId} {F H : List Nat} (h : Box w0 w n cs t F) (hO : Only H w w') (hH : ∀ b ∈ H, b ∈ F) (hu : Unfr w' H) : Box w0 w' n cs t F where
  only := h.only.trans (hO.more fun b hb _ => hH b hb)
  heap := hO.heap h.heap (fun hb => Nat.lt_irrefl _ (h.far n (hH n hb)))
  far := h.far
  lt := h.lt
  unfr := fun b hb j => by
    by_cases hbH : b ∈ H
    · exact hu b hbH j
    · exact (World.frozen?_of_block (a := ⟨b, j, none⟩) (hO.block b (Nat.lt_of_lt_of_le (h.lt b hb) h.only.size) hbH)).trans (h.unfr b hb j)
theorem Box.cell {w0 w : World} {n : Nat} {cs : Array Value} {t : TypeId} {F : List Nat} (h : Box w0 w n cs t F) (o : Nat) : w.cell? ⟨n, o, none⟩ = cs[o]? := cell_of_row _ _ _ _ _ _ h.heap

end Go.Proofs.Ytdjcfcgkldokgaa
