/- FnHolds: its memory: the lengths, the owners, six own rows of numbers. -/
import Derived.Test.YtildfjlekplgjaaH1
import Derived.Test.YtildfjlekplgjaaG1
namespace Go.Proofs.Ytildfjlekplgjaa
open Go.RowKit
set_option linter.unusedSimpArgs false
set_option linter.unusedVariables false
def IR (nb : Nat) (w : World) (v : Value) (xs : List Int) : Prop := w.ownsRow nb 2 1 v xs.length (xs.map (Value.int .i64))
theorem ints_cells (w : World) : ∀ (xs : List Int), (∀ x ∈ xs, (Lit.int .i64 x).wf = true) → (Rep.int .i64).cells w xs (xs.map (Value.int .i64)) []
  | [], _ => ⟨rfl, rfl⟩
  | x :: xs, h => Rep.cells_append (xs := [x]) (ys := xs) |>.2 ⟨[.int .i64 x], _, [], [], rfl, rfl, Rep.cells_one.2 ⟨rfl, rfl, h x (by simp)⟩, ints_cells w xs fun y hy => h y (by simp [hy])⟩
section
variable {nb n : Nat} {w w' : World} {v : Value} {xs : List Int} {A : Option Addr} {c g : Nat}
theorem IR.nil (nb : Nat) (w : World) : IR nb w (.slice none 0 0) [] := World.ownsRow_nil w nb _ 1
theorem IR.keep (h : IR nb w v xs) (hb : ∀ g, v.ownBlock = some g → w'.heap[g]? = w.heap[g]?) : IR nb w' v xs := by
  refine ⟨h.1, ?_⟩
  rcases h.2 with h | ⟨g, cap, cur, rfl, h1, h2, h3⟩
  · exact .inl h
  · exact .inr ⟨g, cap, cur, rfl, h1, (hb g rfl).trans h2, h3⟩
theorem IR.lt (h : IR nb w v xs) (hg : v.ownBlock = some g) : nb ≤ g ∧ g < w.heap.size := World.ownsRow.lt h g hg
theorem IR.only {G : List Nat} (h : IR nb w v xs) (hk : Only G w w') (hG : ∀ g, v.ownBlock = some g → g ∉ G) : IR nb w' v xs := h.keep fun g hg => hk.block g (h.lt hg).2 (hG g hg)
theorem IR.ext (h : IR nb w v xs) (hk : Ext w w') : IR nb w' v xs := h.only hk (by simp)
theorem IR.form (h : IR nb w v xs) : ∃ A c, v = .slice A xs.length c ∧ xs.length ≤ c ∧ c ≤ maxLen := by
  rcases h.2 with ⟨rfl, h0⟩ | ⟨g, cap, cur, rfl, -, -, h1, h2, -⟩
  · exact ⟨none, 0, by rw [h0], by omega, by simp⟩
  · exact ⟨_, _, rfl, h1, h2⟩
theorem IR.own (h : IR nb w v xs) (hn : nb ≤ w.heap.size) (hw : ∀ x ∈ xs, (Lit.int .i64 x).wf = true) : Own (Rep.int .i64) 2 nb w v xs :=
  ⟨_, [], h, ints_cells w xs hw, by simp, NewIn.nil _ _, hn⟩
theorem IR.of_own (h : Own (Rep.int .i64) 2 nb w v xs) : IR nb w v xs := by
  obtain ⟨cs, G, h1, h2, -⟩ := h
  have : ∀ {xs : List Int} {cs : List Value} {F : List Nat}, (Rep.int .i64).cells w xs cs F → cs = xs.map (Value.int .i64) := by
    intro xs
    induction xs with
    | nil => intro cs F h; exact h.1
    | cons x xs ih =>
      intro cs F h
      obtain ⟨c1, c2, F1, F2, rfl, rfl, a, b⟩ := (Rep.cells_append (xs := [x]) (ys := xs)).1 h
      rw [ih b]
      have := Rep.cells_one.1 a
      rw [this.1]; rfl
  unfold IR
  rw [← this h2]; exact h1
theorem IR.take (h : IR nb w (.slice A xs.length c) xs) (k : Nat) (hk : k ≤ xs.length) : IR nb w (.slice A k c) (xs.take k) := by
  have hl : (xs.take k).length = k := by rw [List.length_take]; omega
  unfold IR
  rw [hl]
  refine ⟨by simp; omega, ?_⟩
  rcases h.2 with ⟨he, h0⟩ | ⟨g, cap, cur, he, h1, h2, h3, h4, h5, h6⟩
  · injection he with e1 e2 e3
    subst e1; subst e3
    exact .inl ⟨by rw [show k = 0 by omega], by omega⟩
  · injection he with e1 e2 e3
    subst e1; subst e3
    refine .inr ⟨g, _, cur, rfl, h1, h2, by omega, h4, h5, ?_⟩
    rw [Nat.mul_one] at h6 ⊢
    rw [List.map_take, ← h6, List.take_take, Nat.min_eq_left hk]
theorem IR.cell (h : IR nb w (.slice A xs.length c) xs) {j : Nat} {x : Int} (hj : xs[j]? = some x) : ∃ g, A = some ⟨g, 0, none⟩ ∧ w.cell? ⟨g, j, none⟩ = some (.int .i64 x) ∧ w.frozen? ⟨g, j, none⟩ = false ∧ g < w.heap.size := by
  have hlt := (List.getElem?_eq_some_iff.1 hj).1
  rcases h.2 with ⟨-, h0⟩ | ⟨g, cap, cur, he, h1, h2, h3, h4, h5, h6⟩
  · omega
  · injection he with e1 e2 e3
    subst e1
    refine ⟨g, rfl, ?_, frozen_of_row _ _ _ _ _ h2, (Array.getElem?_eq_some_iff.1 h2).1⟩
    rw [cell_of_row _ _ _ _ _ _ h2]
    have : (cur.toList.take (xs.length * 1))[j]? = some (.int .i64 x) := by rw [h6]; simp [hj]
    rw [List.getElem?_take, if_pos (by omega)] at this
    simpa using this
theorem IR.set (h : IR nb w (.slice (some ⟨g, 0, none⟩) xs.length c) xs) (j : Nat) (x : Int) (hj : j < xs.length) : IR nb (w.setCell ⟨g, j, none⟩ (.int .i64 x)) (.slice (some ⟨g, 0, none⟩) xs.length c) (xs.set j x) := by
  unfold IR
  rw [List.length_set]
  refine ⟨by simp, ?_⟩
  rcases h.2 with ⟨he, -⟩ | ⟨g', cap, cur, he, h1, h2, h3, h4, h5, h6⟩
  · cases he
  · injection he with e1 e2 e3
    injection e1 with e1
    injection e1 with e1
    subst e1; subst e3
    refine .inr ⟨g, _, _, rfl, h1, heap_setCell_same w g j _ _ _ h2, h3, h4, by simpa using h5, ?_⟩
    rw [Nat.mul_one] at h6 ⊢
    rw [take_setIf, h6, List.map_set]
end
/-- Four rows' heads. -/
def VB (g : Nat) (f : Nat → Value) (w : World) : Prop := ∃ arr, w.heap[g]? = some (.cells arr 43 (0, 0)) ∧ arr.size = 4 ∧ ∀ s, 1 ≤ s → s < 4 → arr[s]? = some (f s)
section
variable {g : Nat} {f : Nat → Value} {w w' : World}
theorem VB.cell (h : VB g f w) (s : Nat) (h1 : 1 ≤ s) (h4 : s < 4) : w.cell? ⟨g, s, none⟩ = some (f s) := by
  obtain ⟨arr, ha, hs, hc⟩ := h
  rw [cell_of_row _ _ _ _ _ _ ha]; exact hc s h1 h4
theorem VB.frozen (h : VB g f w) (s : Nat) : w.frozen? ⟨g, s, none⟩ = false := by
  obtain ⟨arr, ha, -⟩ := h
  exact frozen_of_row _ _ _ _ _ ha
theorem VB.lt (h : VB g f w) : g < w.heap.size := by obtain ⟨arr, ha, -⟩ := h; exact (Array.getElem?_eq_some_iff.1 ha).1
theorem VB.keep (h : VB g f w) (hb : w'.heap[g]? = w.heap[g]?) : VB g f w' := by
  obtain ⟨arr, ha, hs⟩ := h
  exact ⟨arr, hb.trans ha, hs⟩
theorem VB.set (h : VB g f w) (t : Nat) (v : Value) (ht : t < 4) : VB g (fun s => if s = t then v else f s) (w.setCell ⟨g, t, none⟩ v) := by
  obtain ⟨arr, ha, hs, hc⟩ := h
  refine ⟨_, heap_setCell_same w g t _ _ v ha, by simpa using hs, fun s h1 h4 => ?_⟩
  rw [Array.getElem?_setIfInBounds]
  by_cases he : t = s
  · rw [if_pos he, if_pos (by omega)]; simp [he]
  · rw [if_neg he]; simp only [if_neg (fun e => he (Eq.symm e))]; exact hc s h1 h4
theorem VB.fn (h : VB g f w) {f' : Nat → Value} (e : ∀ s, 1 ≤ s → s < 4 → f s = f' s) : VB g f' w := by
  obtain ⟨arr, ha, hs, hc⟩ := h
  exact ⟨arr, ha, hs, fun s h1 h4 => (hc s h1 h4).trans (by rw [e s h1 h4])⟩
end
/-- The owners. -/
def OB (g : Nat) (M : List Int) (w : World) : Prop := w.heap[g]? = some (.cells (M.map (Value.int .i64)).toArray 3 (0, 0))
theorem OB.set {g : Nat} {M : List Int} {w : World} (h : OB g M w) (j : Nat) (v : Int) : OB g (M.set j v) (w.setCell ⟨g, j, none⟩ (.int .i64 v)) := by
  have := heap_setCell_same w g j _ _ (.int .i64 v) h
  unfold OB
  rw [this]
  simp [List.map_set]
theorem OB.cell {g : Nat} {M : List Int} {w : World} (h : OB g M w) {j : Nat} {v : Int} (hj : M[j]? = some v) : w.cell? ⟨g, j, none⟩ = some (.int .i64 v) := by
  rw [cell_of_row w g j _ _ _ h]
  simp [hj]
theorem OB.frozen {g : Nat} {M : List Int} {w : World} (h : OB g M w) (j : Nat) : w.frozen? ⟨g, j, none⟩ = false := frozen_of_row w g j _ _ h
/-- The memory of the law: the lengths' row in block gL, the owners in gW, the heads of the rows 1, 2, 3 in gI and of 4, 5, 6 in gO. -/
structure PS (w wr : World) (nb gL cL gW gI gO : Nat) (L W : List Int) (f : Nat → Value) (X : Nat → List Int) : Prop where
  ext : Ext w wr
  lrow : IR w.heap.size wr (.slice (some ⟨gL, 0, none⟩) L.length cL) L
  wb : OB gW W wr
  ib : VB gI f wr
  ob : VB gO (fun s => f (s + 3)) wr
  row : ∀ r, 1 ≤ r → r ≤ 6 → IR nb wr (f r) (X r)
  dis : ∀ r s g, 1 ≤ r → r ≤ 6 → 1 ≤ s → s ≤ 6 → r ≠ s → (f r).ownBlock = some g → (f s).ownBlock ≠ some g
  lo : gL < nb ∧ gW < nb ∧ gI < nb ∧ gO < nb
  ne : gL ≠ gW ∧ gL ≠ gI ∧ gL ≠ gO ∧ gW ≠ gI ∧ gW ≠ gO ∧ gI ≠ gO
  ge : w.heap.size ≤ gL ∧ w.heap.size ≤ gW ∧ w.heap.size ≤ gI ∧ w.heap.size ≤ gO
  nb : w.heap.size ≤ nb ∧ nb ≤ wr.heap.size
section
variable {w wr w' : World} {nb gL cL gW gI gO : Nat} {L W : List Int} {f : Nat → Value} {X : Nat → List Int}
theorem PS.ext' (h : PS w wr nb gL cL gW gI gO L W f X) (hE : Ext wr w') : PS w w' nb gL cL gW gI gO L W f X :=
  ⟨h.ext.ext hE, h.lrow.ext hE, hE.heap h.wb (by simp), h.ib.keep (hE.block _ h.ib.lt (by simp)), h.ob.keep (hE.block _ h.ob.lt (by simp)), fun r a b => (h.row r a b).ext hE, h.dis, h.lo, h.ne, h.ge, h.nb.1, Nat.le_trans h.nb.2 hE.size⟩
theorem PS.setL (h : PS w wr nb gL cL gW gI gO L W f X) (j : Nat) (x : Int) (hj : j < L.length) : PS w (wr.setCell ⟨gL, j, none⟩ (.int .i64 x)) nb gL cL gW gI gO (L.set j x) W f X := by
  have hO : Only [gL] wr (wr.setCell ⟨gL, j, none⟩ (.int .i64 x)) := (Only.refl _ _).setCell (by simp) _
  have hn := h.ne; have hg := h.ge; have hl := h.lo
  refine ⟨h.ext.then_ hO (fun g hg' hlt => by simp at hg'; omega), by rw [List.length_set]; exact h.lrow.set j x hj, hO.heap h.wb (by simp; omega), h.ib.keep (hO.block _ h.ib.lt (by simp; omega)), h.ob.keep (hO.block _ h.ob.lt (by simp; omega)), fun r a b => (h.row r a b).only hO (fun g hg' => ?_), h.dis, h.lo, h.ne, h.ge, h.nb.1, Nat.le_trans h.nb.2 hO.size⟩
  have := ((h.row r a b).lt hg').1
  simp; omega
theorem PS.setW (h : PS w wr nb gL cL gW gI gO L W f X) (j : Nat) (x : Int) : PS w (wr.setCell ⟨gW, j, none⟩ (.int .i64 x)) nb gL cL gW gI gO L (W.set j x) f X := by
  have hO : Only [gW] wr (wr.setCell ⟨gW, j, none⟩ (.int .i64 x)) := (Only.refl _ _).setCell (by simp) _
  have hn := h.ne; have hg := h.ge; have hl := h.lo
  refine ⟨h.ext.then_ hO (fun g hg' hlt => by simp at hg'; omega), h.lrow.only hO (fun g hg' => by simp [Value.ownBlock] at hg'; simp; omega), h.wb.set j x, h.ib.keep (hO.block _ h.ib.lt (by simp; omega)), h.ob.keep (hO.block _ h.ob.lt (by simp; omega)), fun r a b => (h.row r a b).only hO (fun g hg' => ?_), h.dis, h.lo, h.ne, h.ge, h.nb.1, Nat.le_trans h.nb.2 hO.size⟩
  have := ((h.row r a b).lt hg').1
  simp; omega
/-- A row's head is stored anew: v, which reads as ys and lies apart from the others. -/
theorem PS.head (h : PS w wr nb gL cL gW gI gO L W f X) (t r gb : Nat) (ht : 1 ≤ t ∧ t ≤ 3) (hb : gb = gI ∧ r = t ∨ gb = gO ∧ r = t + 3) (v : Value) (ys : List Int) (hv : IR nb wr v ys) (hd : ∀ s g, 1 ≤ s → s ≤ 6 → s ≠ r → v.ownBlock = some g → (f s).ownBlock ≠ some g) :
    PS w (wr.setCell ⟨gb, t, none⟩ v) nb gL cL gW gI gO L W (fun s => if s = r then v else f s) (upd X r ys) := by
  have hO : Only [gb] wr (wr.setCell ⟨gb, t, none⟩ v) := (Only.refl _ _).setCell (by simp) _
  have hn := h.ne; have hg := h.ge; have hl := h.lo
  have hgb : gb < nb ∧ w.heap.size ≤ gb ∧ gb ≠ gL ∧ gb ≠ gW := by rcases hb with ⟨rfl, -⟩ | ⟨rfl, -⟩ <;> omega
  have hfar : ∀ {u : Value} {zs : List Int}, IR nb wr u zs → IR nb (wr.setCell ⟨gb, t, none⟩ v) u zs := fun hu => hu.only hO (fun g hg' => by have := (hu.lt hg').1; simp; omega)
  refine ⟨h.ext.then_ hO (fun g hg' hlt => by simp at hg'; omega), h.lrow.only hO (fun g hg' => by simp [Value.ownBlock] at hg'; simp; omega), hO.heap h.wb (by simp; omega), ?_, ?_, fun s a b => ?_, fun s q g a b a' b' hsq hs hq => ?_, h.lo, h.ne, h.ge, h.nb.1, Nat.le_trans h.nb.2 hO.size⟩
  · rcases hb with ⟨rfl, rfl⟩ | ⟨rfl, rfl⟩
    · exact h.ib.set r v (by omega)
    · exact (h.ib.keep (hO.block _ h.ib.lt (by simp; omega))).fn fun s a b => by rw [if_neg (by omega)]
  · rcases hb with ⟨rfl, rfl⟩ | ⟨rfl, rfl⟩
    · exact (h.ob.keep (hO.block _ h.ob.lt (by simp; omega))).fn fun s a b => by rw [if_neg (by omega)]
    · exact (h.ob.set t v (by omega)).fn fun s a b => by
        by_cases he : s = t
        · rw [if_pos he, if_pos (by omega)]
        · rw [if_neg he, if_neg (by omega)]
  · unfold upd
    by_cases he : s = r
    · rw [if_pos he, if_pos he]; exact hfar hv
    · rw [if_neg he, if_neg he]; exact hfar (h.row s a b)
  · by_cases h1 : s = r
    · rw [if_pos h1] at hs
      rw [if_neg (by omega)] at hq
      exact hd q g a' b' (by omega) hs hq
    · rw [if_neg h1] at hs
      by_cases h2 : q = r
      · rw [if_pos h2] at hq
        exact hd s g a b h1 hq hs
      · rw [if_neg h2] at hq
        exact h.dis s q g a b a' b' hsq hs hq
/-- A row has grown by one. -/
theorem PS.grow {w2 : World} (h : PS w wr nb gL cL gW gI gO L W f X) (hE : Ext wr w2) (t r gb : Nat) (ht : 1 ≤ t ∧ t ≤ 3) (hb : gb = gI ∧ r = t ∨ gb = gO ∧ r = t + 3) (x : Int) (v' : Value)
    (ho : w'.ownsRow nb 2 1 v' ((X r).length + 1) ((X r).map (Value.int .i64) ++ [Value.int .i64 x])) (hg : w2.grownBy w' (f r).ownBlock) (hat : v'.ownBlock = (f r).ownBlock ∨ v'.ownBlock = some w2.heap.size) :
    Hid (VB gI f w') ∧ Hid (VB gO (fun s => f (s + 3)) w') ∧ Hid (Ext w w') ∧ Hid (IR w.heap.size w' (.slice (some ⟨gL, 0, none⟩) L.length cL) L) ∧ Hid (PS w (w'.setCell ⟨gb, t, none⟩ v') nb gL cL gW gI gO L W (fun s => if s = r then v' else f s) (upd X r (X r ++ [x]))) := by
  have h2 := h.ext' hE
  have hn := h.ne; have hge := h.ge; have hl := h.lo
  have hr6 : 1 ≤ r ∧ r ≤ 6 := by omega
  have hown := h2.row r hr6.1 hr6.2
  have hblk : ∀ k, k < w2.heap.size → (∀ g, (f r).ownBlock = some g → k ≠ g) → w'.heap[k]? = w2.heap[k]? := fun k hk hne => hg.block k hk (fun e => hne k e.symm rfl)
  have hlow : ∀ k, k < nb → w'.heap[k]? = w2.heap[k]? := fun k hk => hblk k (Nat.lt_of_lt_of_le hk h2.nb.2) (fun g hgr => by have := (hown.lt hgr).1; omega)
  have hVI : VB gI f w' := h2.ib.keep (hlow _ hl.2.2.1)
  have hVO : VB gO (fun s => f (s + 3)) w' := h2.ob.keep (hlow _ hl.2.2.2)
  have hEx : Ext w w' := ⟨hg.os.trans h2.ext.os, hg.tape.trans h2.ext.tape, hg.output.trans h2.ext.output, Nat.le_trans h2.ext.size hg.size, fun k hk hn => (hlow k (by have := h.nb.1; omega)).trans (h2.ext.block k hk hn)⟩
  have hLr : IR w.heap.size w' (.slice (some ⟨gL, 0, none⟩) L.length cL) L := h2.lrow.keep (fun g hg' => by simp [Value.ownBlock] at hg'; subst hg'; exact hlow _ hl.1)
  have hv : IR nb w' v' (X r ++ [x]) := by unfold IR; rw [List.length_append, List.map_append]; exact ho
  refine ⟨Lib.hid hVI, Lib.hid hVO, Lib.hid hEx, Lib.hid hLr, Lib.hid ?_⟩
  have hO : Only [gb] w' (w'.setCell ⟨gb, t, none⟩ v') := (Only.refl _ _).setCell (by simp) _
  have hgb : gb < nb ∧ w.heap.size ≤ gb ∧ gb ≠ gL ∧ gb ≠ gW := by rcases hb with ⟨rfl, -⟩ | ⟨rfl, -⟩ <;> omega
  have hfar : ∀ {u : Value} {zs : List Int}, IR nb w' u zs → IR nb (w'.setCell ⟨gb, t, none⟩ v') u zs := fun hu => hu.only hO (fun g hg' => by have := (hu.lt hg').1; simp; omega)
  have hoth : ∀ s, 1 ≤ s → s ≤ 6 → s ≠ r → IR nb w' (f s) (X s) := fun s a b hs => (h2.row s a b).keep (fun g hg' => hblk g ((h2.row s a b).lt hg').2 (fun g' hg2 he => by subst he; exact h.dis s r g a b hr6.1 hr6.2 hs hg' hg2))
  have hdv : ∀ s g, 1 ≤ s → s ≤ 6 → s ≠ r → v'.ownBlock = some g → (f s).ownBlock ≠ some g := fun s g a b hs hv' hfs => by
    rcases hat with hat | hat
    · rw [hat] at hv'
      exact h.dis r s g hr6.1 hr6.2 a b (Ne.symm hs) hv' hfs
    · rw [hat] at hv'
      injection hv' with hv'
      have := ((h2.row s a b).lt hfs).2
      omega
  refine ⟨hEx.then_ hO (fun g hg' hlt => by simp at hg'; omega), hLr.only hO (fun g hg' => by simp [Value.ownBlock] at hg'; simp; omega), hO.heap ((hlow _ hl.2.1).trans h2.wb) (by simp; omega), ?_, ?_, fun s a b => ?_, fun s q g a b a' b' hsq hs hq => ?_, h.lo, h.ne, h.ge, h.nb.1, Nat.le_trans (Nat.le_trans h2.nb.2 hg.size) hO.size⟩
  · rcases hb with ⟨rfl, rfl⟩ | ⟨rfl, rfl⟩
    · exact hVI.set r v' (by omega)
    · exact (hVI.keep (hO.block _ hVI.lt (by simp; omega))).fn fun s a b => by rw [if_neg (by omega)]
  · rcases hb with ⟨rfl, rfl⟩ | ⟨rfl, rfl⟩
    · exact (hVO.keep (hO.block _ hVO.lt (by simp; omega))).fn fun s a b => by rw [if_neg (by omega)]
    · exact (hVO.set t v' (by omega)).fn fun s a b => by
        by_cases he : s = t
        · rw [if_pos he, if_pos (by omega)]
        · rw [if_neg he, if_neg (by omega)]
  · unfold upd
    by_cases he : s = r
    · rw [if_pos he, if_pos he]; exact hfar hv
    · rw [if_neg he, if_neg he]; exact hfar (hoth s a b he)
  · by_cases h1 : s = r
    · rw [if_pos h1] at hs
      rw [if_neg (by omega)] at hq
      exact hdv q g a' b' (by omega) hs hq
    · rw [if_neg h1] at hs
      by_cases h2' : q = r
      · rw [if_pos h2'] at hq
        exact hdv s g a b h1 hq hs
      · rw [if_neg h2'] at hq
        exact h.dis s q g a b a' b' hsq hs hq
end
end Go.Proofs.Ytildfjlekplgjaa
