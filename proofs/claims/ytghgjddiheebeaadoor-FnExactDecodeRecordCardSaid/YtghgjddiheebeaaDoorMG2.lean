/- Lists of bytes copied. -/
import Derived.Test.YtghgjddiheebeaaDoorMF0
import Derived.Test.YtghgjddiheebeaaDoorMB
import Derived.Laws.CopyOwn
import Derived.Test.YtghgjddiheebeaaDoorMG1
import Derived.Shelf.Bin.BEPutUint16
import Derived.Shelf.Bin.BEPutUint32
import Derived.Shelf.Bin.BEPutUint64
import Derived.Deep.RegionHeld3
namespace Go.Proofs.YtghgjddiheebeaaDoor
open Go.RowKit
set_option linter.unusedSimpArgs false
set_option linter.unusedVariables false
theorem ints_cells1 {k : IntKind} : ∀ (xs : List Int), ∀ u ∈ xs.map (Value.int k), u.oneCell' = true := by
  intro xs u hu
  obtain ⟨x, _, rfl⟩ := List.mem_map.1 hu
  rfl
/-- What append(nothing, b..) leaves: b's bytes anew. -/
theorem clone_done {k : IntKind} {e : TypeId} {n : Nat} {w : World} {v : Value} {xs : List Int} (hw : ∀ x ∈ xs, (Lit.int k x).wf = true) (h : w.ownsRow n e 1 v xs.length (xs.map (.int k))) (hn : n ≤ w.heap.size) : Own (Rep.int k) e n w v xs :=
  ⟨_, [], h, cells_ints xs hw, by simp, NewIn.nil _ _, hn⟩
theorem NewPost.ofOwn {α : Type} {r : Rep α} {e : TypeId} {w w' : World} {v : Value} {xs : List α} {n : Nat} (h : Own r e n w' v xs) (hn : w.heap.size ≤ n) (hO : Ext w w') : NewPost r.slice xs w (.returned v) w' := by
  obtain ⟨F, hV, hF⟩ := h.done
  exact ⟨v, F, rfl, hV, hO, fun g hg => Nat.le_trans hn (hF.ge g hg), hF.nodup, hF.unfr⟩
theorem NewPost.nil {α : Type} {r : Rep α} {w w' : World} (hO : Ext w w') : NewPost r.slice [] w (.returned (.slice none 0 0)) w' :=
  ⟨_, [], rfl, Rep.slice_mk (xs := []) (Rep.sl_nil (by simp)), hO, by simp, by simp, by simp [Unfr]⟩

theorem Clone_calls (A : Option Addr) (c : Nat) (xs : List Int) (F : List Nat) (w : World) (h : (Rep.int .u8).sl w A c xs F) (hn : xs.length ≤ 70368744177664) :
    Calls Tryd.prog 63 #[.slice A xs.length c] w (NewPost (Rep.int .u8).slice xs w) := by
  obtain ⟨i0, hi, hz0, hz1, hz2⟩ := info_parts info5
  have Hwf := Lib.hid (sl_wf h)
  have hnil := fun (W : World) (a : Option Addr) (n c : Nat) => Lib.run_eql_slice_nil (P := Tryd.prog) W 22 5 a n c 0 0 Tryd.underlying22
  rcases A with _ | ad
  · obtain rfl : xs = [] := by
      rcases h.2.2 with ⟨e, _⟩ | ⟨_, _, _, _, e, _⟩
      · exact e
      · cases e
    go_enter Tryd.func63, Tryd.ntmps63
    go_wp2
    go_ret
    exact NewPost.nil (Only.refl _ _)
  have HC : Hid (∀ j u, (xs.map (Value.int .u8))[j]? = some u → w.cell? (ad.add j) = some u) := by
    by_cases hx : xs = []
    · subst hx; exact fun j u hu => by simp at hu
    · obtain ⟨g, off, e, hg, hc⟩ := sl_ints h hx
      injection e with e
      subst e
      exact hc
  clear h
  go_enter Tryd.func63, Tryd.ntmps63
  go_wp2_with (at_builtin; refine wpList_append_own_at _ rfl _ _ 22 rfl w.heap.size 5 i0 (.int .u8 0) 1 1 Tryd.underlying22 hi hz0 hz1 hz2 rfl (by decide) (.slice (some ⟨w.heap.size, 0, none⟩) 0 0) 0 [] rfl (World.ownsRow_made w #[] 0 (Nat.le_refl _) (by simp) (by simp)) ad xs.length c (xs.map (.int .u8)) rfl (by simp) (fun j u hu => (alloc_ext _ _).ecell (HC.out j u hu)) (ints_cells1 xs) (by unfold maxLen; omega) (by omega) (by simp) ?_; intro v' w' hown hgrow hnil2 hat)
  go_ret
  refine NewPost.ofOwn (clone_done Hwf.out (by simpa using hown) ?_) (Nat.le_refl _) ?_
  · have := hgrow.size; simp at this; omega
  · exact (alloc_ext _ _).grown hgrow (fun g he hlt => by simp [Value.ownBlock] at he; omega)
end Go.Proofs.YtghgjddiheebeaaDoor
/- Bytes copied onto bytes of the call's own. -/
namespace Go.Proofs.YtghgjddiheebeaaDoor
open Go.RowKit
set_option linter.unusedSimpArgs false
set_option linter.unusedVariables false
theorem splice_at {α : Type} (L : List α) (off : Nat) (cs : List α) (h : off + cs.length ≤ L.length) (j : Nat) : (splice L off cs)[j]? = if off ≤ j ∧ j < off + cs.length then cs[j - off]? else L[j]? := by
  unfold splice
  split
  · rename_i hj
    rw [List.getElem?_append_right (by simp; omega), List.getElem?_append_left (by simp; omega)]
    simp [Nat.min_eq_left (show off ≤ L.length by omega)]
  · rename_i hj
    by_cases h1 : j < off
    · rw [List.getElem?_append_left (by simp; omega)]
      simp [h1]
    · rw [List.getElem?_append_right (by simp; omega), List.getElem?_append_right (by simp; omega)]
      simp only [List.length_take, List.getElem?_drop, Nat.min_eq_left (show off ≤ L.length by omega)]
      congr 1
      omega
/-- Numbers laid over a part of a list. -/
theorem sl_splice {k : IntKind} {w : World} {A : Option Addr} {c : Nat} {xs ys : List Int} {F : List Nat} (h : (Rep.int k).sl w A c xs F) (hu : Unfr w F) (o : Nat) (hy : o + ys.length ≤ xs.length) (h0 : 0 < xs.length) (hw : ∀ y ∈ ys, (Lit.int k y).wf = true) :
    ∃ g off, A = some ⟨g, off, none⟩ ∧ F = [g] ∧ g < w.heap.size ∧ (∀ j, j < ys.length → (w.cell? ⟨g, off + o + j, none⟩).isSome = true) ∧ (∀ j, w.frozen? ⟨g, j, none⟩ = false) ∧
      (Rep.int k).sl (w.setCells g (off + o) (ys.map (.int k))) A c (splice xs o ys) F ∧ Unfr (w.setCells g (off + o) (ys.map (.int k))) F := by
  obtain ⟨hl, hm, ⟨rfl, _⟩ | ⟨g, off, G, cs, rfl, rfl, hg, hr, hc⟩⟩ := id h
  · simp at h0
  obtain ⟨rfl, rfl, hwf⟩ := cells_ints_inv hr
  have hcell : ∀ j, j < xs.length → w.cell? ⟨g, off + j, none⟩ = some (.int k (xs[j]?.getD 0)) := fun j hj => hc j _ (by simp [hj])
  have hin : ∀ j, j < ys.length → (w.cell? ⟨g, off + o + j, none⟩).isSome = true := fun j hj => by
    rw [Nat.add_assoc, hcell (o + j) (by omega)]; rfl
  refine ⟨g, off, rfl, rfl, hg, hin, fun j => hu g (by simp) j, ⟨by rw [length_splice _ _ _ hy]; exact hl, hm, .inr ⟨g, off, [], _, rfl, rfl, by rw [size_setCells]; exact hg, cells_ints _ ?_, fun j u hu' => ?_⟩⟩, Unfr.cells hu _ _ _⟩
  · intro x hx
    simp only [splice, List.mem_append] at hx
    rcases hx with hx | hx | hx
    · exact hwf x (List.mem_of_mem_take hx)
    · exact hw x hx
    · exact hwf x (List.mem_of_mem_drop hx)
  · rw [List.getElem?_map, splice_at _ _ _ hy] at hu'
    by_cases hj : o ≤ j ∧ j < o + ys.length
    · rw [if_pos hj] at hu'
      have := World.cell?_setCells_in g (ys.map (.int k)) (off + o) w (fun i hi => hin i (by simpa using hi)) (j - o) (by simp; omega)
      rw [show off + o + (j - o) = off + j by omega] at this
      rw [this]
      rw [List.getElem?_eq_getElem (by omega)] at hu'
      simpa using hu'
    · rw [if_neg hj] at hu'
      rw [World.cell?_setCells_out g (ys.map (.int k)) (off + o) w ⟨g, off + j, none⟩ (fun _ _ => by simp; omega)]
      exact hc j u (by rw [List.getElem?_map]; exact hu')
end Go.Proofs.YtghgjddiheebeaaDoor
/- Bytes laid over bytes: the plain laws; the library's writers. -/
namespace Go.Proofs.YtghgjddiheebeaaDoor
open Go.RowKit Go.Shelf
set_option linter.unusedSimpArgs false
set_option linter.unusedVariables false
shelf_lay LaysBin.n37 Mn 37 at Tryd as laysP16
shelf_lay LaysBin.n40 Mn 40 at Tryd as laysP32
shelf_lay LaysBin.n43 Mn 43 at Tryd as laysP64
/-- The k least bytes of v, the greatest first. -/
def beL : Nat → Nat → List Int
  | 0, _ => []
  | k + 1, v => beL k (v / 256) ++ [((v % 256 : Nat) : Int)]
theorem beL_length : ∀ (k v : Nat), (beL k v).length = k
  | 0, _ => rfl
  | k + 1, v => by simp [beL, beL_length k]
theorem beL_byte : ∀ (k v : Nat), ∀ z ∈ beL k v, 0 ≤ z ∧ z ≤ 255
  | 0, _, z, h => by cases h
  | k + 1, v, z, h => by
    rw [beL, List.mem_append] at h
    rcases h with h | h
    · exact beL_byte k _ z h
    · obtain rfl : z = ((v % 256 : Nat) : Int) := by simpa using h
      omega
theorem beL_cells : ∀ (k v : Nat), Lib.byteCells (Lib.beBytes k v) = (beL k v).map (.int .u8)
  | 0, v => rfl
  | k + 1, v => by
    have ih := beL_cells k (v / 256)
    simp only [Lib.byteCells, Lib.beBytes, Lib.leBytes, List.reverse_cons, List.map_append, beL, List.map_cons, List.map_nil, Lib.toUInt8_mod] at ih ⊢
    rw [ih]
theorem beFromZ_app : ∀ (l m : List Int) (a : Int), Lib.beFromZ a (l ++ m) = Lib.beFromZ (Lib.beFromZ a l) m
  | [], m, a => rfl
  | z :: l, m, a => by simp only [List.cons_append, Lib.beFromZ]; exact beFromZ_app l m _
theorem beZ_beL : ∀ (k v : Nat), v < 256 ^ k → Lib.beZ (beL k v) = v
  | 0, v, h => by simp at h; subst h; rfl
  | k + 1, v, h => by
    have h2 : v / 256 < 256 ^ k := by
      rw [Nat.pow_succ] at h
      exact Nat.div_lt_of_lt_mul (by rw [Nat.mul_comm]; exact h)
    have ih := beZ_beL k _ h2
    show Lib.beFromZ 0 (beL k (v / 256) ++ [_]) = _
    rw [beFromZ_app]
    change Lib.beFromZ 0 (beL k (v / 256)) = _ at ih
    rw [ih]
    simp only [Lib.beFromZ]
    omega
theorem splice_len {α : Type} (L : List α) (o : Nat) (cs : List α) (h : o + cs.length ≤ L.length) : (splice L o cs).length = L.length := by
  simp only [splice, List.length_append, List.length_take, List.length_drop]; omega
theorem splice_get {α : Type} (L : List α) (off : Nat) (cs : List α) (h : off + cs.length ≤ L.length) (j : Nat) : (splice L off cs)[j]? = if off ≤ j ∧ j < off + cs.length then cs[j - off]? else L[j]? := by
  unfold splice
  split
  · rename_i hj
    rw [List.getElem?_append_right (by simp; omega), List.getElem?_append_left (by simp; omega)]
    simp [Nat.min_eq_left (show off ≤ L.length by omega)]
  · rename_i hj
    by_cases h1 : j < off
    · rw [List.getElem?_append_left (by simp; omega)]
      simp [h1]
    · rw [List.getElem?_append_right (by simp; omega), List.getElem?_append_right (by simp; omega)]
      simp only [List.length_take, List.getElem?_drop, Nat.min_eq_left (show off ≤ L.length by omega)]
      congr 1
      omega
end Go.Proofs.YtghgjddiheebeaaDoor
/- Compaction: the plain law. -/
namespace Go.Proofs.YtghgjddiheebeaaDoor
open Go.RowKit
set_option linter.unusedSimpArgs false
set_option linter.unusedVariables false
def cDat (p : List Int) (i : Nat) : List Int := (p.drop (slO p i).toNat).take (slN p i).toNat
def cBot (p : List Int) : Nat → Nat
  | 0 => 4096
  | k + 1 => cBot p k - (slN p k).toNat
/-- One slot moved. -/
def cStep (p L : List Int) (i : Nat) : List Int :=
  if slO p i = 0 then L else splice (splice (splice L (cBot p (i + 1)) (cDat p i)) (20 + 4 * i) (beL 2 (cBot p (i + 1)))) (20 + 4 * i + 2) (beL 2 (slN p i).toNat)
def cUp (p L : List Int) : Nat → List Int
  | 0 => L
  | k + 1 => cStep p (cUp p L k) k
def zeros (n : Nat) : List Int := List.replicate n 0
theorem zeros_len (n : Nat) : (zeros n).length = n := List.length_replicate
theorem zeros_at (n j : Nat) : (zeros n)[j]? = if j < n then some 0 else none := List.getElem?_replicate
def headI (p : List Int) : List Int := splice (zeros 4096) 0 (p.take 20)
def headS (p : List Int) : List Int := p.take 148 ++ zeros 3948
/-- What compaction leans on. -/
structure Wf (p : List Int) : Prop where
  len : p.length = 4096
  byte : ∀ z ∈ p, 0 ≤ z ∧ z ≤ 255
  zero : pageFault p (beAt p 12 4) = 0
section
variable {p : List Int} (h : Wf p)
include h
theorem Wf.slot (i : Nat) (hi : i < 32) : 0 ≤ slO p i ∧ 0 ≤ slN p i ∧ slO p i ≤ 4096 ∧ slN p i ≤ 1000 ∧ slO p i + slN p i ≤ 4096 ∧ (slO p i = 0 → slN p i = 0) ∧ (slO p i ≠ 0 → 148 ≤ slO p i) := by
  have h1 := (beAt_u16 h.byte (20 + 4 * i)).1
  have h2 := (beAt_u16 h.byte (20 + 4 * i + 2)).1
  obtain ⟨_, _, _, _, h5, h6, h7, _⟩ := fault_zero h.zero
  have h8 := h7 i hi
  change 0 ≤ slO p i at h1
  change 0 ≤ slN p i at h2
  omega
theorem Wf.bot (k : Nat) (hk : k ≤ 32) : cBot p k = 4096 - sumN p k ∧ 148 ≤ cBot p k ∧ cBot p k ≤ 4096 := by
  have h1 := sumN_room h.byte h.zero
  have h2 := sumN_mono p hk
  obtain ⟨_, _, _, _, h5, h6, _, _⟩ := fault_zero h.zero
  have h3 : ∀ m, cBot p m = 4096 - sumN p m := by
    intro m
    induction m with
    | zero => rfl
    | succ m ih => simp only [cBot, sumN, ih]; omega
  have := h3 k
  omega
theorem Wf.bot_succ (k : Nat) (hk : k < 32) : cBot p (k + 1) + (slN p k).toNat = cBot p k ∧ cBot p (k + 1) = cBot p k - (slN p k).toNat := by
  have h1 := h.bot (k + 1) (by omega)
  have h2 := h.bot k (by omega)
  refine ⟨?_, rfl⟩
  simp only [cBot] at h1 ⊢
  omega
theorem Wf.dat (i : Nat) (hi : i < 32) : (cDat p i).length = (slN p i).toNat := by
  have := h.slot i hi
  have := h.len
  simp [cDat]; omega
theorem Wf.step_len {L : List Int} (hL : L.length = 4096) (i : Nat) (hi : i < 32) : (cStep p L i).length = 4096 := by
  unfold cStep
  split
  · exact hL
  · have h1 := h.bot (i + 1) (by omega)
    have h2 := h.bot_succ i hi
    have h3 := h.dat i hi
    have h4 := (h.bot i (by omega)).2.2
    have e1 : (splice L (cBot p (i + 1)) (cDat p i)).length = 4096 := by rw [splice_len _ _ _ (by omega), hL]
    have e2 : (splice (splice L (cBot p (i + 1)) (cDat p i)) (20 + 4 * i) (beL 2 (cBot p (i + 1)))).length = 4096 := by rw [splice_len _ _ _ (by rw [beL_length]; omega), e1]
    rw [splice_len _ _ _ (by rw [beL_length]; omega), e2]
theorem Wf.up_len {L : List Int} (hL : L.length = 4096) : ∀ k, k ≤ 32 → (cUp p L k).length = 4096
  | 0, _ => hL
  | k + 1, hk => h.step_len (Wf.up_len hL k (by omega)) k (by omega)
theorem Wf.headI_len : (headI p).length = 4096 := by
  have := h.len
  rw [headI, splice_len _ _ _ (by rw [zeros_len, List.length_take]; omega), zeros_len]
theorem Wf.headS_len : (headS p).length = 4096 := by
  have := h.len
  rw [headS, List.length_append, List.length_take, zeros_len]; omega
theorem Wf.step_at {L : List Int} (hL : L.length = 4096) (i : Nat) (hi : i < 32) (ho : slO p i ≠ 0) (j : Nat) :
    (cStep p L i)[j]? = if 20 + 4 * i + 2 ≤ j ∧ j < 20 + 4 * i + 2 + 2 then (beL 2 (slN p i).toNat)[j - (20 + 4 * i + 2)]? else if 20 + 4 * i ≤ j ∧ j < 20 + 4 * i + 2 then (beL 2 (cBot p (i + 1)))[j - (20 + 4 * i)]?
      else if cBot p (i + 1) ≤ j ∧ j < cBot p (i + 1) + (slN p i).toNat then (cDat p i)[j - cBot p (i + 1)]? else L[j]? := by
  have h1 := h.bot (i + 1) (by omega)
  have h2 := h.bot_succ i hi
  have h3 := h.dat i hi
  have h4 := (h.bot i (by omega)).2.2
  have e1 : (splice L (cBot p (i + 1)) (cDat p i)).length = 4096 := by rw [splice_len _ _ _ (by omega), hL]
  have e2 : (splice (splice L (cBot p (i + 1)) (cDat p i)) (20 + 4 * i) (beL 2 (cBot p (i + 1)))).length = 4096 := by rw [splice_len _ _ _ (by rw [beL_length]; omega), e1]
  rw [cStep, if_neg ho, splice_get _ _ _ (by rw [beL_length]; omega), splice_get _ _ _ (by rw [beL_length]; omega), splice_get _ _ _ (by omega), beL_length, beL_length, h3]
theorem Wf.same : ∀ k, k ≤ 32 → (∀ j, (j < 20 + 4 * k ∨ 148 ≤ j) → (cUp p (headS p) k)[j]? = (cUp p (headI p) k)[j]?) ∧ (∀ j, 20 + 4 * k ≤ j → j < 148 → (cUp p (headS p) k)[j]? = p[j]? ∧ (cUp p (headI p) k)[j]? = some 0)
  | 0, _ => by
    have hl := h.len
    have e1 : ∀ j, (headI p)[j]? = if j < 20 then p[j]? else (zeros 4096)[j]? := fun j => by
      rw [headI, splice_get _ _ _ (by rw [zeros_len, List.length_take]; omega)]
      simp only [List.length_take, hl, Nat.zero_le, true_and, Nat.sub_zero, Nat.zero_add]
      by_cases hj : j < 20
      · rw [if_pos (by omega), if_pos hj, List.getElem?_take, if_pos hj]
      · rw [if_neg (by omega), if_neg hj]
    have e2 : ∀ j, (headS p)[j]? = if j < 148 then p[j]? else (zeros 3948)[j - 148]? := fun j => by
      rw [headS]
      by_cases hj : j < 148
      · rw [if_pos hj, List.getElem?_append_left (by rw [List.length_take]; omega), List.getElem?_take, if_pos hj]
      · rw [if_neg hj, List.getElem?_append_right (by rw [List.length_take]; omega)]
        rw [List.length_take, show min 148 p.length = 148 by omega]
    refine ⟨fun j hj => ?_, fun j h1 h2 => ?_⟩
    · refine Eq.trans (b := (headS p)[j]?) rfl (Eq.trans (b := (headI p)[j]?) ?_ rfl)
      rw [e1, e2]
      by_cases hj2 : j < 20
      · rw [if_pos (by omega), if_pos hj2]
      · rw [if_neg (by omega), if_neg hj2, zeros_at, zeros_at]
        by_cases hj3 : j < 4096
        · rw [if_pos (by omega), if_pos hj3]
        · rw [if_neg (by omega), if_neg hj3]
    · refine ⟨?_, ?_⟩
      · show (headS p)[j]? = _
        rw [e2, if_pos h2]
      · show (headI p)[j]? = _
        rw [e1, if_neg (by omega), zeros_at, if_pos (by omega)]
  | k + 1, hk => by
    obtain ⟨i1, i2⟩ := Wf.same k (by omega)
    have hk' : k < 32 := by omega
    have hl := h.len
    have l1 := h.up_len h.headS_len k (by omega)
    have l2 := h.up_len h.headI_len k (by omega)
    have hb := h.bot (k + 1) hk
    by_cases ho : slO p k = 0
    · have e : ∀ L, cUp p L (k + 1) = cUp p L k := fun L => by show cStep _ _ _ = _; rw [cStep, if_pos ho]
      rw [e, e]
      have hn : slN p k = 0 := (h.slot k hk').2.2.2.2.2.1 ho
      have hz : ∀ j, 20 + 4 * k ≤ j → j < 20 + 4 * k + 4 → p[j]? = some 0 := by
        have b1 := beAt_two (p := p) (20 + 4 * k) (by omega)
        have b2 := beAt_two (p := p) (20 + 4 * k + 2) (by omega)
        have g : ∀ j, j < 4096 → p[j]? = some (p.getD j 0) ∧ 0 ≤ p.getD j 0 := fun j hj => by
          have hj' : j < p.length := by omega
          rw [List.getD, List.getElem?_eq_getElem hj']
          exact ⟨rfl, (h.byte _ (List.getElem_mem _)).1⟩
        change slO p k = _ at b1
        change slN p k = _ at b2
        intro j h1 h2
        have g0 := g (20 + 4 * k) (by omega); have g1 := g (20 + 4 * k + 1) (by omega); have g2 := g (20 + 4 * k + 2) (by omega); have g3 := g (20 + 4 * k + 2 + 1) (by omega)
        rw [ho] at b1
        rw [hn] at b2
        have z0 : p.getD (20 + 4 * k) 0 = 0 := by omega
        have z1 : p.getD (20 + 4 * k + 1) 0 = 0 := by omega
        have z2 : p.getD (20 + 4 * k + 2) 0 = 0 := by omega
        have z3 : p.getD (20 + 4 * k + 2 + 1) 0 = 0 := by omega
        rw [z0] at g0
        rw [z1] at g1
        rw [z2] at g2
        rw [z3] at g3
        have hj : j = 20 + 4 * k ∨ j = 20 + 4 * k + 1 ∨ j = 20 + 4 * k + 2 ∨ j = 20 + 4 * k + 2 + 1 := by omega
        rcases hj with rfl | rfl | rfl | rfl
        · exact g0.1
        · exact g1.1
        · exact g2.1
        · exact g3.1
      refine ⟨fun j hj => ?_, fun j h1 h2 => i2 j (by omega) h2⟩
      by_cases hj2 : j < 20 + 4 * k ∨ 148 ≤ j
      · exact i1 j hj2
      · obtain ⟨q1, q2⟩ := i2 j (by omega) (by omega)
        rw [q1, q2, hz j (by omega) (by omega)]
    · have s1 := h.step_at l1 k hk' ho
      have s2 := h.step_at l2 k hk' ho
      have e : ∀ (L : List Int) (j : Nat), (cUp p L (k + 1))[j]? = (cStep p (cUp p L k) k)[j]? := fun L j => rfl
      refine ⟨fun j hj => ?_, fun j h1 h2 => ?_⟩
      · rw [e, e, s1, s2]
        by_cases c1 : 20 + 4 * k + 2 ≤ j ∧ j < 20 + 4 * k + 2 + 2
        · rw [if_pos c1, if_pos c1]
        · rw [if_neg c1, if_neg c1]
          by_cases c2 : 20 + 4 * k ≤ j ∧ j < 20 + 4 * k + 2
          · rw [if_pos c2, if_pos c2]
          · rw [if_neg c2, if_neg c2, i1 j (by omega)]
      · obtain ⟨q1, q2⟩ := i2 j (by omega) h2
        rw [e, e, s1, s2, if_neg (by omega), if_neg (by omega), if_neg (by omega), if_neg (by omega), if_neg (by omega), if_neg (by omega)]
        exact ⟨q1, q2⟩
end
theorem Wf.of {w : World} {A : Option Addr} {c : Nat} {p : List Int} {F : List Nat} (h : (Rep.int .u8).sl w A c p F) (hw : wellF p = true) : Wf p :=
  ⟨(fault_zero (wellF_iff.1 hw)).1, fun z hz => Lib.byte_of_wf (sl_wf h z hz), wellF_iff.1 hw⟩
end Go.Proofs.YtghgjddiheebeaaDoor
/- A buffer of one's own: writes. -/
namespace Go.Proofs.YtghgjddiheebeaaDoor
open Go.RowKit
set_option linter.unusedSimpArgs false
set_option linter.unusedVariables false
/-- Bytes of the call's own, on one block. -/
structure Buf (w : World) (g off c : Nat) (xs : List Int) : Prop where
  sl : (Rep.int .u8).sl w (some ⟨g, off, none⟩) c xs [g]
  un : Unfr w [g]
theorem Buf.lt {w : World} {g off c : Nat} {xs : List Int} (h : Buf w g off c xs) : g < w.heap.size := Rep.sl_lt h.sl g (by simp)
theorem Buf.ext {w w' : World} {g off c : Nat} {xs : List Int} (h : Buf w g off c xs) (hE : Ext w w') : Buf w' g off c xs :=
  ⟨Rep.sl_ext h.sl hE, h.un.ext hE (fun b hb => Rep.sl_lt h.sl b hb)⟩
/-- A byte written. -/
theorem Buf.set {w : World} {g off c : Nat} {xs : List Int} (h : Buf w g off c xs) (i : Nat) (hi : i < xs.length) (z : Int) (hz : (Lit.int .u8 z).wf = true) : Buf (w.setCell ⟨g, off + i, none⟩ (.int .u8 z)) g off c (splice xs i [z]) := by
  obtain ⟨g', off', e, -, -, -, -, h1, h2⟩ := sl_splice (ys := [z]) h.sl h.un i (by simp; omega) (by omega) (fun y hy => by simp at hy; subst hy; exact hz)
  injection e with e
  injection e with e1 e2
  subst e1; subst e2
  exact ⟨h1, h2⟩
end Go.Proofs.YtghgjddiheebeaaDoor
/- The program's compaction. -/
namespace Go.Proofs.YtghgjddiheebeaaDoor
open Go.RowKit
set_option linter.unusedSimpArgs false
set_option linter.unusedVariables false
/-- A part of a page as a source. -/
theorem sl_src {w : World} {g off c : Nat} {xs : List Int} {F : List Nat} (h : (Rep.int .u8).sl w (some ⟨g, off, none⟩) c xs F) (a n : Nat) :
    ∀ j v, (((xs.drop a).take n).map (Value.int .u8))[j]? = some v → w.cell? ((⟨g, off + a, none⟩ : Addr).add j) = some v := by
  intro j v hv
  rw [addp]
  rw [List.getElem?_map, List.getElem?_take] at hv
  split at hv
  · rename_i hj
    rw [List.getElem?_drop] at hv
    by_cases hi : a + j < xs.length
    · have := sl_byte h (a + j) hi
      rw [List.getElem?_eq_getElem hi] at hv
      rw [List.getD, List.getElem?_eq_getElem hi] at this
      simp at hv this
      rw [Nat.add_assoc, this, hv]
    · rw [List.getElem?_eq_none (by omega)] at hv
      cases hv
  · simp at hv
end Go.Proofs.YtghgjddiheebeaaDoor
/- The reference's PutNumber. -/
namespace Go.Proofs.YtghgjddiheebeaaDoor
open Go.RowKit
set_option linter.unusedSimpArgs false
set_option linter.unusedVariables false
theorem beL_cons : ∀ (k v : Nat), beL (k + 1) v = ((v / 256 ^ k % 256 : Nat) : Int) :: beL k v
  | 0, v => by simp [beL]
  | k + 1, v => by
    have ih := beL_cons k (v / 256)
    rw [beL, ih]
    show _ = _ :: (beL k (v / 256) ++ [_])
    rw [List.cons_append, Nat.div_div_eq_div_mul, Nat.pow_succ, Nat.mul_comm 256]
theorem zeros_snoc (n : Nat) : zeros (n + 1) = zeros n ++ [0] := by
  rw [zeros, zeros, List.replicate_succ']
theorem bytes_new (w : World) (n : Nat) (hn : n ≤ maxLen) : Buf (w.alloc (.cells (Array.replicate n (.int .u8 0)) 5)) w.heap.size 0 n (zeros n) := by
  refine ⟨⟨by rw [zeros_len]; exact Nat.le_refl _, hn, .inr ⟨w.heap.size, 0, [], (zeros n).map (.int .u8), rfl, rfl, by simp, cells_ints _ ?_, fun j u hu => ?_⟩⟩, ?_⟩
  · intro x hx
    obtain ⟨_, rfl⟩ := List.mem_replicate.1 hx
    rfl
  · rw [Nat.zero_add, World.cell?_alloc_at _ _ _ _ rfl]
    rw [List.getElem?_map, zeros_at] at hu
    split at hu
    · rename_i hj
      simp at hu
      subst hu
      simp [hj]
    · simp at hu
  · intro b hb j
    simp only [List.mem_singleton] at hb
    subst hb
    exact World.frozen?_alloc_at _ _ _ _ rfl
theorem mk_bytes (w : World) (n : Nat) (hn : n ≤ 4096) : (Instr.makeSlice 22 (.int .i64 n) (.int .i64 n)).run Tryd.prog w = .ok (.slice (some ⟨w.heap.size, 0, none⟩) n n) (w.alloc (.cells (Array.replicate n (.int .u8 0)) 5)) := by
  obtain ⟨i0, hi, hz0, hz1, hz2⟩ := info_parts info5
  have h := run_make (P := Tryd.prog) w 22 5 i0 _ Tryd.underlying22 hi hz0 .i64 .i64 n n (by omega) (by omega) (by rw [hz2]; omega) (by omega)
  rw [hz1, made_one _ _ rfl] at h
  simpa using h
def numUp (n v k : Nat) : List Int := zeros (n - k) ++ beL k v
theorem numUp_succ (n v k : Nat) (hk : k < n) : numUp n v (k + 1) = splice (numUp n v k) (n - 1 - k) [((v / 256 ^ k % 256 : Nat) : Int)] := by
  have e : n - k = (n - 1 - k) + 1 := by omega
  rw [numUp, numUp, e, zeros_snoc, beL_cons, show n - (k + 1) = n - 1 - k by omega]
  generalize n - 1 - k = m
  rw [splice, List.append_assoc, List.take_append_of_le_length (by rw [zeros_len]; exact Nat.le_refl _), List.take_of_length_le (by rw [zeros_len]; exact Nat.le_refl _)]
  rw [List.drop_append, List.drop_of_length_le (by rw [zeros_len]; simp), zeros_len]
  simp
set_option maxRecDepth 100000 in
set_option maxHeartbeats 4000000 in
theorem putNumber_calls (w : World) (n v : Nat) (z nz : Int) (hz : z = v) (hnz : nz = n) (h1 : 1 ≤ n) (h8 : n ≤ 8) (hv : v < 256 ^ n) (hv2 : v < 4611686018427387904) :
    Calls Tryd.prog 54 #[.int .i64 z, .int .i64 nz] w fun e w' => ∃ B, e = .returned (.slice (some ⟨B, 0, none⟩) n n) ∧ w.heap.size ≤ B ∧ Buf w' B 0 n (beL n v) ∧ Ext w w' := by
  subst hz; subst hnz
  obtain ⟨up, hup⟩ : ∃ up : Nat → Nat, up = fun k => v / 256 ^ k := ⟨_, rfl⟩
  have HU0 := Lib.hid (show up 0 = v by rw [hup]; simp)
  have HUS := Lib.hid (show ∀ k, up (k + 1) = up k / 256 by rw [hup]; intro k; simp only; rw [Nat.pow_succ, Nat.div_div_eq_div_mul])
  have HUN := Lib.hid (show up n = 0 by rw [hup]; exact Nat.div_eq_of_lt hv)
  have HUB := Lib.hid (show ∀ k, up k < 4611686018427387904 by rw [hup]; intro k; exact Nat.lt_of_le_of_lt (Nat.div_le_self _ _) hv2)
  obtain ⟨L, hL⟩ : ∃ L, L = numUp n v := ⟨_, rfl⟩
  have HL0 := Lib.hid (show L 0 = zeros n by rw [hL, numUp]; simp [beL])
  have HLS := Lib.hid (show ∀ k, k < n → L (k + 1) = splice (L k) (n - 1 - k) [((up k % 256 : Nat) : Int)] by rw [hL, hup]; exact fun k hk => numUp_succ n v k hk)
  have HLN := Lib.hid (show L n = beL n v by rw [hL, numUp, Nat.sub_self]; rfl)
  have HLL := Lib.hid (show ∀ k, k ≤ n → (L k).length = n by rw [hL]; intro k hk; rw [numUp, List.length_append, zeros_len, beL_length]; omega)
  have HB0 := Lib.hid (bytes_new w n (by unfold maxLen; omega))
  have hmk := mk_bytes w n (by omega)
  have g1 : ¬ (n : Int) < 1 := by omega
  have g2 : ¬ 8 < (n : Int) := by omega
  have g2' : ¬ 8 < n := by omega
  have g3 : ¬ (v : Int) < 0 := by omega
  have g4 : IntKind.i64.wrap ((n : Int) - 1) = (n : Int) - 1 := by rw [IntKind.wrap_i64]; omega
  have HV := Lib.hid (show v = up 0 from HU0.out.symm)
  clear hup hL hv
  go_enter Tryd.func54, Tryd.ntmps54
  go_wp2
  clear hmk
  go_loopg [0, 6] n (fun m a i wr => ∃ k : Nat, m + k = n ∧ a = .int .i64 (up k) ∧ i = .int .i64 ((n : Int) - 1 - k) ∧ Hid (Buf wr w.heap.size 0 n (L k)) ∧ Ext w wr)
  case atStart => exact ⟨0, by simp, by rw [HU0.out], by simp, by rw [HL0.out]; exact HB0, alloc_ext _ _⟩
  case round =>
    obtain ⟨k, hmk, rfl, rfl, HBF, hE⟩ := hrel
    have HE := Lib.hid hE; have HMK := Lib.hid hmk
    clear hE hmk
    by_cases hlt : k < n
    · have hu := HUB.out k
      have hus := HUS.out k
      have hls := HLS.out k hlt
      have hll := HLL.out k (by omega)
      obtain ⟨i, hi⟩ : ∃ i : Nat, i = n - 1 - k := ⟨_, rfl⟩
      have e1 : (n : Int) - 1 - (k : Int) = (i : Int) := by omega
      rw [← hi] at hls
      rw [e1]
      have HNX := Lib.hid (show (i : Int) - 1 = (n : Int) - 1 - ((k + 1 : Nat) : Int) by omega)
      generalize up k = u at *
      obtain ⟨u', hu'⟩ : ∃ x, x = up (k + 1) := ⟨_, rfl⟩
      rw [← hu'] at hus
      have HUQ := Lib.hid hu'
      clear hu'
      have t1 : Int.tmod (u : Int) 256 = ((u % 256 : Nat) : Int) := by rw [Int.tmod_eq_emod_of_nonneg (by omega)]; first | done | rfl | omega
      have t2 : Int.tdiv (u : Int) 256 = (u' : Int) := by rw [Int.tdiv_eq_ediv_of_nonneg (by omega)]; omega
      have t3 : IntKind.u8.wrap ((u % 256 : Nat) : Int) = ((u % 256 : Nat) : Int) := by
        simp [IntKind.wrap, IntKind.min, IntKind.max, IntKind.signed, IntKind.bits]
      have t4 : IntKind.i64.wrap (u' : Int) = (u' : Int) := by rw [IntKind.wrap_i64]; omega
      have t5 : IntKind.i64.wrap ((i : Int) - 1) = (i : Int) - 1 := by rw [IntKind.wrap_i64]; omega
      have t6 : (0 : Int) ≤ (i : Int) := by omega
      have t7 : (i : Int) < (n : Int) := by omega
      have t8 : (i : Int).toNat = i := by omega
      generalize hr : u % 256 = r at *
      have hset := Buf.set HBF.out i (by rw [hll]; omega) (r : Int) (by
        have : r < 256 := by omega
        simp only [Lit.wf, IntKind.min, IntKind.max, IntKind.signed, IntKind.bits]; simp; omega)
      rw [Nat.zero_add] at hset
      have hc := sl_byte HBF.out.sl i (by rw [hll]; omega)
      rw [Nat.zero_add] at hc
      have hf := HBF.out.un w.heap.size (by simp) i
      have HST := Lib.hid hset; have HLS2 := Lib.hid hls
      have HU2 := Lib.hid hus
      clear hset hls hus hr hi e1 hu hll
      go_wp2
      go_roundg (n - (k + 1))
      case measure => have := HMK.out; omega
      case rel =>
        exact ⟨k + 1, by have := HMK.out; omega, by rw [HUQ.out], by rw [HNX.out], Lib.hid (by rw [HLS2.out]; exact HST.out), HE.out.setCell (fun h => absurd h (by simp)) _⟩
    · have hk : k = n := by have := HMK.out; omega
      subst hk
      have e0 := HUN.out
      have e2 : (k : Int) - 1 - (k : Int) = -1 := by omega
      rw [e2, e0]
      go_wp2
      go_ret
      exact ⟨w.heap.size, rfl, Nat.le_refl _, by rw [← HLN.out]; exact HBF.out, HE.out⟩
end Go.Proofs.YtghgjddiheebeaaDoor
/- The reference's l3Set, PageGet. -/
namespace Go.Proofs.YtghgjddiheebeaaDoor
open Go.RowKit
set_option linter.unusedSimpArgs false
set_option linter.unusedVariables false
/-- A number laid over the buffer: copy(out[p:], PutNumber(v, n)). -/
theorem sl_all {w : World} {g off c : Nat} {xs : List Int} {F : List Nat} (h : (Rep.int .u8).sl w (some ⟨g, off, none⟩) c xs F) :
    ∀ j v, (xs.map (Value.int .u8))[j]? = some v → w.cell? ((⟨g, off, none⟩ : Addr).add j) = some v := by
  have := sl_src h 0 xs.length
  simpa using this
end Go.Proofs.YtghgjddiheebeaaDoor
/- PageCompact: the contracts. -/
namespace Go.Proofs.YtghgjddiheebeaaDoor
open Go.RowKit
set_option linter.unusedSimpArgs false
set_option linter.unusedVariables false
theorem NewPost.weak2 {α : Type} {r : Rep α} {x : α} {w : World} {e : Ending} {w' : World} (h : NewPost r x w e w') : ∃ v F, e = .returned v ∧ r.V w' v x F ∧ Ext w w' := by
  obtain ⟨v, F, h1, h2, h3⟩ := h
  exact ⟨v, F, h1, h2, h3.ext⟩
end Go.Proofs.YtghgjddiheebeaaDoor
