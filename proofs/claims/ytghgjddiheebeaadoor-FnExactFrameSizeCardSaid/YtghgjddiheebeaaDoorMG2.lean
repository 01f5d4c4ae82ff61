/- Lists of bytes copied. -/
import Derived.Test.YtghgjddiheebeaaDoorMF0
import Derived.Test.YtghgjddiheebeaaDoorMB
import Derived.Laws.CopyOwn
import Derived.Test.YtghgjddiheebeaaDoorMG1
import Derived.Shelf.Bin.BEPutUint16
import Derived.Shelf.Bin.BEPutUint32
import Derived.Shelf.Bin.BEPutUint64
import Derived.Deep.RegionHeld3
namespace Go.Proofs.YtghgjddiheebeaaDoor
open Go.RowKit
set_option linter.unusedSimpArgs false
set_option linter.unusedVariables false
theorem ints_cells1 {k : IntKind} : ∀ (xs : List Int), ∀ u ∈ xs.map (Value.int k), u.oneCell' = true := by
  intro xs u hu
  obtain ⟨x, _, rfl⟩ := List.mem_map.1 hu
  rfl
/-- What append(nothing, b..) leaves: b's bytes anew. -/
theorem clone_done {k : IntKind} {e : TypeId} {n : Nat} {w : World} {v : Value} {xs : List Int} (hw : ∀ x ∈ xs, (Lit.int k x).wf = true) (h : w.ownsRow n e 1 v xs.length (xs.map (.int k))) (hn : n ≤ w.heap.size) : Own (Rep.int k) e n w v xs :=
  ⟨_, [], h, cells_ints xs hw, by simp, NewIn.nil _ _, hn⟩
theorem NewPost.ofOwn {α : Type} {r : Rep α} {e : TypeId} {w w' : World} {v : Value} {xs : List α} {n : Nat} (h : Own r e n w' v xs) (hn : w.heap.size ≤ n) (hO : Ext w w') : NewPost r.slice xs w (.returned v) w' := by
  obtain ⟨F, hV, hF⟩ := h.done
  exact ⟨v, F, rfl, hV, hO, fun g hg => Nat.le_trans hn (hF.ge g hg), hF.nodup, hF.unfr⟩
theorem NewPost.nil {α : Type} {r : Rep α} {w w' : World} (hO : Ext w w') : NewPost r.slice [] w (.returned (.slice none 0 0)) w' :=
  ⟨_, [], rfl, Rep.slice_mk (xs := []) (Rep.sl_nil (by simp)), hO, by simp, by simp, by simp [Unfr]⟩

theorem l1Copy_calls (A : Option Addr) (c : Nat) (xs : List Int) (F : List Nat) (w : World) (h : (Rep.int .u8).sl w A c xs F) (hn : xs.length ≤ 70368744177664) :
    Calls Tryd.prog 51 #[.slice A xs.length c] w (NewPost (Rep.int .u8).slice xs w) := by
  obtain ⟨i0, hi, hz0, hz1, hz2⟩ := info_parts info5
  have Hwf := Lib.hid (sl_wf h)
  rcases A with _ | ad
  · obtain rfl : xs = [] := by
      rcases h.2.2 with ⟨e, _⟩ | ⟨_, _, _, _, e, _⟩
      · exact e
      · cases e
    go_enter Tryd.func51, Tryd.ntmps51
    go_wp2
    go_ret
    refine NewPost.ofOwn (e := 5) (n := w.heap.size) (Own.made (Nat.le_refl _) #[] 0 (by simp) (by simp)) (Nat.le_refl _) ?_
    exact alloc_ext _ _
  have HC : Hid (∀ j u, (xs.map (Value.int .u8))[j]? = some u → w.cell? (ad.add j) = some u) := by
    by_cases hx : xs = []
    · subst hx; exact fun j u hu => by simp at hu
    · obtain ⟨g, off, e, hg, hc⟩ := sl_ints h hx
      injection e with e
      subst e
      exact hc
  clear h
  go_enter Tryd.func51, Tryd.ntmps51
  go_wp2_with (at_builtin; refine wpList_append_own_at _ rfl _ _ 22 rfl w.heap.size 5 i0 (.int .u8 0) 1 1 Tryd.underlying22 hi hz0 hz1 hz2 rfl (by decide) (.slice (some ⟨w.heap.size, 0, none⟩) 0 0) 0 [] rfl (World.ownsRow_made w #[] 0 (Nat.le_refl _) (by simp) (by simp)) ad xs.length c (xs.map (.int .u8)) rfl (by simp) (fun j u hu => (alloc_ext _ _).ecell (HC.out j u hu)) (ints_cells1 xs) (by unfold maxLen; omega) (by omega) (by simp) ?_; intro v' w' hown hgrow hnil hat)
  go_ret
  refine NewPost.ofOwn (clone_done Hwf.out (by simpa using hown) ?_) (Nat.le_refl _) ?_
  · have := hgrow.size; simp at this; omega
  · exact (alloc_ext _ _).grown hgrow (fun g he hlt => by simp [Value.ownBlock] at he; omega)

theorem Clone_calls (A : Option Addr) (c : Nat) (xs : List Int) (F : List Nat) (w : World) (h : (Rep.int .u8).sl w A c xs F) (hn : xs.length ≤ 70368744177664) :
    Calls Tryd.prog 63 #[.slice A xs.length c] w (NewPost (Rep.int .u8).slice xs w) := by
  obtain ⟨i0, hi, hz0, hz1, hz2⟩ := info_parts info5
  have Hwf := Lib.hid (sl_wf h)
  have hnil := fun (W : World) (a : Option Addr) (n c : Nat) => Lib.run_eql_slice_nil (P := Tryd.prog) W 22 5 a n c 0 0 Tryd.underlying22
  rcases A with _ | ad
  · obtain rfl : xs = [] := by
      rcases h.2.2 with ⟨e, _⟩ | ⟨_, _, _, _, e, _⟩
      · exact e
      · cases e
    go_enter Tryd.func63, Tryd.ntmps63
    go_wp2
    go_ret
    exact NewPost.nil (Only.refl _ _)
  have HC : Hid (∀ j u, (xs.map (Value.int .u8))[j]? = some u → w.cell? (ad.add j) = some u) := by
    by_cases hx : xs = []
    · subst hx; exact fun j u hu => by simp at hu
    · obtain ⟨g, off, e, hg, hc⟩ := sl_ints h hx
      injection e with e
      subst e
      exact hc
  clear h
  go_enter Tryd.func63, Tryd.ntmps63
  go_wp2_with (at_builtin; refine wpList_append_own_at _ rfl _ _ 22 rfl w.heap.size 5 i0 (.int .u8 0) 1 1 Tryd.underlying22 hi hz0 hz1 hz2 rfl (by decide) (.slice (some ⟨w.heap.size, 0, none⟩) 0 0) 0 [] rfl (World.ownsRow_made w #[] 0 (Nat.le_refl _) (by simp) (by simp)) ad xs.length c (xs.map (.int .u8)) rfl (by simp) (fun j u hu => (alloc_ext _ _).ecell (HC.out j u hu)) (ints_cells1 xs) (by unfold maxLen; omega) (by omega) (by simp) ?_; intro v' w' hown hgrow hnil2 hat)
  go_ret
  refine NewPost.ofOwn (clone_done Hwf.out (by simpa using hown) ?_) (Nat.le_refl _) ?_
  · have := hgrow.size; simp at this; omega
  · exact (alloc_ext _ _).grown hgrow (fun g he hlt => by simp [Value.ownBlock] at he; omega)
end Go.Proofs.YtghgjddiheebeaaDoor
/- Bytes copied onto bytes of the call's own. -/
namespace Go.Proofs.YtghgjddiheebeaaDoor
open Go.RowKit
set_option linter.unusedSimpArgs false
set_option linter.unusedVariables false
theorem wrap_small (x : Int) (h0 : -4611686018427387904 ≤ x) (h1 : x ≤ 4611686018427387904) : IntKind.i64.wrap x = x := by
  simp [IntKind.wrap, IntKind.min, IntKind.max, IntKind.signed, IntKind.bits]
  omega
/-- copy(dst, src), dst at a place whose cells are there and may be written. -/
theorem wpList_copy_to {P : Program} {w : World} {ops : Array Oper} {rest : List Oper} {o : Oper} {a : Act} {Q : Exit → Act → World → Prop} (hgd : o.guard = none) (d s : Operand) (dT sT : TypeId)
    (ho : o.op = .call { callee := .builtin .copy, args := #[d, s], argTypes := #[dT, sT] }) (elem : TypeId) (hu : P.underlying dT = some (.slice elem)) (hsz : (P.info? elem).map (·.size) = some 1)
    (g off dLen dCap : Nat) (ad : Addr) (sLen sCap : Nat) (hd : a.eval d = .slice (some ⟨g, off, none⟩) dLen dCap) (hs : a.eval s = .slice (some ad) sLen sCap)
    (cs : List Value) (hn : cs.length = Nat.min sLen dLen) (hsrc : ∀ j v, cs[j]? = some v → w.cell? (ad.add j) = some v)
    (hc : ∀ j, j < cs.length → (w.cell? ⟨g, off + j, none⟩).isSome = true) (hf : ∀ j, j < cs.length → w.frozen? ⟨g, off + j, none⟩ = false) (h1 : ∀ v ∈ cs, v.oneCell' = true)
    (h : wpList P ops Q rest (a.put o.dst (goInt cs.length)) (w.setCells g off cs)) : wpList P ops Q (o :: rest) a w := by
  refine wpList_plain hgd fun K hK => ?_
  have hrun := run_copy_cells (P := P) w dT sT o.type elem g off dLen dCap ad sLen sCap cs hu hsz hn hsrc hc hf h1
  unfold Oper.wp
  simp [execOp, ho, resolve, invoke, builtin, hd, hs, hrun, Result.andThen]
  exact hK _ _ h
theorem step_copy_to {P : Program} {ops : Array Oper} {o : Oper} {a : Act} {w : World} {K : Act → World → Prop} {Q : Exit → Act → World → Prop} {E : Prop} (hgd : o.guard = none) (d s : Operand) (dT sT : TypeId)
    (ho : o.op = .call { callee := .builtin .copy, args := #[d, s], argTypes := #[dT, sT] }) (elem : TypeId) (hu : P.underlying dT = some (.slice elem)) (hsz : (P.info? elem).map (·.size) = some 1)
    (g off dLen dCap : Nat) (ad : Addr) (sLen sCap : Nat) (hd : a.eval d = .slice (some ⟨g, off, none⟩) dLen dCap) (hs : a.eval s = .slice (some ad) sLen sCap)
    (cs : List Value) (hn : cs.length = Nat.min sLen dLen) (hsrc : ∀ j v, cs[j]? = some v → w.cell? (ad.add j) = some v)
    (hc : ∀ j, j < cs.length → (w.cell? ⟨g, off + j, none⟩).isSome = true) (hf : ∀ j, j < cs.length → w.frozen? ⟨g, off + j, none⟩ = false) (h1 : ∀ v ∈ cs, v.oneCell' = true)
    (h : K (a.put o.dst (goInt cs.length)) (w.setCells g off cs)) :
    if Region.wanted o (yielded ops a.tmps) = true then Oper.wp P o a w K Q else E := by
  have hw : Region.wanted o (yielded ops a.tmps) = true := by simp [Region.wanted, hgd]
  rw [if_pos hw]
  have hrun := run_copy_cells (P := P) w dT sT o.type elem g off dLen dCap ad sLen sCap cs hu hsz hn hsrc hc hf h1
  unfold Oper.wp
  simp [execOp, ho, resolve, invoke, builtin, hd, hs, hrun, Result.andThen]
  exact h
theorem setCells_cell {w : World} {g o : Nat} {vs : List Value} {p : Addr} {u : Value} (h : w.cell? p = some u) (hne : p.block ≠ g) : (w.setCells g o vs).cell? p = some u := by
  rw [World.cell?_setCells_out g vs o w p (fun e _ => absurd e hne)]; exact h
theorem splice_at {α : Type} (L : List α) (off : Nat) (cs : List α) (h : off + cs.length ≤ L.length) (j : Nat) : (splice L off cs)[j]? = if off ≤ j ∧ j < off + cs.length then cs[j - off]? else L[j]? := by
  unfold splice
  split
  · rename_i hj
    rw [List.getElem?_append_right (by simp; omega), List.getElem?_append_left (by simp; omega)]
    simp [Nat.min_eq_left (show off ≤ L.length by omega)]
  · rename_i hj
    by_cases h1 : j < off
    · rw [List.getElem?_append_left (by simp; omega)]
      simp [h1]
    · rw [List.getElem?_append_right (by simp; omega), List.getElem?_append_right (by simp; omega)]
      simp only [List.length_take, List.getElem?_drop, Nat.min_eq_left (show off ≤ L.length by omega)]
      congr 1
      omega
/-- Numbers laid over a part of a list. -/
theorem sl_splice {k : IntKind} {w : World} {A : Option Addr} {c : Nat} {xs ys : List Int} {F : List Nat} (h : (Rep.int k).sl w A c xs F) (hu : Unfr w F) (o : Nat) (hy : o + ys.length ≤ xs.length) (h0 : 0 < xs.length) (hw : ∀ y ∈ ys, (Lit.int k y).wf = true) :
    ∃ g off, A = some ⟨g, off, none⟩ ∧ F = [g] ∧ g < w.heap.size ∧ (∀ j, j < ys.length → (w.cell? ⟨g, off + o + j, none⟩).isSome = true) ∧ (∀ j, w.frozen? ⟨g, j, none⟩ = false) ∧
      (Rep.int k).sl (w.setCells g (off + o) (ys.map (.int k))) A c (splice xs o ys) F ∧ Unfr (w.setCells g (off + o) (ys.map (.int k))) F := by
  obtain ⟨hl, hm, ⟨rfl, _⟩ | ⟨g, off, G, cs, rfl, rfl, hg, hr, hc⟩⟩ := id h
  · simp at h0
  obtain ⟨rfl, rfl, hwf⟩ := cells_ints_inv hr
  have hcell : ∀ j, j < xs.length → w.cell? ⟨g, off + j, none⟩ = some (.int k (xs[j]?.getD 0)) := fun j hj => hc j _ (by simp [hj])
  have hin : ∀ j, j < ys.length → (w.cell? ⟨g, off + o + j, none⟩).isSome = true := fun j hj => by
    rw [Nat.add_assoc, hcell (o + j) (by omega)]; rfl
  refine ⟨g, off, rfl, rfl, hg, hin, fun j => hu g (by simp) j, ⟨by rw [length_splice _ _ _ hy]; exact hl, hm, .inr ⟨g, off, [], _, rfl, rfl, by rw [size_setCells]; exact hg, cells_ints _ ?_, fun j u hu' => ?_⟩⟩, Unfr.cells hu _ _ _⟩
  · intro x hx
    simp only [splice, List.mem_append] at hx
    rcases hx with hx | hx | hx
    · exact hwf x (List.mem_of_mem_take hx)
    · exact hw x hx
    · exact hwf x (List.mem_of_mem_drop hx)
  · rw [List.getElem?_map, splice_at _ _ _ hy] at hu'
    by_cases hj : o ≤ j ∧ j < o + ys.length
    · rw [if_pos hj] at hu'
      have := World.cell?_setCells_in g (ys.map (.int k)) (off + o) w (fun i hi => hin i (by simpa using hi)) (j - o) (by simp; omega)
      rw [show off + o + (j - o) = off + j by omega] at this
      rw [this]
      rw [List.getElem?_eq_getElem (by omega)] at hu'
      simpa using hu'
    · rw [if_neg hj] at hu'
      rw [World.cell?_setCells_out g (ys.map (.int k)) (off + o) w ⟨g, off + j, none⟩ (fun _ _ => by simp; omega)]
      exact hc j u (by rw [List.getElem?_map]; exact hu')
end Go.Proofs.YtghgjddiheebeaaDoor
/- Bytes laid over bytes: the plain laws; the library's writers. -/
namespace Go.Proofs.YtghgjddiheebeaaDoor
open Go.RowKit Go.Shelf
set_option linter.unusedSimpArgs false
set_option linter.unusedVariables false
shelf_lay LaysBin.n37 Mn 37 at Tryd as laysP16
shelf_lay LaysBin.n40 Mn 40 at Tryd as laysP32
shelf_lay LaysBin.n43 Mn 43 at Tryd as laysP64
/-- The k least bytes of v, the greatest first. -/
def beL : Nat → Nat → List Int
  | 0, _ => []
  | k + 1, v => beL k (v / 256) ++ [((v % 256 : Nat) : Int)]
theorem beL_length : ∀ (k v : Nat), (beL k v).length = k
  | 0, _ => rfl
  | k + 1, v => by simp [beL, beL_length k]
theorem beL_byte : ∀ (k v : Nat), ∀ z ∈ beL k v, 0 ≤ z ∧ z ≤ 255
  | 0, _, z, h => by cases h
  | k + 1, v, z, h => by
    rw [beL, List.mem_append] at h
    rcases h with h | h
    · exact beL_byte k _ z h
    · obtain rfl : z = ((v % 256 : Nat) : Int) := by simpa using h
      omega
theorem beL_cells : ∀ (k v : Nat), Lib.byteCells (Lib.beBytes k v) = (beL k v).map (.int .u8)
  | 0, v => rfl
  | k + 1, v => by
    have ih := beL_cells k (v / 256)
    simp only [Lib.byteCells, Lib.beBytes, Lib.leBytes, List.reverse_cons, List.map_append, beL, List.map_cons, List.map_nil, Lib.toUInt8_mod] at ih ⊢
    rw [ih]
theorem beFromZ_app : ∀ (l m : List Int) (a : Int), Lib.beFromZ a (l ++ m) = Lib.beFromZ (Lib.beFromZ a l) m
  | [], m, a => rfl
  | z :: l, m, a => by simp only [List.cons_append, Lib.beFromZ]; exact beFromZ_app l m _
theorem beZ_beL : ∀ (k v : Nat), v < 256 ^ k → Lib.beZ (beL k v) = v
  | 0, v, h => by simp at h; subst h; rfl
  | k + 1, v, h => by
    have h2 : v / 256 < 256 ^ k := by
      rw [Nat.pow_succ] at h
      exact Nat.div_lt_of_lt_mul (by rw [Nat.mul_comm]; exact h)
    have ih := beZ_beL k _ h2
    show Lib.beFromZ 0 (beL k (v / 256) ++ [_]) = _
    rw [beFromZ_app]
    change Lib.beFromZ 0 (beL k (v / 256)) = _ at ih
    rw [ih]
    simp only [Lib.beFromZ]
    omega
theorem splice_len {α : Type} (L : List α) (o : Nat) (cs : List α) (h : o + cs.length ≤ L.length) : (splice L o cs).length = L.length := by
  simp only [splice, List.length_append, List.length_take, List.length_drop]; omega
theorem splice_get {α : Type} (L : List α) (off : Nat) (cs : List α) (h : off + cs.length ≤ L.length) (j : Nat) : (splice L off cs)[j]? = if off ≤ j ∧ j < off + cs.length then cs[j - off]? else L[j]? := by
  unfold splice
  split
  · rename_i hj
    rw [List.getElem?_append_right (by simp; omega), List.getElem?_append_left (by simp; omega)]
    simp [Nat.min_eq_left (show off ≤ L.length by omega)]
  · rename_i hj
    by_cases h1 : j < off
    · rw [List.getElem?_append_left (by simp; omega)]
      simp [h1]
    · rw [List.getElem?_append_right (by simp; omega), List.getElem?_append_right (by simp; omega)]
      simp only [List.length_take, List.getElem?_drop, Nat.min_eq_left (show off ≤ L.length by omega)]
      congr 1
      omega
/-- What is read beside what is written. -/
theorem splice_off {α : Type} (L : List α) (o : Nat) (cs : List α) (h : o + cs.length ≤ L.length) (i n : Nat) (hd : i + n ≤ o ∨ o + cs.length ≤ i) : ((splice L o cs).drop i).take n = (L.drop i).take n := by
  refine List.ext_getElem? fun j => ?_
  rw [List.getElem?_take, List.getElem?_take]
  split
  · rw [List.getElem?_drop, List.getElem?_drop, splice_get _ _ _ h, if_neg (by omega)]
  · rfl
theorem splice_on {α : Type} (L : List α) (o : Nat) (cs : List α) (h : o + cs.length ≤ L.length) : ((splice L o cs).drop o).take cs.length = cs := by
  refine List.ext_getElem? fun j => ?_
  rw [List.getElem?_take]
  split
  · rw [List.getElem?_drop, splice_get _ _ _ h, if_pos (by omega)]
    congr 1; omega
  · rw [List.getElem?_eq_none (by omega)]
theorem putU16_calls (w : World) (g off c n c' : Nat) (xs : List Int) (F : List Nat) (h : (Rep.int .u8).sl w (some ⟨g, off, none⟩) c xs F) (hu : Unfr w F) (a : Nat) (ha : a + 2 ≤ xs.length) (hn : 2 ≤ n) (v : Nat) (hv : v < 65536) :
    Calls Tryd.prog 66 #[.agg #[], .slice (some ⟨g, off + a, none⟩) n c', .int .u16 v] w fun e w' => e = .returned (.tuple #[]) ∧ (Rep.int .u8).sl w' (some ⟨g, off, none⟩) c (splice xs a (beL 2 v)) F ∧ Unfr w' F ∧ Only F w w' := by
  have hl := beL_length 2 v
  have hE := alloc_ext w (.cells #[] (laysP16_ren.t 37))
  obtain ⟨g', off', e, hF, hg, hcell, hfr, hsl, hun⟩ := sl_splice (ys := beL 2 v) (Rep.sl_ext h hE) (hu.ext hE (fun b hb => Rep.sl_lt h b hb)) a (by omega) (by omega) (fun y hy => by have := beL_byte 2 v y hy; simp only [Lit.wf, IntKind.min, IntKind.max, IntKind.signed, IntKind.bits]; simp; omega)
  injection e with e
  injection e with e1 e2
  subst e1; subst e2
  have hgw : g ∈ F := by rw [hF]; simp
  have hc : ∀ i, i < 2 → w.cell? ⟨g, off + a + i, none⟩ = some (.int .u8 (xs.getD (a + i) 0)) := fun i hi => by
    have := sl_byte h (a + i) (by omega)
    rwa [Nat.add_assoc]
  have hf : ∀ i, w.frozen? ⟨g, i, none⟩ = false := fun i => hu g hgw i
  have h0 := Any.binary_BE_PutUint16 laysP16 g (off + a) n c' v hv _ _ w hn (hc 0 (by decide)) (hc 1 (by decide)) (hf _) (hf _)
  refine h0.mono (fun e w' hw => ?_)
  obtain ⟨h1, rfl⟩ := hw
  rw [beL_cells]
  exact ⟨h1, hsl, hun, (hE.more (by simp)).cells (fun _ => hgw) _ _⟩
theorem putU32_calls (w : World) (g off c n c' : Nat) (xs : List Int) (F : List Nat) (h : (Rep.int .u8).sl w (some ⟨g, off, none⟩) c xs F) (hu : Unfr w F) (a : Nat) (ha : a + 4 ≤ xs.length) (hn : 4 ≤ n) (v : Nat) (hv : v < 4294967296) :
    Calls Tryd.prog 64 #[.agg #[], .slice (some ⟨g, off + a, none⟩) n c', .int .u32 v] w fun e w' => e = .returned (.tuple #[]) ∧ (Rep.int .u8).sl w' (some ⟨g, off, none⟩) c (splice xs a (beL 4 v)) F ∧ Unfr w' F ∧ Only F w w' := by
  have hl := beL_length 4 v
  have hE := alloc_ext w (.cells #[] (laysP32_ren.t 37))
  obtain ⟨g', off', e, hF, hg, hcell, hfr, hsl, hun⟩ := sl_splice (ys := beL 4 v) (Rep.sl_ext h hE) (hu.ext hE (fun b hb => Rep.sl_lt h b hb)) a (by omega) (by omega) (fun y hy => by have := beL_byte 4 v y hy; simp only [Lit.wf, IntKind.min, IntKind.max, IntKind.signed, IntKind.bits]; simp; omega)
  injection e with e
  injection e with e1 e2
  subst e1; subst e2
  have hgw : g ∈ F := by rw [hF]; simp
  have hc : ∀ i, i < 4 → w.cell? ⟨g, off + a + i, none⟩ = some (.int .u8 (xs.getD (a + i) 0)) := fun i hi => by
    have := sl_byte h (a + i) (by omega)
    rwa [Nat.add_assoc]
  have hf : ∀ i, w.frozen? ⟨g, i, none⟩ = false := fun i => hu g hgw i
  have h0 := Any.binary_BE_PutUint32 laysP32 g (off + a) n c' v hv _ _ _ _ w hn (hc 0 (by decide)) (hc 1 (by decide)) (hc 2 (by decide)) (hc 3 (by decide)) (hf _) (hf _) (hf _) (hf _)
  refine h0.mono (fun e w' hw => ?_)
  obtain ⟨h1, rfl⟩ := hw
  rw [beL_cells]
  exact ⟨h1, hsl, hun, (hE.more (by simp)).cells (fun _ => hgw) _ _⟩
theorem putU64_calls (w : World) (g off c n c' : Nat) (xs : List Int) (F : List Nat) (h : (Rep.int .u8).sl w (some ⟨g, off, none⟩) c xs F) (hu : Unfr w F) (a : Nat) (ha : a + 8 ≤ xs.length) (hn : 8 ≤ n) (v : Nat) (hv : v < 18446744073709551616) :
    Calls Tryd.prog 67 #[.agg #[], .slice (some ⟨g, off + a, none⟩) n c', .int .u64 v] w fun e w' => e = .returned (.tuple #[]) ∧ (Rep.int .u8).sl w' (some ⟨g, off, none⟩) c (splice xs a (beL 8 v)) F ∧ Unfr w' F ∧ Only F w w' := by
  have hl := beL_length 8 v
  have hE := alloc_ext w (.cells #[] (laysP64_ren.t 37))
  obtain ⟨g', off', e, hF, hg, hcell, hfr, hsl, hun⟩ := sl_splice (ys := beL 8 v) (Rep.sl_ext h hE) (hu.ext hE (fun b hb => Rep.sl_lt h b hb)) a (by omega) (by omega) (fun y hy => by have := beL_byte 8 v y hy; simp only [Lit.wf, IntKind.min, IntKind.max, IntKind.signed, IntKind.bits]; simp; omega)
  injection e with e
  injection e with e1 e2
  subst e1; subst e2
  have hgw : g ∈ F := by rw [hF]; simp
  have hc : ∀ i, i < 8 → w.cell? ⟨g, off + a + i, none⟩ = some (.int .u8 (xs.getD (a + i) 0)) := fun i hi => by
    have := sl_byte h (a + i) (by omega)
    rwa [Nat.add_assoc]
  have hf : ∀ i, w.frozen? ⟨g, i, none⟩ = false := fun i => hu g hgw i
  have h0 := Any.binary_BE_PutUint64 laysP64 g (off + a) n c' v hv _ _ _ _ _ _ _ _ w hn (hc 0 (by decide)) (hc 1 (by decide)) (hc 2 (by decide)) (hc 3 (by decide)) (hc 4 (by decide)) (hc 5 (by decide)) (hc 6 (by decide)) (hc 7 (by decide)) (hf _) (hf _) (hf _) (hf _) (hf _) (hf _) (hf _) (hf _)
  refine h0.mono (fun e w' hw => ?_)
  obtain ⟨h1, rfl⟩ := hw
  rw [beL_cells]
  exact ⟨h1, hsl, hun, (hE.more (by simp)).cells (fun _ => hgw) _ _⟩
end Go.Proofs.YtghgjddiheebeaaDoor
/- Compaction: the plain law. -/
namespace Go.Proofs.YtghgjddiheebeaaDoor
open Go.RowKit
set_option linter.unusedSimpArgs false
set_option linter.unusedVariables false
def cDat (p : List Int) (i : Nat) : List Int := (p.drop (slO p i).toNat).take (slN p i).toNat
def cBot (p : List Int) : Nat → Nat
  | 0 => 4096
  | k + 1 => cBot p k - (slN p k).toNat
/-- One slot moved. -/
def cStep (p L : List Int) (i : Nat) : List Int :=
  if slO p i = 0 then L else splice (splice (splice L (cBot p (i + 1)) (cDat p i)) (20 + 4 * i) (beL 2 (cBot p (i + 1)))) (20 + 4 * i + 2) (beL 2 (slN p i).toNat)
def cUp (p L : List Int) : Nat → List Int
  | 0 => L
  | k + 1 => cStep p (cUp p L k) k
def zeros (n : Nat) : List Int := List.replicate n 0
theorem zeros_len (n : Nat) : (zeros n).length = n := List.length_replicate
theorem zeros_at (n j : Nat) : (zeros n)[j]? = if j < n then some 0 else none := List.getElem?_replicate
def headI (p : List Int) : List Int := splice (zeros 4096) 0 (p.take 20)
def headS (p : List Int) : List Int := p.take 148 ++ zeros 3948
def compI (p : List Int) : List Int := splice (cUp p (headI p) 32) 16 (beL 2 (cBot p 32))
def compS (p : List Int) : List Int := splice (cUp p (headS p) 32) 16 (beL 2 (cBot p 32))
/-- What compaction leans on. -/
structure Wf (p : List Int) : Prop where
  len : p.length = 4096
  byte : ∀ z ∈ p, 0 ≤ z ∧ z ≤ 255
  zero : pageFault p (beAt p 12 4) = 0
section
variable {p : List Int} (h : Wf p)
include h
theorem Wf.slot (i : Nat) (hi : i < 32) : 0 ≤ slO p i ∧ 0 ≤ slN p i ∧ slO p i ≤ 4096 ∧ slN p i ≤ 1000 ∧ slO p i + slN p i ≤ 4096 ∧ (slO p i = 0 → slN p i = 0) ∧ (slO p i ≠ 0 → 148 ≤ slO p i) := by
  have h1 := (beAt_u16 h.byte (20 + 4 * i)).1
  have h2 := (beAt_u16 h.byte (20 + 4 * i + 2)).1
  obtain ⟨_, _, _, _, h5, h6, h7, _⟩ := fault_zero h.zero
  have h8 := h7 i hi
  change 0 ≤ slO p i at h1
  change 0 ≤ slN p i at h2
  omega
theorem Wf.bot (k : Nat) (hk : k ≤ 32) : cBot p k = 4096 - sumN p k ∧ 148 ≤ cBot p k ∧ cBot p k ≤ 4096 := by
  have h1 := sumN_room h.byte h.zero
  have h2 := sumN_mono p hk
  obtain ⟨_, _, _, _, h5, h6, _, _⟩ := fault_zero h.zero
  have h3 : ∀ m, cBot p m = 4096 - sumN p m := by
    intro m
    induction m with
    | zero => rfl
    | succ m ih => simp only [cBot, sumN, ih]; omega
  have := h3 k
  omega
theorem Wf.bot_succ (k : Nat) (hk : k < 32) : cBot p (k + 1) + (slN p k).toNat = cBot p k ∧ cBot p (k + 1) = cBot p k - (slN p k).toNat := by
  have h1 := h.bot (k + 1) (by omega)
  have h2 := h.bot k (by omega)
  refine ⟨?_, rfl⟩
  simp only [cBot] at h1 ⊢
  omega
theorem Wf.dat (i : Nat) (hi : i < 32) : (cDat p i).length = (slN p i).toNat := by
  have := h.slot i hi
  have := h.len
  simp [cDat]; omega
theorem Wf.step_len {L : List Int} (hL : L.length = 4096) (i : Nat) (hi : i < 32) : (cStep p L i).length = 4096 := by
  unfold cStep
  split
  · exact hL
  · have h1 := h.bot (i + 1) (by omega)
    have h2 := h.bot_succ i hi
    have h3 := h.dat i hi
    have h4 := (h.bot i (by omega)).2.2
    have e1 : (splice L (cBot p (i + 1)) (cDat p i)).length = 4096 := by rw [splice_len _ _ _ (by omega), hL]
    have e2 : (splice (splice L (cBot p (i + 1)) (cDat p i)) (20 + 4 * i) (beL 2 (cBot p (i + 1)))).length = 4096 := by rw [splice_len _ _ _ (by rw [beL_length]; omega), e1]
    rw [splice_len _ _ _ (by rw [beL_length]; omega), e2]
theorem Wf.up_len {L : List Int} (hL : L.length = 4096) : ∀ k, k ≤ 32 → (cUp p L k).length = 4096
  | 0, _ => hL
  | k + 1, hk => h.step_len (Wf.up_len hL k (by omega)) k (by omega)
theorem Wf.headI_len : (headI p).length = 4096 := by
  have := h.len
  rw [headI, splice_len _ _ _ (by rw [zeros_len, List.length_take]; omega), zeros_len]
theorem Wf.headS_len : (headS p).length = 4096 := by
  have := h.len
  rw [headS, List.length_append, List.length_take, zeros_len]; omega
theorem Wf.step_at {L : List Int} (hL : L.length = 4096) (i : Nat) (hi : i < 32) (ho : slO p i ≠ 0) (j : Nat) :
    (cStep p L i)[j]? = if 20 + 4 * i + 2 ≤ j ∧ j < 20 + 4 * i + 2 + 2 then (beL 2 (slN p i).toNat)[j - (20 + 4 * i + 2)]? else if 20 + 4 * i ≤ j ∧ j < 20 + 4 * i + 2 then (beL 2 (cBot p (i + 1)))[j - (20 + 4 * i)]?
      else if cBot p (i + 1) ≤ j ∧ j < cBot p (i + 1) + (slN p i).toNat then (cDat p i)[j - cBot p (i + 1)]? else L[j]? := by
  have h1 := h.bot (i + 1) (by omega)
  have h2 := h.bot_succ i hi
  have h3 := h.dat i hi
  have h4 := (h.bot i (by omega)).2.2
  have e1 : (splice L (cBot p (i + 1)) (cDat p i)).length = 4096 := by rw [splice_len _ _ _ (by omega), hL]
  have e2 : (splice (splice L (cBot p (i + 1)) (cDat p i)) (20 + 4 * i) (beL 2 (cBot p (i + 1)))).length = 4096 := by rw [splice_len _ _ _ (by rw [beL_length]; omega), e1]
  rw [cStep, if_neg ho, splice_get _ _ _ (by rw [beL_length]; omega), splice_get _ _ _ (by rw [beL_length]; omega), splice_get _ _ _ (by omega), beL_length, beL_length, h3]
theorem Wf.same : ∀ k, k ≤ 32 → (∀ j, (j < 20 + 4 * k ∨ 148 ≤ j) → (cUp p (headS p) k)[j]? = (cUp p (headI p) k)[j]?) ∧ (∀ j, 20 + 4 * k ≤ j → j < 148 → (cUp p (headS p) k)[j]? = p[j]? ∧ (cUp p (headI p) k)[j]? = some 0)
  | 0, _ => by
    have hl := h.len
    have e1 : ∀ j, (headI p)[j]? = if j < 20 then p[j]? else (zeros 4096)[j]? := fun j => by
      rw [headI, splice_get _ _ _ (by rw [zeros_len, List.length_take]; omega)]
      simp only [List.length_take, hl, Nat.zero_le, true_and, Nat.sub_zero, Nat.zero_add]
      by_cases hj : j < 20
      · rw [if_pos (by omega), if_pos hj, List.getElem?_take, if_pos hj]
      · rw [if_neg (by omega), if_neg hj]
    have e2 : ∀ j, (headS p)[j]? = if j < 148 then p[j]? else (zeros 3948)[j - 148]? := fun j => by
      rw [headS]
      by_cases hj : j < 148
      · rw [if_pos hj, List.getElem?_append_left (by rw [List.length_take]; omega), List.getElem?_take, if_pos hj]
      · rw [if_neg hj, List.getElem?_append_right (by rw [List.length_take]; omega)]
        rw [List.length_take, show min 148 p.length = 148 by omega]
    refine ⟨fun j hj => ?_, fun j h1 h2 => ?_⟩
    · refine Eq.trans (b := (headS p)[j]?) rfl (Eq.trans (b := (headI p)[j]?) ?_ rfl)
      rw [e1, e2]
      by_cases hj2 : j < 20
      · rw [if_pos (by omega), if_pos hj2]
      · rw [if_neg (by omega), if_neg hj2, zeros_at, zeros_at]
        by_cases hj3 : j < 4096
        · rw [if_pos (by omega), if_pos hj3]
        · rw [if_neg (by omega), if_neg hj3]
    · refine ⟨?_, ?_⟩
      · show (headS p)[j]? = _
        rw [e2, if_pos h2]
      · show (headI p)[j]? = _
        rw [e1, if_neg (by omega), zeros_at, if_pos (by omega)]
  | k + 1, hk => by
    obtain ⟨i1, i2⟩ := Wf.same k (by omega)
    have hk' : k < 32 := by omega
    have hl := h.len
    have l1 := h.up_len h.headS_len k (by omega)
    have l2 := h.up_len h.headI_len k (by omega)
    have hb := h.bot (k + 1) hk
    by_cases ho : slO p k = 0
    · have e : ∀ L, cUp p L (k + 1) = cUp p L k := fun L => by show cStep _ _ _ = _; rw [cStep, if_pos ho]
      rw [e, e]
      have hn : slN p k = 0 := (h.slot k hk').2.2.2.2.2.1 ho
      have hz : ∀ j, 20 + 4 * k ≤ j → j < 20 + 4 * k + 4 → p[j]? = some 0 := by
        have b1 := beAt_two (p := p) (20 + 4 * k) (by omega)
        have b2 := beAt_two (p := p) (20 + 4 * k + 2) (by omega)
        have g : ∀ j, j < 4096 → p[j]? = some (p.getD j 0) ∧ 0 ≤ p.getD j 0 := fun j hj => by
          have hj' : j < p.length := by omega
          rw [List.getD, List.getElem?_eq_getElem hj']
          exact ⟨rfl, (h.byte _ (List.getElem_mem _)).1⟩
        change slO p k = _ at b1
        change slN p k = _ at b2
        intro j h1 h2
        have g0 := g (20 + 4 * k) (by omega); have g1 := g (20 + 4 * k + 1) (by omega); have g2 := g (20 + 4 * k + 2) (by omega); have g3 := g (20 + 4 * k + 2 + 1) (by omega)
        rw [ho] at b1
        rw [hn] at b2
        have z0 : p.getD (20 + 4 * k) 0 = 0 := by omega
        have z1 : p.getD (20 + 4 * k + 1) 0 = 0 := by omega
        have z2 : p.getD (20 + 4 * k + 2) 0 = 0 := by omega
        have z3 : p.getD (20 + 4 * k + 2 + 1) 0 = 0 := by omega
        rw [z0] at g0
        rw [z1] at g1
        rw [z2] at g2
        rw [z3] at g3
        have hj : j = 20 + 4 * k ∨ j = 20 + 4 * k + 1 ∨ j = 20 + 4 * k + 2 ∨ j = 20 + 4 * k + 2 + 1 := by omega
        rcases hj with rfl | rfl | rfl | rfl
        · exact g0.1
        · exact g1.1
        · exact g2.1
        · exact g3.1
      refine ⟨fun j hj => ?_, fun j h1 h2 => i2 j (by omega) h2⟩
      by_cases hj2 : j < 20 + 4 * k ∨ 148 ≤ j
      · exact i1 j hj2
      · obtain ⟨q1, q2⟩ := i2 j (by omega) (by omega)
        rw [q1, q2, hz j (by omega) (by omega)]
    · have s1 := h.step_at l1 k hk' ho
      have s2 := h.step_at l2 k hk' ho
      have e : ∀ (L : List Int) (j : Nat), (cUp p L (k + 1))[j]? = (cStep p (cUp p L k) k)[j]? := fun L j => rfl
      refine ⟨fun j hj => ?_, fun j h1 h2 => ?_⟩
      · rw [e, e, s1, s2]
        by_cases c1 : 20 + 4 * k + 2 ≤ j ∧ j < 20 + 4 * k + 2 + 2
        · rw [if_pos c1, if_pos c1]
        · rw [if_neg c1, if_neg c1]
          by_cases c2 : 20 + 4 * k ≤ j ∧ j < 20 + 4 * k + 2
          · rw [if_pos c2, if_pos c2]
          · rw [if_neg c2, if_neg c2, i1 j (by omega)]
      · obtain ⟨q1, q2⟩ := i2 j (by omega) h2
        rw [e, e, s1, s2, if_neg (by omega), if_neg (by omega), if_neg (by omega), if_neg (by omega), if_neg (by omega), if_neg (by omega)]
        exact ⟨q1, q2⟩
theorem Wf.comp : compS p = compI p := by
  have h1 := (h.same 32 (Nat.le_refl _)).1
  have : cUp p (headS p) 32 = cUp p (headI p) 32 := List.ext_getElem? fun j => h1 j (by omega)
  rw [compS, compI, this]
end
theorem Wf.of {w : World} {A : Option Addr} {c : Nat} {p : List Int} {F : List Nat} (h : (Rep.int .u8).sl w A c p F) (hw : wellF p = true) : Wf p :=
  ⟨(fault_zero (wellF_iff.1 hw)).1, fun z hz => Lib.byte_of_wf (sl_wf h z hz), wellF_iff.1 hw⟩
noncomputable def pageCompact (p : List Int) : List Int := if wellF p = true then compI p else []
end Go.Proofs.YtghgjddiheebeaaDoor
/- A buffer of one's own: writes. -/
namespace Go.Proofs.YtghgjddiheebeaaDoor
open Go.RowKit
set_option linter.unusedSimpArgs false
set_option linter.unusedVariables false
/-- Bytes of the call's own, on one block. -/
structure Buf (w : World) (g off c : Nat) (xs : List Int) : Prop where
  sl : (Rep.int .u8).sl w (some ⟨g, off, none⟩) c xs [g]
  un : Unfr w [g]
theorem Buf.lt {w : World} {g off c : Nat} {xs : List Int} (h : Buf w g off c xs) : g < w.heap.size := Rep.sl_lt h.sl g (by simp)
theorem Buf.ext {w w' : World} {g off c : Nat} {xs : List Int} (h : Buf w g off c xs) (hE : Ext w w') : Buf w' g off c xs :=
  ⟨Rep.sl_ext h.sl hE, h.un.ext hE (fun b hb => Rep.sl_lt h.sl b hb)⟩
theorem Buf.putU16 {w : World} {g off c : Nat} {xs : List Int} (h : Buf w g off c xs) (n c' a q : Nat) (hq : q = off + a) (ha : a + 2 ≤ xs.length) (hn : 2 ≤ n) (v : Nat) (hv : v < 65536) :
    Calls Tryd.prog 66 #[.agg #[], .slice (some ⟨g, q, none⟩) n c', .int .u16 v] w fun e w' => e = .returned (.tuple #[]) ∧ Buf w' g off c (splice xs a (beL 2 v)) ∧ Only [g] w w' := by
  subst hq
  exact (putU16_calls w g off c n c' xs [g] h.sl h.un a ha hn v hv).mono fun e w' ⟨h1, h2, h3, h4⟩ => ⟨h1, ⟨h2, h3⟩, h4⟩
theorem Buf.putU32 {w : World} {g off c : Nat} {xs : List Int} (h : Buf w g off c xs) (n c' a q : Nat) (hq : q = off + a) (ha : a + 4 ≤ xs.length) (hn : 4 ≤ n) (v : Nat) (hv : v < 4294967296) :
    Calls Tryd.prog 64 #[.agg #[], .slice (some ⟨g, q, none⟩) n c', .int .u32 v] w fun e w' => e = .returned (.tuple #[]) ∧ Buf w' g off c (splice xs a (beL 4 v)) ∧ Only [g] w w' := by
  subst hq
  exact (putU32_calls w g off c n c' xs [g] h.sl h.un a ha hn v hv).mono fun e w' ⟨h1, h2, h3, h4⟩ => ⟨h1, ⟨h2, h3⟩, h4⟩
theorem Buf.putU64 {w : World} {g off c : Nat} {xs : List Int} (h : Buf w g off c xs) (n c' a q : Nat) (hq : q = off + a) (ha : a + 8 ≤ xs.length) (hn : 8 ≤ n) (v : Nat) (hv : v < 18446744073709551616) :
    Calls Tryd.prog 67 #[.agg #[], .slice (some ⟨g, q, none⟩) n c', .int .u64 v] w fun e w' => e = .returned (.tuple #[]) ∧ Buf w' g off c (splice xs a (beL 8 v)) ∧ Only [g] w w' := by
  subst hq
  exact (putU64_calls w g off c n c' xs [g] h.sl h.un a ha hn v hv).mono fun e w' ⟨h1, h2, h3, h4⟩ => ⟨h1, ⟨h2, h3⟩, h4⟩
theorem splice_nil {α : Type} (L : List α) (o : Nat) : splice L o [] = L := by simp [splice]
/-- A byte written. -/
theorem Buf.set {w : World} {g off c : Nat} {xs : List Int} (h : Buf w g off c xs) (i : Nat) (hi : i < xs.length) (z : Int) (hz : (Lit.int .u8 z).wf = true) : Buf (w.setCell ⟨g, off + i, none⟩ (.int .u8 z)) g off c (splice xs i [z]) := by
  obtain ⟨g', off', e, -, -, -, -, h1, h2⟩ := sl_splice (ys := [z]) h.sl h.un i (by simp; omega) (by omega) (fun y hy => by simp at hy; subst hy; exact hz)
  injection e with e
  injection e with e1 e2
  subst e1; subst e2
  exact ⟨h1, h2⟩
/-- copy(dst, src): dst cut out of the buffer at place p. -/
theorem copy_buf {P : Program} {w : World} {ops : Array Oper} {rest : List Oper} {o : Oper} {a : Act} {Q : Exit → Act → World → Prop} (hgd : o.guard = none) (d s : Operand) (dT sT : TypeId)
    (ho : o.op = .call { callee := .builtin .copy, args := #[d, s], argTypes := #[dT, sT] }) (elem : TypeId) (hu : P.underlying dT = some (.slice elem)) (hsz : (P.info? elem).map (·.size) = some 1)
    (dp sp : Option Addr) (dLen dCap sLen sCap : Nat) (hd : a.eval d = .slice dp dLen dCap) (hs : a.eval s = .slice sp sLen sCap)
    {g off c : Nat} {xs ys : List Int} (h : Buf w g off c xs) (p : Nat) (hy : ∀ y ∈ ys, (Lit.int .u8 y).wf = true) (hp : p + ys.length ≤ xs.length) (hn : ys.length = Nat.min sLen dLen)
    (hpos : 0 < ys.length → dp = some ⟨g, off + p, none⟩ ∧ ∃ ad, sp = some ad ∧ ∀ j v, (ys.map (Value.int .u8))[j]? = some v → w.cell? (ad.add j) = some v)
    (K : ∀ w', Buf w' g off c (splice xs p ys) → Only [g] w w' → wpList P ops Q rest (a.put o.dst (goInt ys.length)) w') : wpList P ops Q (o :: rest) a w := by
  by_cases h0 : ys.length = 0
  · obtain rfl : ys = [] := List.eq_nil_of_length_eq_zero h0
    refine wpList_copy_nothing hgd d s dT sT ho elem hu hsz dp sp dLen dCap sLen sCap hd hs (by simpa using hn.symm) ?_
    rw [splice_nil] at K
    exact K w h (Only.refl _ _)
  · obtain ⟨rfl, ad, rfl, hsrc⟩ := hpos (by omega)
    obtain ⟨g', off', e, -, -, hin, hfr, h1, h2⟩ := sl_splice (ys := ys) h.sl h.un p hp (by omega) hy
    injection e with e
    injection e with e1 e2
    subst e1; subst e2
    have := wpList_copy_to (P := P) (w := w) (ops := ops) (rest := rest) (o := o) (a := a) (Q := Q) hgd d s dT sT ho elem hu hsz g (off + p) dLen dCap ad sLen sCap hd hs (ys.map (.int .u8)) (by rw [List.length_map]; exact hn) hsrc (fun j hj => hin j (by simpa using hj)) (fun j hj => hfr _) (ints_cells1 _)
    rw [List.length_map] at this
    exact this (K _ ⟨h1, h2⟩ ((Only.refl [g] w).cells (fun _ => by simp) _ _))
theorem page_new (w : World) : Buf (w.alloc (.cells (Array.replicate 4096 (.int .u8 0)) 5)) w.heap.size 0 4096 (zeros 4096) := by
  refine ⟨⟨by rw [zeros_len]; exact Nat.le_refl _, by decide, .inr ⟨w.heap.size, 0, [], (zeros 4096).map (.int .u8), rfl, rfl, by simp, cells_ints _ ?_, fun j u hu => ?_⟩⟩, ?_⟩
  · intro x hx
    obtain ⟨_, rfl⟩ := List.mem_replicate.1 hx
    rfl
  · rw [Nat.zero_add, World.cell?_alloc_at _ _ _ _ rfl]
    rw [List.getElem?_map, zeros_at] at hu
    split at hu
    · rename_i hj
      simp at hu
      subst hu
      simp [hj]
    · simp at hu
  · intro b hb j
    simp only [List.mem_singleton] at hb
    subst hb
    exact World.frozen?_alloc_at _ _ _ _ rfl
theorem mk_page (w : World) : (Instr.makeSlice 22 (.int .i64 4096) (.int .i64 4096)).run Tryd.prog w = .ok (.slice (some ⟨w.heap.size, 0, none⟩) 4096 4096) (w.alloc (.cells (Array.replicate 4096 (.int .u8 0)) 5)) := by
  obtain ⟨i0, hi, hz0, hz1, hz2⟩ := info_parts info5
  have h := run_make (P := Tryd.prog) w 22 5 i0 _ Tryd.underlying22 hi hz0 .i64 .i64 4096 4096 (by omega) (by omega) (by rw [hz2]; omega) (by omega)
  rw [hz1, made_one _ _ rfl] at h
  exact h
end Go.Proofs.YtghgjddiheebeaaDoor
/- The program's compaction. -/
namespace Go.Proofs.YtghgjddiheebeaaDoor
open Go.RowKit
set_option linter.unusedSimpArgs false
set_option linter.unusedVariables false
theorem wrap_u16 (x : Int) (h0 : 0 ≤ x) (h1 : x ≤ 65535) : IntKind.u16.wrap x = x := by
  simp [IntKind.wrap, IntKind.min, IntKind.max, IntKind.signed, IntKind.bits]
  omega
theorem byte_wf {p : List Int} (h : ∀ z ∈ p, 0 ≤ z ∧ z ≤ 255) : ∀ z ∈ p, (Lit.int .u8 z).wf = true := fun z hz => by
  obtain ⟨h1, h2⟩ := h z hz
  simp only [Lit.wf, IntKind.min, IntKind.max, IntKind.signed, IntKind.bits]
  simp; omega
/-- A part of a page as a source. -/
theorem sl_src {w : World} {g off c : Nat} {xs : List Int} {F : List Nat} (h : (Rep.int .u8).sl w (some ⟨g, off, none⟩) c xs F) (a n : Nat) :
    ∀ j v, (((xs.drop a).take n).map (Value.int .u8))[j]? = some v → w.cell? ((⟨g, off + a, none⟩ : Addr).add j) = some v := by
  intro j v hv
  rw [addp]
  rw [List.getElem?_map, List.getElem?_take] at hv
  split at hv
  · rename_i hj
    rw [List.getElem?_drop] at hv
    by_cases hi : a + j < xs.length
    · have := sl_byte h (a + j) hi
      rw [List.getElem?_eq_getElem hi] at hv
      rw [List.getD, List.getElem?_eq_getElem hi] at this
      simp at hv this
      rw [Nat.add_assoc, this, hv]
    · rw [List.getElem?_eq_none (by omega)] at hv
      cases hv
  · simp at hv
set_option maxRecDepth 100000 in
set_option maxHeartbeats 8000000 in
theorem compacted_calls (w : World) (g off c : Nat) (p : List Int) (F : List Nat) (h : (Rep.int .u8).sl w (some ⟨g, off, none⟩) c p F) (hw : Wf p) :
    Calls Tryd.prog 56 #[.slice (some ⟨g, off, none⟩) 4096 c] w fun e w' => ∃ B, e = .returned (.slice (some ⟨B, 0, none⟩) 4096 4096) ∧ w.heap.size ≤ B ∧ Buf w' B 0 4096 (compI p) ∧ Ext w w' := by
  obtain ⟨i0, hi, hz0, hz1, hz2⟩ := info_parts info5
  have hsz1 : (Tryd.prog.info? 5).map (·.size) = some 1 := by rw [hi]; simp [hz1]
  have hgB : g < w.heap.size := by
    obtain ⟨g', off', e, hg, -⟩ := Rep.sl_int h 0 (by have := hw.len; omega)
    injection e with e
    injection e with e1 e2
    subst e1; exact hg
  have hpc := h.1
  rw [hw.len] at hpc
  have HS := Lib.hid h; have HW := Lib.hid hw; have HSZ := Lib.hid hsz1; have HGB := Lib.hid hgB
  obtain ⟨LU, hLU⟩ : ∃ L, L = cUp p (headI p) := ⟨_, rfl⟩
  have HU0 := Lib.hid (show LU 0 = headI p by rw [hLU]; rfl)
  have HUS := Lib.hid (show ∀ k, LU (k + 1) = cStep p (LU k) k by rw [hLU]; exact fun k => rfl)
  have HUL := Lib.hid (show ∀ k, k ≤ 32 → (LU k).length = 4096 by rw [hLU]; exact hw.up_len hw.headI_len)
  have HR := Lib.hid (show compI p = splice (LU 32) 16 (beL 2 (cBot p 32)) by rw [hLU]; rfl)
  have HDI := Lib.hid (show headI p = splice (zeros 4096) 0 (p.take 20) from rfl)
  have HN := Lib.hid (page_new w)
  have HEN := Lib.hid (alloc_ext w (.cells (Array.replicate 4096 (.int .u8 0)) 5))
  clear h hw hsz1 hgB hLU hi hz0 hz1 hz2 i0
  have HL20 := Lib.hid (show (p.take 20).length = 20 by rw [List.length_take, HW.out.len]; omega)
  have hsrc0 : ∀ j v, ((p.take 20).map (Value.int .u8))[j]? = some v → (w.alloc (.cells (Array.replicate 4096 (.int .u8 0)) 5)).cell? ((⟨g, off, none⟩ : Addr).add j) = some v := by
    have := sl_src (Rep.sl_ext HS.out HEN.out) 0 20
    simpa using this
  go_enter Tryd.func56, Tryd.ntmps56
  have hmk' := mk_page w
  go_wp2_with ((refine copy_buf rfl (.tmp 9) (.tmp 11) 22 22 rfl 5 Tryd.underlying22 HSZ.out _ _ _ _ _ _ rfl rfl HN.out 0 (ys := p.take 20) (fun y hy => byte_wf HW.out.byte y (List.mem_of_mem_take hy)) (by rw [zeros_len, HL20.out]; omega) (HL20.out.trans rfl) (fun _ => ⟨rfl, _, rfl, hsrc0⟩) ?_); intro w1 hb1 hO1)
  have HB1 := Lib.hid (show Buf w1 w.heap.size 0 4096 (LU 0) by rw [HU0.out, HDI.out]; exact hb1)
  have HE1 := Lib.hid (show Ext w w1 from HEN.out.then_ hO1 (fun b hb hlt => by simp at hb; omega))
  clear hb1 hO1 hmk' HN HEN HU0 HDI
  go_loopg [4, 5] 32 (fun m a i wr => ∃ k : Nat, m + k = 32 ∧ a = .int .i64 (cBot p k) ∧ i = .int .i64 k ∧ Hid (Buf wr w.heap.size 0 4096 (LU k)) ∧ Ext w wr)
  case atStart => exact ⟨0, by simp, rfl, rfl, HB1, HE1.out⟩
  case round =>
    obtain ⟨k, hmk, rfl, rfl, HBF, hE⟩ := hrel
    have HE := Lib.hid hE; have HMK := Lib.hid hmk
    clear hE hmk HB1 HE1
    by_cases hlt : (k : Int) < 32
    · have hk : k < 32 := by omega
      have HC := Lib.hid (slotOf_calls _ g off c p F (Rep.sl_ext HS.out HE.out) HW.out.len k hk)
      obtain ⟨q1, q2, q3, q4, q5, q6, q7⟩ := HW.out.slot k hk
      obtain ⟨r1, r2⟩ := HW.out.bot_succ k hk
      obtain ⟨-, r3, r4⟩ := HW.out.bot (k + 1) (by omega)
      have hdl := HW.out.dat k hk
      have hst := HUS.out k
      rw [cStep] at hst
      have hdat : cDat p k = (p.drop (slO p k).toNat).take (slN p k).toNat := rfl
      have r5 := (HW.out.bot k (by omega)).2.2
      obtain ⟨oo, hoo⟩ := Int.eq_ofNat_of_zero_le q1
      obtain ⟨nn, hnn⟩ := Int.eq_ofNat_of_zero_le q2
      rw [hoo] at q1 q3 q5 q6 q7 hst hdat
      rw [hnn] at q2 q4 q5 q6 r1 hdl hst hdat
      have HO := Lib.hid hoo; have HNN := Lib.hid hnn
      generalize cBot p k = b at r1 r5 ⊢
      obtain ⟨b', hbq⟩ : ∃ b', b' = cBot p (k + 1) := ⟨_, rfl⟩
      rw [← hbq] at r1 r2 r3 r4 hst
      have HBQ := Lib.hid hbq
      clear hbq
      simp only [Int.toNat_natCast] at hst hdat r1 hdl
      by_cases ho : oo = 0
      · rw [if_pos (by omega)] at hst
        have hn0 : nn = 0 := by have := q6 (by omega); omega
        have hbb : b' = b := by omega
        have HST := Lib.hid hst
        subst ho
        have HBB := Lib.hid hbb
        clear hst q1 q2 q3 q4 q5 q6 q7 r1 r2 r3 r4 r5 hdl hdat hoo hnn hbb
        go_wp2_with (go_at_call 61; refine HC.out.mono ?_; rintro e w5 ⟨rfl, hE⟩; simp only [HO.out, HNN.out]; have HE6 := Lib.hid (HE.out.ext hE); have HB6 := Lib.hid (HBF.out.ext hE); clear hE)
        go_roundg (32 - (k + 1))
        case measure => have := HMK.out; omega
        case rel => exact ⟨k + 1, by have := HMK.out; omega, by rw [← HBQ.out, HBB.out], rfl, by rw [HST.out]; exact HB6, HE6.out⟩
      · rw [if_neg (by omega)] at hst
        have HST := Lib.hid hst; have HDL := Lib.hid hdl; have HDT := Lib.hid hdat
        have o1 : ((oo : Int) == 0) = false := by simp; omega
        have e1 : IntKind.i64.wrap ((b : Int) - (nn : Int)) = (b' : Int) := by rw [IntKind.wrap_i64]; omega
        have e2 : IntKind.i64.wrap ((oo : Int) + (nn : Int)) = (oo : Int) + (nn : Int) := by rw [IntKind.wrap_i64]; omega
        have e3 : ((oo : Int) + (nn : Int)).toNat = oo + nn := by omega
        have e4 : ((oo : Int) + (nn : Int) - (oo : Int)).toNat = nn := by omega
        have e5 : (oo : Int) ≤ (oo : Int) + (nn : Int) := by omega
        have e6 : (oo : Int) + (nn : Int) ≤ (c : Int) := by omega
        have e7 : (b' : Int) ≤ 4096 := by omega
        have e8 : (4096 - (b' : Int)).toNat = 4096 - b' := by omega
        have e9 : oo + nn - oo = nn := by omega
        obtain ⟨a1, ha1⟩ : ∃ a : Nat, a = 20 + 4 * k := ⟨_, rfl⟩
        obtain ⟨a2, ha2⟩ : ∃ a : Nat, a = a1 + 2 := ⟨_, rfl⟩
        have g1 : IntKind.i64.wrap (4 * (k : Int)) = 4 * (k : Int) := by rw [IntKind.wrap_i64]; omega
        have g2 : IntKind.i64.wrap (20 + 4 * (k : Int)) = (a1 : Int) := by rw [IntKind.wrap_i64]; omega
        have g2' : IntKind.i64.wrap (4 * (k : Int) + 20) = (a1 : Int) := by rw [IntKind.wrap_i64]; omega
        have g3 : IntKind.i64.wrap ((a1 : Int) + 2) = (a2 : Int) := by rw [IntKind.wrap_i64]; omega
        have g4 : (a1 : Int) ≤ 4096 := by omega
        have g5 : (a2 : Int) ≤ 4096 := by omega
        have g6 : (4096 - (a1 : Int)).toNat = 4096 - a1 := by omega
        have g7 : (4096 - (a2 : Int)).toNat = 4096 - a2 := by omega
        have g8 : ¬ 4096 = a1 := by omega
        have g9 : ¬ 4096 = a2 := by omega
        have h1 : IntKind.u16.wrap (b' : Int) = (b' : Int) := wrap_u16 _ (by omega) (by omega)
        have h2 : IntKind.u16.wrap (nn : Int) = (nn : Int) := wrap_u16 _ (by omega) (by omega)
        have HA1 := Lib.hid ha1; have HA2 := Lib.hid ha2; have HK := Lib.hid hk
        have HRR := Lib.hid (show b' + nn ≤ 4096 ∧ b' < 65536 ∧ nn < 65536 ∧ oo + nn ≤ 4096 from by omega)
        have HP := Lib.hid hpc
        clear hst hdl hdat hoo hnn ho q1 q2 q3 q4 q5 q6 q7 r1 r2 r3 r4 r5 ha1 ha2
        go_wp2_with (go_at_call 61; refine HC.out.mono ?_; rintro e w5 ⟨rfl, hE⟩; simp only [HO.out, HNN.out]; have HE6 := Lib.hid (HE.out.ext hE); have HB6 := Lib.hid (HBF.out.ext hE); clear hE)
        refine region_tail 9 (by kernel_rfl) (by kernel_rfl) ?_
        simp only [List.take_succ_cons, List.take_zero, List.drop_succ_cons, List.drop_zero]
        repeat (first
          | (refine WQ.skip (by rfl) ?_
             try simp only [Act.put, List.setIfInBounds_toArray, List.set_cons_zero, List.set_cons_succ])
          | (refine WQ.take ?_ (by rfl) (fun w' hw => ?_) ?_
             rotate_left
             · unfold Oper.quietAt
               go_simp
               first
                 | done
                 | exact ⟨rfl, rfl⟩
                 | exact rfl
             try simp only [Act.put, List.setIfInBounds_toArray, List.set_cons_zero, List.set_cons_succ]))
        refine WQ.nil ?_
        intro w7 hw7
        obtain ⟨D1, hD1⟩ : ∃ D, D = (if 4096 = b' then some (⟨w.heap.size, 0, none⟩ : Addr) else some ⟨w.heap.size, b', none⟩) := ⟨_, rfl⟩
        obtain ⟨D2, hD2⟩ : ∃ D, D = (if c = oo then some (⟨g, off, none⟩ : Addr) else some ⟨g, off + oo, none⟩) := ⟨_, rfl⟩
        rw [← hD1, ← hD2]
        have HD1 := Lib.hid hD1; have HD2 := Lib.hid hD2
        clear hD1 hD2
        have HE7 := Lib.hid (HE6.out.ext hw7); have HB7 := Lib.hid (HB6.out.ext hw7)
        clear hw7
        refine (copy_buf rfl (.tmp 30) (.tmp 36) 22 22 rfl 5 Tryd.underlying22 HSZ.out _ _ _ _ _ _ rfl rfl HB7.out b' (ys := cDat p k) (fun y hy => byte_wf HW.out.byte y (List.mem_of_mem_drop (List.mem_of_mem_take hy))) (by rw [HDL.out, HUL.out k (by have := HK.out; omega)]; have := HRR.out; omega) (by rw [HDL.out]; exact (Nat.min_eq_left (by have := HRR.out; omega)).symm) (fun hpos => ⟨by rw [HDL.out] at hpos; have := HRR.out; rw [HD1.out, if_neg (by omega), Nat.zero_add], _, by rw [HDL.out] at hpos; have := HRR.out; have := HP.out; rw [HD2.out, if_neg (by omega)], by rw [HDT.out]; exact sl_src (Rep.sl_ext HS.out HE7.out) oo nn⟩) ?_)
        intro w8 hb8 hO8
        have HB8 := Lib.hid hb8
        have HE8 := Lib.hid (show Ext w w8 from HE7.out.then_ hO8 (fun b hb hlt => by simp at hb; omega))
        have HL8 := Lib.hid (show (splice (LU k) b' (cDat p k)).length = 4096 by rw [splice_len _ _ _ (by rw [HDL.out, HUL.out k (by have := HK.out; omega)]; have := HRR.out; omega), HUL.out k (by have := HK.out; omega)])
        clear hb8 hO8
        go_wp2_with fail
        refine region_tail 8 (by kernel_rfl) (by kernel_rfl) ?_
        simp only [List.take_succ_cons, List.take_zero, List.drop_succ_cons, List.drop_zero]
        repeat (first
          | (refine WQ.skip (by rfl) ?_
             try simp only [Act.put, List.setIfInBounds_toArray, List.set_cons_zero, List.set_cons_succ])
          | (refine WQ.take ?_ (by rfl) (fun w' hw => ?_) ?_
             rotate_left
             · unfold Oper.quietAt
               go_simp
               first
                 | done
                 | exact ⟨rfl, rfl⟩
                 | exact rfl
             try simp only [Act.put, List.setIfInBounds_toArray, List.set_cons_zero, List.set_cons_succ]))
        refine WQ.nil ?_
        intro w9 hw9
        have HE9 := Lib.hid (HE8.out.ext hw9); have HB9 := Lib.hid (HB8.out.ext hw9)
        clear hw9
        go_wp2_with (go_at_call 66; refine (Buf.putU16 HB9.out _ _ a1 _ (by simp) (by have := HK.out; have := HA1.out; rw [HL8.out]; omega) (by have := HK.out; have := HA1.out; omega) b' (by have := HRR.out; omega)).mono ?_; rintro e w10 ⟨rfl, hb10, hO10⟩)
        have HB10 := Lib.hid hb10
        have HE10 := Lib.hid (show Ext w w10 from HE9.out.then_ hO10 (fun b hb hlt => by simp at hb; omega))
        have HL10 := Lib.hid (show (splice (splice (LU k) b' (cDat p k)) a1 (beL 2 b')).length = 4096 by rw [splice_len _ _ _ (by rw [beL_length, HL8.out]; have := HK.out; have := HA1.out; omega), HL8.out])
        clear hb10 hO10
        go_wp2_with fail
        refine region_tail 9 (by kernel_rfl) (by kernel_rfl) ?_
        simp only [List.take_succ_cons, List.take_zero, List.drop_succ_cons, List.drop_zero]
        repeat (first
          | (refine WQ.skip (by rfl) ?_
             try simp only [Act.put, List.setIfInBounds_toArray, List.set_cons_zero, List.set_cons_succ])
          | (refine WQ.take ?_ (by rfl) (fun w' hw => ?_) ?_
             rotate_left
             · unfold Oper.quietAt
               go_simp
               first
                 | done
                 | exact ⟨rfl, rfl⟩
                 | exact rfl
             try simp only [Act.put, List.setIfInBounds_toArray, List.set_cons_zero, List.set_cons_succ]))
        refine WQ.nil ?_
        intro w11 hw11
        have HE11 := Lib.hid (HE10.out.ext hw11); have HB11 := Lib.hid (HB10.out.ext hw11)
        clear hw11
        go_wp2_with (go_at_call 66; refine (Buf.putU16 HB11.out _ _ a2 _ (by simp) (by have := HK.out; have := HA1.out; have := HA2.out; rw [HL10.out]; omega) (by have := HK.out; have := HA1.out; have := HA2.out; omega) nn (by have := HRR.out; omega)).mono ?_; rintro e w12 ⟨rfl, hb12, hO12⟩)
        go_roundg (32 - (k + 1))
        case measure => have := HMK.out; omega
        case rel =>
          refine ⟨k + 1, by have := HMK.out; omega, by rw [← HBQ.out], rfl, Lib.hid ?_, HE11.out.then_ hO12 (fun b hb hlt => by simp at hb; omega)⟩
          rw [HST.out, ← HA1.out, ← HA2.out]
          exact hb12
    · have hk : k = 32 := by have := HMK.out; omega
      subst hk
      obtain ⟨-, r3, r4⟩ := HW.out.bot 32 (by omega)
      obtain ⟨b, hbq⟩ : ∃ b, b = cBot p 32 := ⟨_, rfl⟩
      have HBQ := Lib.hid hbq
      try rw [← hbq]
      rw [← hbq] at r3 r4
      clear hbq
      have h1 : IntKind.u16.wrap (b : Int) = (b : Int) := wrap_u16 _ (by omega) (by omega)
      have HRR := Lib.hid (show b < 65536 by omega)
      go_wp2_with fail
      refine region_tail 5 (by kernel_rfl) (by kernel_rfl) ?_
      simp only [List.take_succ_cons, List.take_zero, List.drop_succ_cons, List.drop_zero]
      repeat (first
        | (refine WQ.skip (by rfl) ?_
           try simp only [Act.put, List.setIfInBounds_toArray, List.set_cons_zero, List.set_cons_succ])
        | (refine WQ.take ?_ (by rfl) (fun w' hw => ?_) ?_
           rotate_left
           · unfold Oper.quietAt
             go_simp
             first
               | done
               | exact ⟨rfl, rfl⟩
               | exact rfl
           try simp only [Act.put, List.setIfInBounds_toArray, List.set_cons_zero, List.set_cons_succ]))
      refine WQ.nil ?_
      intro w7 hw7
      have HE7 := Lib.hid (HE.out.ext hw7); have HB7 := Lib.hid (HBF.out.ext hw7)
      clear hw7
      go_wp2_with (go_at_call 66; refine (Buf.putU16 HB7.out _ _ 16 _ (by simp) (by rw [HUL.out 32 (by omega)]; omega) (by omega) b HRR.out).mono ?_; rintro e w8 ⟨rfl, hb8, hO8⟩)
      go_ret
      exact ⟨w.heap.size, rfl, Nat.le_refl _, by rw [HR.out, ← HBQ.out]; exact hb8, HE7.out.then_ hO8 (fun b hb hlt => by simp at hb; omega)⟩
end Go.Proofs.YtghgjddiheebeaaDoor
/- The reference's PutNumber. -/
namespace Go.Proofs.YtghgjddiheebeaaDoor
open Go.RowKit
set_option linter.unusedSimpArgs false
set_option linter.unusedVariables false
theorem beL_cons : ∀ (k v : Nat), beL (k + 1) v = ((v / 256 ^ k % 256 : Nat) : Int) :: beL k v
  | 0, v => by simp [beL]
  | k + 1, v => by
    have ih := beL_cons k (v / 256)
    rw [beL, ih]
    show _ = _ :: (beL k (v / 256) ++ [_])
    rw [List.cons_append, Nat.div_div_eq_div_mul, Nat.pow_succ, Nat.mul_comm 256]
theorem zeros_snoc (n : Nat) : zeros (n + 1) = zeros n ++ [0] := by
  rw [zeros, zeros, List.replicate_succ']
theorem bytes_new (w : World) (n : Nat) (hn : n ≤ maxLen) : Buf (w.alloc (.cells (Array.replicate n (.int .u8 0)) 5)) w.heap.size 0 n (zeros n) := by
  refine ⟨⟨by rw [zeros_len]; exact Nat.le_refl _, hn, .inr ⟨w.heap.size, 0, [], (zeros n).map (.int .u8), rfl, rfl, by simp, cells_ints _ ?_, fun j u hu => ?_⟩⟩, ?_⟩
  · intro x hx
    obtain ⟨_, rfl⟩ := List.mem_replicate.1 hx
    rfl
  · rw [Nat.zero_add, World.cell?_alloc_at _ _ _ _ rfl]
    rw [List.getElem?_map, zeros_at] at hu
    split at hu
    · rename_i hj
      simp at hu
      subst hu
      simp [hj]
    · simp at hu
  · intro b hb j
    simp only [List.mem_singleton] at hb
    subst hb
    exact World.frozen?_alloc_at _ _ _ _ rfl
theorem mk_bytes (w : World) (n : Nat) (hn : n ≤ 4096) : (Instr.makeSlice 22 (.int .i64 n) (.int .i64 n)).run Tryd.prog w = .ok (.slice (some ⟨w.heap.size, 0, none⟩) n n) (w.alloc (.cells (Array.replicate n (.int .u8 0)) 5)) := by
  obtain ⟨i0, hi, hz0, hz1, hz2⟩ := info_parts info5
  have h := run_make (P := Tryd.prog) w 22 5 i0 _ Tryd.underlying22 hi hz0 .i64 .i64 n n (by omega) (by omega) (by rw [hz2]; omega) (by omega)
  rw [hz1, made_one _ _ rfl] at h
  simpa using h
def numUp (n v k : Nat) : List Int := zeros (n - k) ++ beL k v
theorem numUp_succ (n v k : Nat) (hk : k < n) : numUp n v (k + 1) = splice (numUp n v k) (n - 1 - k) [((v / 256 ^ k % 256 : Nat) : Int)] := by
  have e : n - k = (n - 1 - k) + 1 := by omega
  rw [numUp, numUp, e, zeros_snoc, beL_cons, show n - (k + 1) = n - 1 - k by omega]
  generalize n - 1 - k = m
  rw [splice, List.append_assoc, List.take_append_of_le_length (by rw [zeros_len]; exact Nat.le_refl _), List.take_of_length_le (by rw [zeros_len]; exact Nat.le_refl _)]
  rw [List.drop_append, List.drop_of_length_le (by rw [zeros_len]; simp), zeros_len]
  simp
set_option maxRecDepth 100000 in
set_option maxHeartbeats 4000000 in
theorem putNumber_calls (w : World) (n v : Nat) (z nz : Int) (hz : z = v) (hnz : nz = n) (h1 : 1 ≤ n) (h8 : n ≤ 8) (hv : v < 256 ^ n) (hv2 : v < 4611686018427387904) :
    Calls Tryd.prog 54 #[.int .i64 z, .int .i64 nz] w fun e w' => ∃ B, e = .returned (.slice (some ⟨B, 0, none⟩) n n) ∧ w.heap.size ≤ B ∧ Buf w' B 0 n (beL n v) ∧ Ext w w' := by
  subst hz; subst hnz
  obtain ⟨up, hup⟩ : ∃ up : Nat → Nat, up = fun k => v / 256 ^ k := ⟨_, rfl⟩
  have HU0 := Lib.hid (show up 0 = v by rw [hup]; simp)
  have HUS := Lib.hid (show ∀ k, up (k + 1) = up k / 256 by rw [hup]; intro k; simp only; rw [Nat.pow_succ, Nat.div_div_eq_div_mul])
  have HUN := Lib.hid (show up n = 0 by rw [hup]; exact Nat.div_eq_of_lt hv)
  have HUB := Lib.hid (show ∀ k, up k < 4611686018427387904 by rw [hup]; intro k; exact Nat.lt_of_le_of_lt (Nat.div_le_self _ _) hv2)
  obtain ⟨L, hL⟩ : ∃ L, L = numUp n v := ⟨_, rfl⟩
  have HL0 := Lib.hid (show L 0 = zeros n by rw [hL, numUp]; simp [beL])
  have HLS := Lib.hid (show ∀ k, k < n → L (k + 1) = splice (L k) (n - 1 - k) [((up k % 256 : Nat) : Int)] by rw [hL, hup]; exact fun k hk => numUp_succ n v k hk)
  have HLN := Lib.hid (show L n = beL n v by rw [hL, numUp, Nat.sub_self]; rfl)
  have HLL := Lib.hid (show ∀ k, k ≤ n → (L k).length = n by rw [hL]; intro k hk; rw [numUp, List.length_append, zeros_len, beL_length]; omega)
  have HB0 := Lib.hid (bytes_new w n (by unfold maxLen; omega))
  have hmk := mk_bytes w n (by omega)
  have g1 : ¬ (n : Int) < 1 := by omega
  have g2 : ¬ 8 < (n : Int) := by omega
  have g2' : ¬ 8 < n := by omega
  have g3 : ¬ (v : Int) < 0 := by omega
  have g4 : IntKind.i64.wrap ((n : Int) - 1) = (n : Int) - 1 := by rw [IntKind.wrap_i64]; omega
  have HV := Lib.hid (show v = up 0 from HU0.out.symm)
  clear hup hL hv
  go_enter Tryd.func54, Tryd.ntmps54
  go_wp2
  clear hmk
  go_loopg [0, 6] n (fun m a i wr => ∃ k : Nat, m + k = n ∧ a = .int .i64 (up k) ∧ i = .int .i64 ((n : Int) - 1 - k) ∧ Hid (Buf wr w.heap.size 0 n (L k)) ∧ Ext w wr)
  case atStart => exact ⟨0, by simp, by rw [HU0.out], by simp, by rw [HL0.out]; exact HB0, alloc_ext _ _⟩
  case round =>
    obtain ⟨k, hmk, rfl, rfl, HBF, hE⟩ := hrel
    have HE := Lib.hid hE; have HMK := Lib.hid hmk
    clear hE hmk
    by_cases hlt : k < n
    · have hu := HUB.out k
      have hus := HUS.out k
      have hls := HLS.out k hlt
      have hll := HLL.out k (by omega)
      obtain ⟨i, hi⟩ : ∃ i : Nat, i = n - 1 - k := ⟨_, rfl⟩
      have e1 : (n : Int) - 1 - (k : Int) = (i : Int) := by omega
      rw [← hi] at hls
      rw [e1]
      have HNX := Lib.hid (show (i : Int) - 1 = (n : Int) - 1 - ((k + 1 : Nat) : Int) by omega)
      generalize up k = u at *
      obtain ⟨u', hu'⟩ : ∃ x, x = up (k + 1) := ⟨_, rfl⟩
      rw [← hu'] at hus
      have HUQ := Lib.hid hu'
      clear hu'
      have t1 : Int.tmod (u : Int) 256 = ((u % 256 : Nat) : Int) := by rw [Int.tmod_eq_emod_of_nonneg (by omega)]; first | done | rfl | omega
      have t2 : Int.tdiv (u : Int) 256 = (u' : Int) := by rw [Int.tdiv_eq_ediv_of_nonneg (by omega)]; omega
      have t3 : IntKind.u8.wrap ((u % 256 : Nat) : Int) = ((u % 256 : Nat) : Int) := by
        simp [IntKind.wrap, IntKind.min, IntKind.max, IntKind.signed, IntKind.bits]
      have t4 : IntKind.i64.wrap (u' : Int) = (u' : Int) := by rw [IntKind.wrap_i64]; omega
      have t5 : IntKind.i64.wrap ((i : Int) - 1) = (i : Int) - 1 := by rw [IntKind.wrap_i64]; omega
      have t6 : (0 : Int) ≤ (i : Int) := by omega
      have t7 : (i : Int) < (n : Int) := by omega
      have t8 : (i : Int).toNat = i := by omega
      generalize hr : u % 256 = r at *
      have hset := Buf.set HBF.out i (by rw [hll]; omega) (r : Int) (by
        have : r < 256 := by omega
        simp only [Lit.wf, IntKind.min, IntKind.max, IntKind.signed, IntKind.bits]; simp; omega)
      rw [Nat.zero_add] at hset
      have hc := sl_byte HBF.out.sl i (by rw [hll]; omega)
      rw [Nat.zero_add] at hc
      have hf := HBF.out.un w.heap.size (by simp) i
      have HST := Lib.hid hset; have HLS2 := Lib.hid hls
      have HU2 := Lib.hid hus
      clear hset hls hus hr hi e1 hu hll
      go_wp2
      go_roundg (n - (k + 1))
      case measure => have := HMK.out; omega
      case rel =>
        exact ⟨k + 1, by have := HMK.out; omega, by rw [HUQ.out], by rw [HNX.out], Lib.hid (by rw [HLS2.out]; exact HST.out), HE.out.setCell (fun h => absurd h (by simp)) _⟩
    · have hk : k = n := by have := HMK.out; omega
      subst hk
      have e0 := HUN.out
      have e2 : (k : Int) - 1 - (k : Int) = -1 := by omega
      rw [e2, e0]
      go_wp2
      go_ret
      exact ⟨w.heap.size, rfl, Nat.le_refl _, by rw [← HLN.out]; exact HBF.out, HE.out⟩
end Go.Proofs.YtghgjddiheebeaaDoor
/- The reference's l3Set, PageGet. -/
namespace Go.Proofs.YtghgjddiheebeaaDoor
open Go.RowKit
set_option linter.unusedSimpArgs false
set_option linter.unusedVariables false
theorem Wf.well {p : List Int} (h : Wf p) : wellF p = true := wellF_iff.2 h.zero
theorem Buf.of_new {w : World} {A : Option Addr} {c : Nat} {xs : List Int} {F : List Nat} (h : (Rep.int .u8).sl w A c xs F) (hu : Unfr w F) (h0 : 0 < xs.length) : ∃ g off, A = some ⟨g, off, none⟩ ∧ F = [g] ∧ Buf w g off c xs := by
  obtain ⟨g, off, rfl, rfl, -⟩ := sl_splice (ys := []) h hu 0 (by simp) h0 (by simp)
  exact ⟨g, off, rfl, rfl, h, hu⟩
/-- A number laid over the buffer: copy(out[p:], PutNumber(v, n)). -/
theorem sl_all {w : World} {g off c : Nat} {xs : List Int} {F : List Nat} (h : (Rep.int .u8).sl w (some ⟨g, off, none⟩) c xs F) :
    ∀ j v, (xs.map (Value.int .u8))[j]? = some v → w.cell? ((⟨g, off, none⟩ : Addr).add j) = some v := by
  have := sl_src h 0 xs.length
  simpa using this
theorem step_copy_buf {P : Program} {ops : Array Oper} {o : Oper} {a : Act} {w : World} {Kn : Act → World → Prop} {Q : Exit → Act → World → Prop} {E : Prop} (hgd : o.guard = none) (d s : Operand) (dT sT : TypeId)
    (ho : o.op = .call { callee := .builtin .copy, args := #[d, s], argTypes := #[dT, sT] }) (elem : TypeId) (hu : P.underlying dT = some (.slice elem)) (hsz : (P.info? elem).map (·.size) = some 1)
    (dp sp : Option Addr) (dLen dCap sLen sCap : Nat) (hd : a.eval d = .slice dp dLen dCap) (hs : a.eval s = .slice sp sLen sCap)
    {g off c : Nat} {xs ys : List Int} (h : Buf w g off c xs) (p : Nat) (hy : ∀ y ∈ ys, (Lit.int .u8 y).wf = true) (hp : p + ys.length ≤ xs.length) (hn : ys.length = Nat.min sLen dLen)
    (hpos : 0 < ys.length → dp = some ⟨g, off + p, none⟩ ∧ ∃ ad, sp = some ad ∧ ∀ j v, (ys.map (Value.int .u8))[j]? = some v → w.cell? (ad.add j) = some v)
    (K : ∀ w', Buf w' g off c (splice xs p ys) → Only [g] w w' → Kn (a.put o.dst (goInt ys.length)) w') : if Region.wanted o (yielded ops a.tmps) = true then Oper.wp P o a w Kn Q else E := by
  have hw : Region.wanted o (yielded ops a.tmps) = true := by simp [Region.wanted, hgd]
  by_cases h0 : ys.length = 0
  · obtain rfl : ys = [] := List.eq_nil_of_length_eq_zero h0
    rw [if_pos hw]
    have hrun := run_copy_none (P := P) w dT sT o.type elem dp sp dLen dCap sLen sCap hu hsz (by simpa using hn.symm)
    unfold Oper.wp
    simp [execOp, ho, resolve, invoke, builtin, hd, hs, hrun, Result.andThen]
    rw [splice_nil] at K
    exact K w h (Only.refl _ _)
  · obtain ⟨rfl, ad, rfl, hsrc⟩ := hpos (by omega)
    obtain ⟨g', off', e, -, -, hin, hfr, h1, h2⟩ := sl_splice (ys := ys) h.sl h.un p hp (by omega) hy
    injection e with e
    injection e with e1 e2
    subst e1; subst e2
    have := step_copy_to (P := P) (w := w) (ops := ops) (o := o) (a := a) (K := Kn) (Q := Q) (E := E) hgd d s dT sT ho elem hu hsz g (off + p) dLen dCap ad sLen sCap hd hs (ys.map (.int .u8)) (by rw [List.length_map]; exact hn) hsrc (fun j hj => hin j (by simpa using hj)) (fun j hj => hfr _) (ints_cells1 _)
    rw [List.length_map] at this
    exact this (K _ ⟨h1, h2⟩ ((Only.refl [g] w).cells (fun _ => by simp) _ _))
set_option maxRecDepth 100000 in
set_option maxHeartbeats 4000000 in
theorem l3Set_calls (w : World) (g off c : Nat) (xs : List Int) (h : Buf w g off c xs) (hl : xs.length = 4096) (i a n : Nat) (iz az nz : Int) (hiz : iz = i) (haz : az = a) (hnz : nz = n) (hi : i < 32) (ha : a < 65536) (hn : n < 65536) :
    Calls Tryd.prog 53 #[.slice (some ⟨g, off, none⟩) 4096 c, .int .i64 iz, .int .i64 az, .int .i64 nz] w fun e w' => e = .returned (.tuple #[]) ∧ Buf w' g off c (splice (splice xs (20 + 4 * i) (beL 2 a)) (20 + 4 * i + 2) (beL 2 n)) ∧ Only [g] w w' := by
  subst hiz; subst haz; subst hnz
  obtain ⟨i0, hi0, hz0, hz1, hz2⟩ := info_parts info5
  have HSZ := Lib.hid (show (Tryd.prog.info? 5).map (·.size) = some 1 by rw [hi0]; simp [hz1])
  have hc := h.sl.1
  rw [hl] at hc
  obtain ⟨a1, ha1⟩ : ∃ x : Nat, x = 20 + 4 * i := ⟨_, rfl⟩
  obtain ⟨a2, ha2⟩ : ∃ x : Nat, x = a1 + 2 := ⟨_, rfl⟩
  rw [← ha1, ← ha2]
  have HGL := Lib.hid h.lt
  have HBF := Lib.hid h; have HL := Lib.hid hl
  have g1 : IntKind.i64.wrap (4 * (i : Int)) = 4 * (i : Int) := by rw [IntKind.wrap_i64]; omega
  have g2 : IntKind.i64.wrap (20 + 4 * (i : Int)) = (a1 : Int) := by rw [IntKind.wrap_i64]; omega
  have g2' : IntKind.i64.wrap (4 * (i : Int) + 20) = (a1 : Int) := by rw [IntKind.wrap_i64]; omega
  have g3 : IntKind.i64.wrap ((a1 : Int) + 2) = (a2 : Int) := by rw [IntKind.wrap_i64]; omega
  have g4 : (a1 : Int) ≤ 4096 := by omega
  have g5 : (a2 : Int) ≤ 4096 := by omega
  have g6 : (4096 - (a1 : Int)).toNat = 4096 - a1 := by omega
  have g7 : (4096 - (a2 : Int)).toNat = 4096 - a2 := by omega
  have g8 : ¬ c = a1 := by omega
  have g9 : ¬ c = a2 := by omega
  have HA := Lib.hid (show a1 + 4 ≤ 4096 ∧ a2 = a1 + 2 from by omega)
  have HLT := Lib.hid (And.intro ha hn)
  have HL1 := Lib.hid (show (splice xs a1 (beL 2 a)).length = 4096 by rw [splice_len _ _ _ (by rw [beL_length]; omega), hl])
  clear hi0 hz0 hz1 hz2 i0 h hl ha1 ha2 ha hn
  go_enter Tryd.func53, Tryd.ntmps53
  go_wp2_with fail
  go_region_held3 (fun w' => True)
    (first | go_keep | exact trivial)
    (first
      | (go_at_call 54; refine (putNumber_calls _ 2 a _ _ rfl rfl (by decide) (by decide) (by have := HLT.out.1; omega) (by have := HLT.out.1; omega)).mono ?_; rintro e w2 ⟨B2, rfl, hB2, hb2, hE2⟩)
      | (refine step_copy_buf rfl (.tmp 12) (.tmp 14) 22 22 rfl 5 Tryd.underlying22 HSZ.out _ _ (4096 - a1) _ 2 2 rfl rfl (HBF.out.ext ((Only.refl [] w).drew.ext hE2)) a1 (ys := beL 2 a) (byte_wf (beL_byte 2 a)) (by rw [beL_length, HL.out]; have := HA.out; omega) (by rw [beL_length]; have := HA.out; exact (Nat.min_eq_left (by omega)).symm) (fun hpos => ⟨rfl, _, rfl, sl_all hb2.sl⟩) ?_; intro w3 hb3 hO3))
  have HB3 := Lib.hid hb3
  have HO3 := Lib.hid (show Only [g] w w3 from (((Only.refl [] w).drew.ext hE2).more (by simp)).trans hO3)
  clear hb3 hO3 hE2 hb2 hB2
  go_wp2_with fail
  go_region_held3 (fun w' => True)
    (first | go_keep | exact trivial)
    (first
      | (go_at_call 54; refine (putNumber_calls _ 2 n _ _ rfl rfl (by decide) (by decide) (by have := HLT.out.2; omega) (by have := HLT.out.2; omega)).mono ?_; rintro e w5 ⟨B5, rfl, hB5, hb5, hE5⟩)
      | (refine step_copy_buf rfl (.tmp 21) (.tmp 23) 22 22 rfl 5 Tryd.underlying22 HSZ.out _ _ (4096 - a2) _ 2 2 rfl rfl (HB3.out.ext ((Only.refl [] _).drew.ext hE5)) a2 (ys := beL 2 n) (byte_wf (beL_byte 2 n)) (by rw [beL_length, HL1.out]; have := HA.out; omega) (by rw [beL_length]; have := HA.out; exact (Nat.min_eq_left (by omega)).symm) (fun hpos => ⟨rfl, _, rfl, sl_all hb5.sl⟩) ?_; intro w6 hb6 hO6))
  have HB6 := Lib.hid hb6
  have HO6 := Lib.hid (show Only [g] w w6 from (HO3.out.ext ((Only.refl [] _).drew.ext hE5)).trans hO6)
  clear hb6 hO6 hE5 hb5 hB5
  go_wp2
  go_end0
  exact ⟨rfl, HB6.out, HO6.out⟩
set_option maxRecDepth 100000 in
set_option maxHeartbeats 4000000 in
theorem pageGet_none (w : World) (g off c : Nat) (p : List Int) (F : List Nat) (h : (Rep.int .u8).sl w (some ⟨g, off, none⟩) c p F) (hw : Wf p) (i : Nat) (hi : i < 32) (ho : slO p i = 0) :
    Calls Tryd.prog 52 #[.slice (some ⟨g, off, none⟩) 4096 c, .int .i64 i] w fun e w' => e = .returned (.agg #[.bool false, .slice none 0 0]) ∧ Ext w w' := by
  have hu := Tryd.underlying33
  have hu2 := Tryd.underlying73
  have HOW := Lib.hid (fun W (hW : Ext w W) => by
    have h := l3Own_calls W _ c p F (Rep.sl_ext h hW)
    rw [hw.len, hw.well] at h
    exact h)
  have HSL := Lib.hid (fun W (hW : Ext w W) => l3Slots_cells W g off c p F (Rep.sl_ext h hW) hw.len)
  have HB := Lib.hid (heap_alloc_new w (.cells #[.bool false, .slice none 0 0] 33))
  have HE0 := Lib.hid (alloc_ext w (.cells #[.bool false, .slice none 0 0] 33))
  have k1 : ¬ (i : Int) < 0 := by omega
  have k2 : ¬ (32 : Int) ≤ (i : Int) := by omega
  have k2' : ¬ 32 ≤ i := by omega
  have k3 : (i : Int) < 32 := by omega
  have k4 : (0 : Int) ≤ (i : Int) := by omega
  have k5 : (i : Int).toNat = i := by omega
  have HO := Lib.hid ho; have HI := Lib.hid hi
  clear h hw ho
  go_enter Tryd.func52, Tryd.ntmps52
  go_wp2_with (first
    | (go_at_call 50; refine (HOW.out _ HE0.out).mono ?_; rintro e w1 ⟨rfl, hE⟩; have HB1 := Lib.hid (hE.heap HB.out (by simp)); have HE1 := Lib.hid (HE0.out.ext hE); clear hE)
    | (go_at_call 58; refine (HSL.out _ HE1.out).mono ?_; rintro e w2 ⟨Bs, zs, cps, rfl, hB1, hB2, hcp, hcell, hE⟩; have hci := hcell i HI.out; have d1 := hci.1; have d2 := hci.2; rw [HO.out] at d1; clear hci hcell; have hb2 := hE.heap HB1.out (by simp); have hb3 := (alloc_ext w2 (.cells #[.int .i64 0, .int .i64 (slN p i)] 73)).heap hb2 (by simp); have m := fun o => cell_of_row _ _ o _ _ _ hb3; have f := fun o => frozen_of_row _ _ o _ _ hb3; have HB2 := Lib.hid hb2; have HE2 := Lib.hid (HE1.out.ext hE); clear hE hb2 hb3 hB1 hB2))
  refine bodyPost_ret (v := .agg #[.bool false, .slice none 0 0]) (by simp [results, Tryd.results52, go_sem, m]) rfl ?_
  exact ⟨rfl, by repeat (first | with_reducible exact HE2.out | ((with_reducible apply Only.set); · first | (simp; done) | exact fun hq => absurd hq (by dsimp only; omega)) | (with_reducible apply Only.alloc))⟩
set_option maxRecDepth 100000 in
set_option maxHeartbeats 4000000 in
theorem pageGet_some (w : World) (g off c : Nat) (p : List Int) (F : List Nat) (h : (Rep.int .u8).sl w (some ⟨g, off, none⟩) c p F) (hw : Wf p) (i : Nat) (hi : i < 32) (ho : slO p i ≠ 0) (nn : Nat) (hnn : slN p i = nn) :
    Calls Tryd.prog 52 #[.slice (some ⟨g, off, none⟩) 4096 c, .int .i64 i] w fun e w' => ∃ A5 c5 F5, e = .returned (.agg #[.bool true, .slice A5 nn c5]) ∧ (Rep.int .u8).sl w' A5 c5 (cDat p i) F5 ∧ Ext w w' := by
  have hu := Tryd.underlying33
  have hu2 := Tryd.underlying73
  have hpc := h.1
  rw [hw.len] at hpc
  obtain ⟨q1, q2, q3, q4, q5, q6, q7⟩ := hw.slot i hi
  obtain ⟨oo, hoo⟩ := Int.eq_ofNat_of_zero_le q1
  have HOW := Lib.hid (fun W (hW : Ext w W) => by
    have h := l3Own_calls W _ c p F (Rep.sl_ext h hW)
    rw [hw.len, hw.well] at h
    exact h)
  have HSL := Lib.hid (fun W (hW : Ext w W) => l3Slots_cells W g off c p F (Rep.sl_ext h hW) hw.len)
  have HB := Lib.hid (heap_alloc_new w (.cells #[.bool false, .slice none 0 0] 33))
  have HE0 := Lib.hid (alloc_ext w (.cells #[.bool false, .slice none 0 0] 33))
  have hdl := hw.dat i hi
  rw [hnn] at hdl
  simp only [Int.toNat_natCast] at hdl
  have hdat : cDat p i = (p.drop oo).take nn := by rw [cDat, hoo, hnn]; rfl
  have HCP : Hid (∀ W, Ext w W → ∀ A', (A' = if c = oo then some (⟨g, off, none⟩ : Addr) else some ⟨g, off + oo, none⟩) → Calls Tryd.prog 51 #[.slice A' nn (c - oo)] W (NewPost (Rep.int .u8).slice (cDat p i) W)) := by
    intro W hW A' hA'
    have hs : ∃ F', (Rep.int .u8).sl W A' (c - oo) (cDat p i) F' := by
      by_cases hco : c = oo
      · have hn0 : nn = 0 := by omega
        have : cDat p i = [] := List.eq_nil_of_length_eq_zero (by omega)
        rw [this]
        exact ⟨[], Rep.sl_nil (by have := h.2.1; omega)⟩
      · rw [hA', if_neg hco, hdat]
        exact ⟨F, sl_sub (Rep.sl_ext h hW) (by intro e; have := hw.len; rw [e] at this; simp at this) oo nn (by have := hw.len; omega)⟩
    obtain ⟨F', hs⟩ := hs
    have := l1Copy_calls A' (c - oo) (cDat p i) F' W hs (by omega)
    rw [hdl] at this
    exact this
  have HC0 : Hid (c = oo → ∀ W A' cc, cc ≤ maxLen → Calls Tryd.prog 51 #[.slice A' nn cc] W (NewPost (Rep.int .u8).slice (cDat p i) W)) := by
    intro hco W A' cc hcc
    have hn0 : nn = 0 := by omega
    have e : cDat p i = [] := List.eq_nil_of_length_eq_zero (by omega)
    rw [e, hn0]
    exact l1Copy_calls A' cc [] [] W (Rep.sl_nil hcc) (by simp)
  have HMX := Lib.hid (show c ≤ maxLen from h.2.1)
  have k1 : ¬ (i : Int) < 0 := by omega
  have k2 : ¬ (32 : Int) ≤ (i : Int) := by omega
  have k2' : ¬ 32 ≤ i := by omega
  have k3 : (i : Int) < 32 := by omega
  have k4 : (0 : Int) ≤ (i : Int) := by omega
  have k5 : (i : Int).toNat = i := by omega
  have o1 : ((oo : Int) == 0) = false := by simp; omega
  have o1' : (oo == 0) = false := by simp; omega
  have o1n : ¬ oo = 0 := by omega
  have e2 : IntKind.i64.wrap ((oo : Int) + (nn : Int)) = (oo : Int) + (nn : Int) := by rw [IntKind.wrap_i64]; omega
  have e3 : ((oo : Int) + (nn : Int)).toNat = oo + nn := by omega
  have e4 : ((oo : Int) + (nn : Int) - (oo : Int)).toNat = nn := by omega
  have e5 : (oo : Int) ≤ (oo : Int) + (nn : Int) := by omega
  have e6 : (oo : Int) + (nn : Int) ≤ (c : Int) := by omega
  have e9 : oo + nn - oo = nn := by omega
  have HO := Lib.hid hoo; have HI := Lib.hid hi; have HNN := Lib.hid hnn; have HDL := Lib.hid hdl
  by_cases hco : c = oo
  rotate_left
  · have HA' := Lib.hid hco
    clear h hw ho q1 q2 q3 q4 q5 q6 q7 hoo hnn hdl hdat HC0
    go_enter Tryd.func52, Tryd.ntmps52
    go_wp2_with (first
      | (go_at_call 50; refine (HOW.out _ HE0.out).mono ?_; rintro e w1 ⟨rfl, hE⟩; have HB1 := Lib.hid (hE.heap HB.out (by simp)); have HE1 := Lib.hid (HE0.out.ext hE); clear hE)
      | (go_at_call 58; refine (HSL.out _ HE1.out).mono ?_; rintro e w2 ⟨Bs, zs, cps, rfl, hB1, hB2, hcp, hcell, hE⟩; have hci := hcell i HI.out; have d1 := hci.1; have d2 := hci.2; rw [HO.out] at d1; rw [HNN.out] at d2; clear hci hcell; have hb2 := hE.heap HB1.out (by simp); have HB2 := Lib.hid hb2; have HE2 := Lib.hid (HE1.out.ext hE); have HB2L := Lib.hid hB2; clear hE hb2 hB1 hB2)
      | (go_at_call 51; refine (HCP.out _ (HE2.out.alloc _) _ (if_neg HA'.out).symm).mono ?_; rintro e w3 ⟨v5, G5, rfl, hV5, hN5⟩; obtain ⟨A5, c5, rfl, q5⟩ := Rep.slice_V hV5; rw [HDL.out]; have hb3 := hN5.ext.heap ((alloc_ext _ _).heap HB2.out (by simp)) (by simp); have m := fun o => cell_of_row _ _ o _ _ _ hb3; have f := fun o => frozen_of_row _ _ o _ _ hb3; have HN := Lib.hid hN5; have HQ := Lib.hid q5; have HE3 := Lib.hid ((HE2.out.alloc _).ext hN5.ext); clear hV5 hN5 q5 hb3))
    refine bodyPost_ret (v := .agg #[.bool true, .slice A5 nn c5]) (by simp [results, Tryd.results52, go_sem, m]) rfl ?_
    have hO : Only [w.heap.size] w3 ((w3.setCell ⟨w.heap.size, 0, none⟩ (.bool true)).setCell ⟨w.heap.size, 1, none⟩ (.slice A5 nn c5)) := by repeat (first | with_reducible exact Only.refl _ _ | ((with_reducible apply Only.set); · first | (simp; done) | exact fun hq => absurd hq (by dsimp only; omega)))
    have hz0 : w.heap.size + 1 ≤ w2.heap.size := by have h1 := (Array.getElem?_eq_some_iff.1 HB2.out).1; omega
    have hd : ∀ b ∈ G5, b ∉ [w.heap.size] := fun b hb' hm => by have := HN.out.new b hb'; simp at hm this; omega
    exact ⟨A5, c5, G5, rfl, Rep.sl_only HQ.out hO hd, HE3.out.then_ hO (fun g hg hlt => by simp at hg; omega)⟩
  · have HC1 := Lib.hid (HC0.out hco)
    clear h hw ho q1 q2 q3 q4 q5 q6 q7 hoo hnn hdl hdat HC0 HCP
    subst hco
    go_enter Tryd.func52, Tryd.ntmps52
    go_wp2_with (first
      | (go_at_call 50; refine (HOW.out _ HE0.out).mono ?_; rintro e w1 ⟨rfl, hE⟩; have HB1 := Lib.hid (hE.heap HB.out (by simp)); have HE1 := Lib.hid (HE0.out.ext hE); clear hE)
      | (go_at_call 58; refine (HSL.out _ HE1.out).mono ?_; rintro e w2 ⟨Bs, zs, cps, rfl, hB1, hB2, hcp, hcell, hE⟩; have hci := hcell i HI.out; have d1 := hci.1; have d2 := hci.2; rw [HO.out] at d1; rw [HNN.out] at d2; clear hci hcell; have hb2 := hE.heap HB1.out (by simp); have HB2 := Lib.hid hb2; have HE2 := Lib.hid (HE1.out.ext hE); have HB2L := Lib.hid hB2; clear hE hb2 hB1 hB2)
      | (go_at_call 51; refine (HC1.out _ _ _ (by have := HMX.out; omega)).mono ?_; rintro e w3 ⟨v5, G5, rfl, hV5, hN5⟩; obtain ⟨A5, c5, rfl, q5⟩ := Rep.slice_V hV5; rw [HDL.out]; have hb3 := hN5.ext.heap ((alloc_ext _ _).heap HB2.out (by simp)) (by simp); have m := fun o => cell_of_row _ _ o _ _ _ hb3; have f := fun o => frozen_of_row _ _ o _ _ hb3; have HN := Lib.hid hN5; have HQ := Lib.hid q5; have HE3 := Lib.hid ((HE2.out.alloc _).ext hN5.ext); clear hV5 hN5 q5 hb3))
    refine bodyPost_ret (v := .agg #[.bool true, .slice A5 nn c5]) (by simp [results, Tryd.results52, go_sem, m]) rfl ?_
    have hO : Only [w.heap.size] w3 ((w3.setCell ⟨w.heap.size, 0, none⟩ (.bool true)).setCell ⟨w.heap.size, 1, none⟩ (.slice A5 nn c5)) := by repeat (first | with_reducible exact Only.refl _ _ | ((with_reducible apply Only.set); · first | (simp; done) | exact fun hq => absurd hq (by dsimp only; omega)))
    have hz0 : w.heap.size + 1 ≤ w2.heap.size := by have h1 := (Array.getElem?_eq_some_iff.1 HB2.out).1; omega
    have hd : ∀ b ∈ G5, b ∉ [w.heap.size] := fun b hb' hm => by have := HN.out.new b hb'; simp at hm this; omega
    exact ⟨A5, c5, G5, rfl, Rep.sl_only HQ.out hO hd, HE3.out.then_ hO (fun g hg hlt => by simp at hg; omega)⟩
end Go.Proofs.YtghgjddiheebeaaDoor
/- The reference's PageCompact; the program's. -/
namespace Go.Proofs.YtghgjddiheebeaaDoor
open Go.RowKit
set_option linter.unusedSimpArgs false
set_option linter.unusedVariables false
def zUp (p : List Int) (k : Nat) : List Int := p.take 148 ++ (zeros k ++ p.drop (148 + k))
theorem zUp_succ {p : List Int} (hp : p.length = 4096) (k : Nat) (hk : 148 + k < 4096) : zUp p (k + 1) = splice (zUp p k) (148 + k) [0] := by
  have h1 : p.drop (148 + k) = p[148 + k] :: p.drop (148 + k + 1) := List.drop_eq_getElem_cons (by omega)
  have ht : (p.take 148 ++ zeros k).length = 148 + k := by rw [List.length_append, List.length_take, zeros_len]; omega
  have e : zUp p k = (p.take 148 ++ zeros k) ++ p.drop (148 + k) := by rw [zUp, List.append_assoc]
  rw [splice, e, List.take_append_of_le_length (by omega), List.take_of_length_le (by omega), List.drop_append, List.drop_of_length_le (by rw [ht]; simp), ht, h1]
  rw [zUp, zeros_snoc, show 148 + (k + 1) = 148 + k + 1 by omega]
  simp
theorem zUp_len {p : List Int} (hp : p.length = 4096) (k : Nat) (hk : 148 + k ≤ 4096) : (zUp p k).length = 4096 := by
  rw [zUp, List.length_append, List.length_append, List.length_take, zeros_len, List.length_drop]; omega
set_option maxRecDepth 100000 in
set_option maxHeartbeats 8000000 in
theorem specCompact_bad (w : World) (A : Option Addr) (c : Nat) (p : List Int) (F : List Nat) (h : (Rep.int .u8).sl w A c p F) (hw : wellF p = false) :
    Calls Tryd.prog 11 #[.slice A p.length c] w (NewPost (Rep.int .u8).slice [] w) := by
  have HOW := Lib.hid (by
    have h := l3Own_calls w _ c p F h
    rw [hw] at h
    exact h)
  clear h
  go_enter Tryd.func11, Tryd.ntmps11
  go_wp2_with (go_at_call 50; refine HOW.out.mono ?_; rintro e w1 ⟨rfl, hE⟩; have HE1 := Lib.hid hE; clear hE)
  go_ret
  exact NewPost.ofOwn (e := 5) (n := w1.heap.size) (Own.made (Nat.le_refl _) #[] 0 (by simp) (by simp)) HE1.out.size (HE1.out.alloc _)
set_option maxRecDepth 100000 in
set_option maxHeartbeats 8000000 in
theorem specCompact_good (w : World) (g off c : Nat) (p : List Int) (F : List Nat) (h : (Rep.int .u8).sl w (some ⟨g, off, none⟩) c p F) (hw : Wf p) :
    Calls Tryd.prog 11 #[.slice (some ⟨g, off, none⟩) 4096 c] w fun e w' => ∃ B b c', e = .returned (.slice (some ⟨B, b, none⟩) 4096 c') ∧ w.heap.size ≤ B ∧ Buf w' B b c' (compS p) ∧ Ext w w' := by
  obtain ⟨i0, hi, hz0, hz1, hz2⟩ := info_parts info5
  have HSZ := Lib.hid (show (Tryd.prog.info? 5).map (·.size) = some 1 by rw [hi]; simp [hz1])
  have hu := Tryd.underlying33
  have HS := Lib.hid h; have HW := Lib.hid hw
  have HOW := Lib.hid (fun W (hW : Ext w W) => by
    have h := l3Own_calls W _ c p F (Rep.sl_ext h hW)
    rw [hw.len, hw.well] at h
    exact h)
  have HCP := Lib.hid (fun W (hW : Ext w W) => by
    have h := l1Copy_calls _ c p F W (Rep.sl_ext h hW) (by rw [hw.len]; omega)
    rw [hw.len] at h
    exact h)
  obtain ⟨Z, hZ⟩ : ∃ Z, Z = zUp p := ⟨_, rfl⟩
  have HZ0 := Lib.hid (show Z 0 = p by
    rw [hZ, zUp]
    have e : zeros 0 = [] := rfl
    rw [e, List.nil_append, Nat.add_zero, List.take_append_drop])
  have HZS := Lib.hid (show ∀ k, 148 + k < 4096 → Z (k + 1) = splice (Z k) (148 + k) [0] by rw [hZ]; exact fun k hk => zUp_succ hw.len k hk)
  have HZL := Lib.hid (show ∀ k, 148 + k ≤ 4096 → (Z k).length = 4096 by rw [hZ]; exact fun k hk => zUp_len hw.len k hk)
  obtain ⟨LU, hLU⟩ : ∃ L, L = cUp p (headS p) := ⟨_, rfl⟩
  have HU0 := Lib.hid (show LU 0 = Z 3948 by
    rw [hLU, hZ, zUp, List.drop_of_length_le (by rw [hw.len]; omega), List.append_nil]; rfl)
  have HUS := Lib.hid (show ∀ k, LU (k + 1) = cStep p (LU k) k by rw [hLU]; exact fun k => rfl)
  have HUL := Lib.hid (show ∀ k, k ≤ 32 → (LU k).length = 4096 by rw [hLU]; exact hw.up_len hw.headS_len)
  have HR := Lib.hid (show compS p = splice (LU 32) 16 (beL 2 (cBot p 32)) by rw [hLU]; rfl)
  clear h hw hLU hZ hi hz0 hz1 hz2 i0
  go_enter Tryd.func11, Tryd.ntmps11
  go_wp2_with (first
    | (go_at_call 50; refine (HOW.out _ (Only.refl _ _)).mono ?_; rintro e w1 ⟨rfl, hE⟩; have HE1 := Lib.hid hE; clear hE)
    | (go_at_call 51; refine (HCP.out _ HE1.out).mono ?_; rintro e w2 ⟨v2, G2, rfl, hV2, hN2⟩; obtain ⟨A2, c2, rfl, q2⟩ := Rep.slice_V hV2; rw [HW.out.len]; obtain ⟨B, b0, rfl, rfl, hb2⟩ := Buf.of_new q2 hN2.unfr (by rw [HW.out.len]; omega); have HB2 := Lib.hid hb2; have HE2 := Lib.hid (HE1.out.ext hN2.ext); have HBN := Lib.hid (show w.heap.size ≤ B from Nat.le_trans HE1.out.size (hN2.new B (by simp))); clear hV2 hN2 q2 hb2))
  have hc2 := HB2.out.sl.1
  rw [HW.out.len] at hc2
  go_loopg [4] 3948 (fun m i wr => ∃ k : Nat, m + k = 3948 ∧ i = .int .i64 ((148 + k : Nat) : Int) ∧ Hid (Buf wr B b0 c2 (Z k)) ∧ Ext w wr)
  case atStart => exact ⟨0, by simp, rfl, by rw [HZ0.out]; exact HB2, HE2.out⟩
  case round =>
    obtain ⟨k, hmk, rfl, HBF, hE⟩ := hrel
    have HE := Lib.hid hE; have HMK := Lib.hid hmk
    clear hE hmk
    obtain ⟨i, hi⟩ : ∃ i, i = 148 + k := ⟨_, rfl⟩
    rw [← hi]
    by_cases hlt : i < 4096
    · have hzs := HZS.out k (by omega)
      rw [← hi] at hzs
      have t6 : (0 : Int) ≤ (i : Int) := by omega
      have t7 : (i : Int) < 4096 := by omega
      have t8 : (i : Int).toNat = i := by omega
      have hset := Buf.set HBF.out i (by rw [HZL.out k (by omega)]; exact hlt) 0 rfl
      have hc := sl_byte HBF.out.sl i (by rw [HZL.out k (by omega)]; exact hlt)
      have hf := HBF.out.un B (by simp) (b0 + i)
      have HST := Lib.hid hset; have HZ2 := Lib.hid hzs; have HI := Lib.hid hi
      clear hset hzs hi
      go_wp2
      go_roundg (3948 - (k + 1))
      case measure => have := HMK.out; have := HI.out; omega
      case rel =>
        exact ⟨k + 1, by have := HMK.out; have := HI.out; omega, by have := HI.out; congr 1; omega, Lib.hid (by rw [HZ2.out]; exact HST.out), HE.out.setCell (fun h => absurd h (by have := HBN.out; simp only; omega)) _⟩
    · have hk : k = 3948 := by have := HMK.out; omega
      subst hk
      have hi2 : i = 4096 := by omega
      subst hi2
      clear hi
      have HB3 := Lib.hid (show Buf wr B b0 c2 (LU 0) by rw [HU0.out]; exact HBF.out)
      go_wp2
      clear hlt
      go_loopg [5, 6] 32 (fun m a i wx => ∃ k : Nat, m + k = 32 ∧ a = .int .i64 (cBot p k) ∧ i = .int .i64 k ∧ Hid (Buf wx B b0 c2 (LU k)) ∧ Ext w wx)
      case atStart => exact ⟨0, by simp, rfl, rfl, HB3, HE.out⟩
      case round =>
        obtain ⟨k, hmk, rfl, rfl, HBX, hEx⟩ := hrel
        have HEX := Lib.hid hEx; have HMKX := Lib.hid hmk
        clear hEx hmk
        by_cases hlt : (k : Int) < 32
        · have hk : k < 32 := by omega
          have hst := HUS.out k
          rw [cStep] at hst
          by_cases ho : slO p k = 0
          · have HG := Lib.hid (pageGet_none _ g off c p F (Rep.sl_ext HS.out HEX.out) HW.out k hk ho)
            rw [if_pos ho] at hst
            have HST := Lib.hid hst
            have HBQ := Lib.hid (show cBot p (k + 1) = cBot p k by
              have h1 := (HW.out.slot k hk).2.2.2.2.2.1 ho
              show cBot p k - (slN p k).toNat = _
              rw [h1]; rfl)
            clear hst ho
            go_wp2_with (go_at_call 52; refine HG.out.mono ?_; rintro e w5 ⟨rfl, hE⟩; have HE6 := Lib.hid (HEX.out.ext hE); have HB6 := Lib.hid (HBX.out.ext hE); clear hE)
            go_roundg (32 - (k + 1))
            case measure => have := HMKX.out; omega
            case rel => exact ⟨k + 1, by have := HMKX.out; omega, by rw [HBQ.out], rfl, by rw [HST.out]; exact Lib.hid (HB6.out.ext (alloc_ext _ _)), HE6.out.alloc _⟩
          · rw [if_neg ho] at hst
            obtain ⟨q1, q2, q3, q4, q5, q6, q7⟩ := HW.out.slot k hk
            obtain ⟨nn, hnn⟩ := Int.eq_ofNat_of_zero_le q2
            have HG := Lib.hid (pageGet_some _ g off c p F (Rep.sl_ext HS.out HEX.out) HW.out k hk ho nn hnn)
            obtain ⟨r1, r2⟩ := HW.out.bot_succ k hk
            obtain ⟨-, r3, r4⟩ := HW.out.bot (k + 1) (by omega)
            have hdl := HW.out.dat k hk
            have r5 := (HW.out.bot k (by omega)).2.2
            rw [hnn] at q4 q5 r1 hdl hst
            generalize cBot p k = b at r1 r5 ⊢
            obtain ⟨b', hbq⟩ : ∃ b', b' = cBot p (k + 1) := ⟨_, rfl⟩
            rw [← hbq] at r1 r2 r3 r4 hst
            have HBQ := Lib.hid hbq
            simp only [Int.toNat_natCast] at hst r1 hdl
            have HST := Lib.hid hst; have HDL := Lib.hid hdl
            have e1 : IntKind.i64.wrap ((b : Int) - (nn : Int)) = (b' : Int) := by rw [IntKind.wrap_i64]; omega
            have e2 : (0 : Int) ≤ (b' : Int) := by omega
            have e7 : (b' : Int) ≤ 4096 := by omega
            have e8 : (4096 - (b' : Int)).toNat = 4096 - b' := by omega
            have e9 : (b' : Int).toNat = b' := by omega
            have HRR := Lib.hid (show b' + nn ≤ 4096 ∧ b' < 65536 ∧ nn < 65536 from by omega)
            have HC2 := Lib.hid hc2; have HK := Lib.hid hk
            clear hst hdl hnn ho q1 q2 q3 q4 q5 q6 q7 r1 r2 r3 r4 r5 hbq
            go_wp2_with (go_at_call 52; refine HG.out.mono ?_; rintro e w5 ⟨A5, c5, F5, rfl, hq5, hE⟩; have HE6 := Lib.hid (HEX.out.ext hE); have HB6 := Lib.hid (HBX.out.ext hE); have HQ5 := Lib.hid hq5; clear hE hq5)
            generalize hWA : w5.alloc (.cells #[.bool true, .slice A5 nn c5] 33) = WA
            have hEA : Ext w5 WA := hWA ▸ alloc_ext _ _
            have hbA : WA.heap[w5.heap.size]? = some (.cells #[.bool true, .slice A5 nn c5] 33 (0, 0)) := hWA ▸ heap_alloc_new _ _
            have HB7 := Lib.hid (HB6.out.ext hEA); have HE7 := Lib.hid (HE6.out.ext hEA); have HQ7 := Lib.hid (Rep.sl_ext HQ5.out hEA)
            have x1 : WA.cell? ⟨w5.heap.size, 1, none⟩ = some (.slice A5 nn c5) := cell_of_row _ _ 1 _ _ _ hbA
            have HBA := Lib.hid hbA
            have HBL := Lib.hid (show B < w5.heap.size from HB6.out.lt)
            clear hWA hEA hbA
            refine region_tail 5 (by kernel_rfl) (by kernel_rfl) ?_
            simp only [List.take_succ_cons, List.take_zero, List.drop_succ_cons, List.drop_zero]
            repeat (first
              | (refine WQ.skip (by rfl) ?_
                 try simp only [Act.put, List.setIfInBounds_toArray, List.set_cons_zero, List.set_cons_succ])
              | (refine WQ.take ?_ (by rfl) (fun w' hw => ?_) ?_
                 rotate_left
                 · have cq0 := hw.ecell x1
                   unfold Oper.quietAt
                   go_simp
                   first
                     | done
                     | exact ⟨rfl, rfl⟩
                     | exact rfl
                 try simp only [Act.put, List.setIfInBounds_toArray, List.set_cons_zero, List.set_cons_succ]))
            refine WQ.nil ?_
            intro w8 hw8
            obtain ⟨D1, hD1⟩ : ∃ D, D = (if c2 = b' then some (⟨B, b0, none⟩ : Addr) else some ⟨B, b0 + b', none⟩) := ⟨_, rfl⟩
            rw [← hD1]
            have HD1 := Lib.hid hD1
            have HE8 := Lib.hid (HE7.out.ext hw8); have HB8 := Lib.hid (HB7.out.ext hw8); have HQ8 := Lib.hid (Rep.sl_ext HQ7.out hw8); have HBA8 := Lib.hid (hw8.heap HBA.out (by simp))
            clear hw8 hD1 x1
            refine (copy_buf rfl (.tmp 38) (.tmp 40) 22 22 rfl 5 Tryd.underlying22 HSZ.out D1 A5 (4096 - b') _ nn c5 rfl rfl HB8.out b' (ys := cDat p k) (sl_wf HQ8.out) (by rw [HDL.out, HUL.out k (by have := HK.out; omega)]; have := HRR.out; omega) (by rw [HDL.out]; exact (Nat.min_eq_left (by have := HRR.out; omega)).symm) (fun hpos => ⟨by rw [HDL.out] at hpos; have := HRR.out; have := HC2.out; rw [HD1.out, if_neg (by omega)], by
              obtain ⟨ga, oa, rfl, -, hs⟩ := sl_ints HQ8.out (by intro h; rw [h] at hpos; simp at hpos)
              exact ⟨_, rfl, hs⟩⟩) ?_)
            intro w9 hb9 hO9
            have HB9 := Lib.hid hb9
            have HE9 := Lib.hid (show Ext w w9 from HE8.out.then_ hO9 (fun b hb hlt => by simp at hb; have := HBN.out; omega))
            have hbA9 := hO9.heap HBA8.out (by have := HBL.out; simp; omega)
            have m9 := fun o => cell_of_row _ _ o _ _ _ hbA9
            have HL9 := Lib.hid (show (splice (LU k) b' (cDat p k)).length = 4096 by rw [splice_len _ _ _ (by rw [HDL.out, HUL.out k (by have := HK.out; omega)]; have := HRR.out; omega), HUL.out k (by have := HK.out; omega)])
            clear hb9 hO9 hbA9
            go_wp2_with (go_at_call 53; refine (l3Set_calls _ B b0 c2 _ HB9.out HL9.out k b' nn _ _ _ rfl rfl rfl HK.out HRR.out.2.1 HRR.out.2.2).mono ?_; rintro e w10 ⟨rfl, hb10, hO10⟩)
            go_roundg (32 - (k + 1))
            case measure => have := HMKX.out; omega
            case rel =>
              refine ⟨k + 1, by have := HMKX.out; omega, by rw [← HBQ.out], rfl, Lib.hid ?_, HE9.out.then_ hO10 (fun b hb hlt => by simp at hb; have := HBN.out; omega)⟩
              rw [HST.out]
              exact hb10
        · have hk : k = 32 := by have := HMKX.out; omega
          subst hk
          obtain ⟨-, r3, r4⟩ := HW.out.bot 32 (by omega)
          obtain ⟨b, hbq⟩ : ∃ b, b = cBot p 32 := ⟨_, rfl⟩
          have HBQ := Lib.hid hbq
          try rw [← hbq]
          rw [← hbq] at r3 r4
          have HRR := Lib.hid (show b < 65536 by omega)
          have f1 : ¬ c2 = 16 := by omega
          have HC2 := Lib.hid hc2
          clear hbq r3 r4
          go_wp2_with fail
          go_region_held3 (fun w' => True)
            (first | go_keep | exact trivial)
            (first
              | (go_at_call 54; refine (putNumber_calls _ 2 b _ _ rfl rfl (by decide) (by decide) (by have := HRR.out; omega) (by have := HRR.out; omega)).mono ?_; rintro e w7 ⟨B7, rfl, hB7, hb7, hE7⟩)
              | (refine step_copy_buf rfl (.tmp 50) (.tmp 52) 22 22 rfl 5 Tryd.underlying22 HSZ.out _ _ 4080 _ 2 2 rfl rfl (HBX.out.ext ((Only.refl [] _).drew.ext hE7)) 16 (ys := beL 2 b) (byte_wf (beL_byte 2 b)) (by rw [beL_length, HUL.out 32 (by omega)]; omega) (by rw [beL_length]; rfl) (fun hpos => ⟨rfl, _, rfl, sl_all hb7.sl⟩) ?_; intro w8 hb8 hO8))
          have HB8 := Lib.hid hb8
          have HE8 := Lib.hid (show Ext w w8 from (HEX.out.ext ((Only.refl [] _).drew.ext hE7)).then_ hO8 (fun b hb hlt => by simp at hb; have := HBN.out; omega))
          clear hb8 hO8 hE7 hb7 hB7
          go_wp2
          go_ret
          exact ⟨B, b0, c2, rfl, HBN.out, by rw [HR.out, ← HBQ.out]; exact HB8.out, HE8.out⟩
end Go.Proofs.YtghgjddiheebeaaDoor
/- PageCompact: the contracts. -/
namespace Go.Proofs.YtghgjddiheebeaaDoor
open Go.RowKit
set_option linter.unusedSimpArgs false
set_option linter.unusedVariables false
theorem NewPost.weak2 {α : Type} {r : Rep α} {x : α} {w : World} {e : Ending} {w' : World} (h : NewPost r x w e w') : ∃ v F, e = .returned v ∧ r.V w' v x F ∧ Ext w w' := by
  obtain ⟨v, F, h1, h2, h3⟩ := h
  exact ⟨v, F, h1, h2, h3.ext⟩
theorem Buf.newPost {w w' : World} {g off c : Nat} {xs : List Int} (h : Buf w' g off c xs) (hg : w.heap.size ≤ g) (hE : Ext w w') : NewPost (Rep.int .u8).slice xs w (.returned (.slice (some ⟨g, off, none⟩) xs.length c)) w' :=
  ⟨_, [g], rfl, Rep.slice_mk h.sl, hE, fun b hb => by simp at hb; omega, by simp, h.un⟩
theorem Wf.compI_len {p : List Int} (h : Wf p) : (compI p).length = 4096 := by
  rw [compI, splice_len _ _ _ (by rw [beL_length, h.up_len h.headI_len 32 (Nat.le_refl _)]; omega), h.up_len h.headI_len 32 (Nat.le_refl _)]
/-- What PageCompact answers. -/
noncomputable def pageCmp (p : List Int) : List Int := if wellF p = true then (if (compI p).length = 4096 then compI p else []) else []
theorem pageCmp_ct (p : List Int) : (pageCmp p).length ≤ 1152921504606846976 := by
  unfold pageCmp
  split
  · split
    · omega
    · simp
  · simp
theorem specPageCompact_new (w : World) (A : Option Addr) (c : Nat) (p : List Int) (F : List Nat) (h : (Rep.int .u8).sl w A c p F) (hs : p.length ≤ 1048576) :
    Calls Tryd.prog 11 #[.slice A p.length c] w (NewPost (Rep.int .u8).slice (pageCmp p) w) := by
  by_cases hw : wellF p = true
  · have hW := Wf.of h hw
    obtain ⟨g, off, rfl⟩ := sl_some h (by rw [hW.len]; omega)
    rw [pageCmp, if_pos hw, if_pos hW.compI_len, hW.len]
    refine (specCompact_good w g off c p F h hW).mono ?_
    rintro e w' ⟨B, b, c', rfl, h1, h2, h3⟩
    rw [hW.comp] at h2
    have := h2.newPost h1 h3
    rwa [hW.compI_len] at this
  · rw [pageCmp, if_neg hw]
    exact specCompact_bad w A c p F h (by simpa using hw)
theorem specPageCompact_calls (w : World) (A : Option Addr) (c : Nat) (p : List Int) (F : List Nat) (h : (Rep.int .u8).sl w A c p F) (hs : p.length ≤ 1048576) :
    Calls Tryd.prog 11 #[.slice A p.length c] w fun e w' => ∃ v F, e = .returned v ∧ (Rep.int .u8).slice.V w' v (pageCmp p) F ∧ Ext w w' :=
  (specPageCompact_new w A c p F h hs).mono fun _ _ h => NewPost.weak2 h
theorem implPageCompact_new (w : World) (A : Option Addr) (c : Nat) (p : List Int) (F : List Nat) (h : (Rep.int .u8).sl w A c p F) (hs : p.length ≤ 1048576) :
    Calls Tryd.prog 13 #[.slice A p.length c] w (NewPost (Rep.int .u8).slice (pageCmp p) w) := by
  by_cases hw : wellF p = true
  · have hW := Wf.of h hw
    obtain ⟨g, off, rfl⟩ := sl_some h (by rw [hW.len]; omega)
    have HWF := Lib.hid (by
      have h := wellFormed_calls w _ c p F h
      rw [hw] at h
      exact h)
    rw [hW.len] at HWF
    rw [pageCmp, if_pos hw, if_pos hW.compI_len, hW.len]
    have HS := Lib.hid h; have HW := Lib.hid hW
    clear h hw hs hW
    go_enter Tryd.func13, Tryd.ntmps13
    go_wp2_with (first
      | (go_at_call 55; refine HWF.out.mono ?_; rintro e w1 ⟨rfl, hE⟩; have HE1 := Lib.hid hE; clear hE)
      | (go_at_call 56; refine (compacted_calls _ g off c p F (Rep.sl_ext HS.out HE1.out) HW.out).mono ?_; rintro e w2 ⟨B, rfl, h1, h2, h3⟩))
    go_ret
    have := h2.newPost (Nat.le_trans HE1.out.size h1) (HE1.out.ext h3)
    rwa [HW.out.compI_len] at this
  · have HWF := Lib.hid (by
      have h := wellFormed_calls w _ c p F h
      rw [show wellF p = false by simpa using hw] at h
      exact h)
    rw [pageCmp, if_neg hw]
    clear h hw hs
    go_enter Tryd.func13, Tryd.ntmps13
    go_wp2_with (go_at_call 55; refine HWF.out.mono ?_; rintro e w1 ⟨rfl, hE⟩; have HE1 := Lib.hid hE; clear hE)
    go_ret
    exact NewPost.nil HE1.out
end Go.Proofs.YtghgjddiheebeaaDoor
