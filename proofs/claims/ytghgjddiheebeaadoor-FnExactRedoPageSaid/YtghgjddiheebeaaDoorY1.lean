/- Bytes laid over bytes: the plain laws; the library's writers. -/
import Derived.Test.YtghgjddiheebeaaDoorX12
import Derived.Test.YtghgjddiheebeaaDoorD0
import Derived.Shelf.Bin.BEPutUint16
import Derived.Shelf.Bin.BEPutUint32
import Derived.Shelf.Bin.BEPutUint64
namespace Go.Proofs.YtghgjddiheebeaaDoor
open Go.RowKit Go.Shelf
set_option linter.unusedSimpArgs false
set_option linter.unusedVariables false
shelf_lay LaysBin.n37 Mn 37 at Tryd as laysP16
shelf_lay LaysBin.n40 Mn 40 at Tryd as laysP32
shelf_lay LaysBin.n43 Mn 43 at Tryd as laysP64
/-- The k least bytes of v, the greatest first. -/
def beL : Nat → Nat → List Int
  | 0, _ => []
  | k + 1, v => beL k (v / 256) ++ [((v % 256 : Nat) : Int)]
theorem beL_length : ∀ (k v : Nat), (beL k v).length = k
  | 0, _ => rfl
  | k + 1, v => by simp [beL, beL_length k]
theorem beL_byte : ∀ (k v : Nat), ∀ z ∈ beL k v, 0 ≤ z ∧ z ≤ 255
  | 0, _, z, h => by cases h
  | k + 1, v, z, h => by
    rw [beL, List.mem_append] at h
    rcases h with h | h
    · exact beL_byte k _ z h
    · obtain rfl : z = ((v % 256 : Nat) : Int) := by simpa using h
      omega
theorem beL_cells : ∀ (k v : Nat), Lib.byteCells (Lib.beBytes k v) = (beL k v).map (.int .u8)
  | 0, v => rfl
  | k + 1, v => by
    have ih := beL_cells k (v / 256)
    simp only [Lib.byteCells, Lib.beBytes, Lib.leBytes, List.reverse_cons, List.map_append, beL, List.map_cons, List.map_nil, Lib.toUInt8_mod] at ih ⊢
    rw [ih]
theorem beFromZ_app : ∀ (l m : List Int) (a : Int), Lib.beFromZ a (l ++ m) = Lib.beFromZ (Lib.beFromZ a l) m
  | [], m, a => rfl
  | z :: l, m, a => by simp only [List.cons_append, Lib.beFromZ]; exact beFromZ_app l m _
theorem beZ_beL : ∀ (k v : Nat), v < 256 ^ k → Lib.beZ (beL k v) = v
  | 0, v, h => by simp at h; subst h; rfl
  | k + 1, v, h => by
    have h2 : v / 256 < 256 ^ k := by
      rw [Nat.pow_succ] at h
      exact Nat.div_lt_of_lt_mul (by rw [Nat.mul_comm]; exact h)
    have ih := beZ_beL k _ h2
    show Lib.beFromZ 0 (beL k (v / 256) ++ [_]) = _
    rw [beFromZ_app]
    change Lib.beFromZ 0 (beL k (v / 256)) = _ at ih
    rw [ih]
    simp only [Lib.beFromZ]
    omega
theorem splice_len {α : Type} (L : List α) (o : Nat) (cs : List α) (h : o + cs.length ≤ L.length) : (splice L o cs).length = L.length := by
  simp only [splice, List.length_append, List.length_take, List.length_drop]; omega
theorem splice_get {α : Type} (L : List α) (off : Nat) (cs : List α) (h : off + cs.length ≤ L.length) (j : Nat) : (splice L off cs)[j]? = if off ≤ j ∧ j < off + cs.length then cs[j - off]? else L[j]? := by
  unfold splice
  split
  · rename_i hj
    rw [List.getElem?_append_right (by simp; omega), List.getElem?_append_left (by simp; omega)]
    simp [Nat.min_eq_left (show off ≤ L.length by omega)]
  · rename_i hj
    by_cases h1 : j < off
    · rw [List.getElem?_append_left (by simp; omega)]
      simp [h1]
    · rw [List.getElem?_append_right (by simp; omega), List.getElem?_append_right (by simp; omega)]
      simp only [List.length_take, List.getElem?_drop, Nat.min_eq_left (show off ≤ L.length by omega)]
      congr 1
      omega
/-- What is read beside what is written. -/
theorem splice_off {α : Type} (L : List α) (o : Nat) (cs : List α) (h : o + cs.length ≤ L.length) (i n : Nat) (hd : i + n ≤ o ∨ o + cs.length ≤ i) : ((splice L o cs).drop i).take n = (L.drop i).take n := by
  refine List.ext_getElem? fun j => ?_
  rw [List.getElem?_take, List.getElem?_take]
  split
  · rw [List.getElem?_drop, List.getElem?_drop, splice_get _ _ _ h, if_neg (by omega)]
  · rfl
theorem splice_on {α : Type} (L : List α) (o : Nat) (cs : List α) (h : o + cs.length ≤ L.length) : ((splice L o cs).drop o).take cs.length = cs := by
  refine List.ext_getElem? fun j => ?_
  rw [List.getElem?_take]
  split
  · rw [List.getElem?_drop, splice_get _ _ _ h, if_pos (by omega)]
    congr 1; omega
  · rw [List.getElem?_eq_none (by omega)]
theorem putU16_calls (w : World) (g off c n c' : Nat) (xs : List Int) (F : List Nat) (h : (Rep.int .u8).sl w (some ⟨g, off, none⟩) c xs F) (hu : Unfr w F) (a : Nat) (ha : a + 2 ≤ xs.length) (hn : 2 ≤ n) (v : Nat) (hv : v < 65536) :
    Calls Tryd.prog 66 #[.agg #[], .slice (some ⟨g, off + a, none⟩) n c', .int .u16 v] w fun e w' => e = .returned (.tuple #[]) ∧ (Rep.int .u8).sl w' (some ⟨g, off, none⟩) c (splice xs a (beL 2 v)) F ∧ Unfr w' F ∧ Only F w w' := by
  have hl := beL_length 2 v
  have hE := alloc_ext w (.cells #[] (laysP16_ren.t 37))
  obtain ⟨g', off', e, hF, hg, hcell, hfr, hsl, hun⟩ := sl_splice (ys := beL 2 v) (Rep.sl_ext h hE) (hu.ext hE (fun b hb => Rep.sl_lt h b hb)) a (by omega) (by omega) (fun y hy => by have := beL_byte 2 v y hy; simp only [Lit.wf, IntKind.min, IntKind.max, IntKind.signed, IntKind.bits]; simp; omega)
  injection e with e
  injection e with e1 e2
  subst e1; subst e2
  have hgw : g ∈ F := by rw [hF]; simp
  have hc : ∀ i, i < 2 → w.cell? ⟨g, off + a + i, none⟩ = some (.int .u8 (xs.getD (a + i) 0)) := fun i hi => by
    have := sl_byte h (a + i) (by omega)
    rwa [Nat.add_assoc]
  have hf : ∀ i, w.frozen? ⟨g, i, none⟩ = false := fun i => hu g hgw i
  have h0 := Any.binary_BE_PutUint16 laysP16 g (off + a) n c' v hv _ _ w hn (hc 0 (by decide)) (hc 1 (by decide)) (hf _) (hf _)
  refine h0.mono (fun e w' hw => ?_)
  obtain ⟨h1, rfl⟩ := hw
  rw [beL_cells]
  exact ⟨h1, hsl, hun, (hE.more (by simp)).cells (fun _ => hgw) _ _⟩
theorem putU32_calls (w : World) (g off c n c' : Nat) (xs : List Int) (F : List Nat) (h : (Rep.int .u8).sl w (some ⟨g, off, none⟩) c xs F) (hu : Unfr w F) (a : Nat) (ha : a + 4 ≤ xs.length) (hn : 4 ≤ n) (v : Nat) (hv : v < 4294967296) :
    Calls Tryd.prog 64 #[.agg #[], .slice (some ⟨g, off + a, none⟩) n c', .int .u32 v] w fun e w' => e = .returned (.tuple #[]) ∧ (Rep.int .u8).sl w' (some ⟨g, off, none⟩) c (splice xs a (beL 4 v)) F ∧ Unfr w' F ∧ Only F w w' := by
  have hl := beL_length 4 v
  have hE := alloc_ext w (.cells #[] (laysP32_ren.t 37))
  obtain ⟨g', off', e, hF, hg, hcell, hfr, hsl, hun⟩ := sl_splice (ys := beL 4 v) (Rep.sl_ext h hE) (hu.ext hE (fun b hb => Rep.sl_lt h b hb)) a (by omega) (by omega) (fun y hy => by have := beL_byte 4 v y hy; simp only [Lit.wf, IntKind.min, IntKind.max, IntKind.signed, IntKind.bits]; simp; omega)
  injection e with e
  injection e with e1 e2
  subst e1; subst e2
  have hgw : g ∈ F := by rw [hF]; simp
  have hc : ∀ i, i < 4 → w.cell? ⟨g, off + a + i, none⟩ = some (.int .u8 (xs.getD (a + i) 0)) := fun i hi => by
    have := sl_byte h (a + i) (by omega)
    rwa [Nat.add_assoc]
  have hf : ∀ i, w.frozen? ⟨g, i, none⟩ = false := fun i => hu g hgw i
  have h0 := Any.binary_BE_PutUint32 laysP32 g (off + a) n c' v hv _ _ _ _ w hn (hc 0 (by decide)) (hc 1 (by decide)) (hc 2 (by decide)) (hc 3 (by decide)) (hf _) (hf _) (hf _) (hf _)
  refine h0.mono (fun e w' hw => ?_)
  obtain ⟨h1, rfl⟩ := hw
  rw [beL_cells]
  exact ⟨h1, hsl, hun, (hE.more (by simp)).cells (fun _ => hgw) _ _⟩
theorem putU64_calls (w : World) (g off c n c' : Nat) (xs : List Int) (F : List Nat) (h : (Rep.int .u8).sl w (some ⟨g, off, none⟩) c xs F) (hu : Unfr w F) (a : Nat) (ha : a + 8 ≤ xs.length) (hn : 8 ≤ n) (v : Nat) (hv : v < 18446744073709551616) :
    Calls Tryd.prog 67 #[.agg #[], .slice (some ⟨g, off + a, none⟩) n c', .int .u64 v] w fun e w' => e = .returned (.tuple #[]) ∧ (Rep.int .u8).sl w' (some ⟨g, off, none⟩) c (splice xs a (beL 8 v)) F ∧ Unfr w' F ∧ Only F w w' := by
  have hl := beL_length 8 v
  have hE := alloc_ext w (.cells #[] (laysP64_ren.t 37))
  obtain ⟨g', off', e, hF, hg, hcell, hfr, hsl, hun⟩ := sl_splice (ys := beL 8 v) (Rep.sl_ext h hE) (hu.ext hE (fun b hb => Rep.sl_lt h b hb)) a (by omega) (by omega) (fun y hy => by have := beL_byte 8 v y hy; simp only [Lit.wf, IntKind.min, IntKind.max, IntKind.signed, IntKind.bits]; simp; omega)
  injection e with e
  injection e with e1 e2
  subst e1; subst e2
  have hgw : g ∈ F := by rw [hF]; simp
  have hc : ∀ i, i < 8 → w.cell? ⟨g, off + a + i, none⟩ = some (.int .u8 (xs.getD (a + i) 0)) := fun i hi => by
    have := sl_byte h (a + i) (by omega)
    rwa [Nat.add_assoc]
  have hf : ∀ i, w.frozen? ⟨g, i, none⟩ = false := fun i => hu g hgw i
  have h0 := Any.binary_BE_PutUint64 laysP64 g (off + a) n c' v hv _ _ _ _ _ _ _ _ w hn (hc 0 (by decide)) (hc 1 (by decide)) (hc 2 (by decide)) (hc 3 (by decide)) (hc 4 (by decide)) (hc 5 (by decide)) (hc 6 (by decide)) (hc 7 (by decide)) (hf _) (hf _) (hf _) (hf _) (hf _) (hf _) (hf _) (hf _)
  refine h0.mono (fun e w' hw => ?_)
  obtain ⟨h1, rfl⟩ := hw
  rw [beL_cells]
  exact ⟨h1, hsl, hun, (hE.more (by simp)).cells (fun _ => hgw) _ _⟩
end Go.Proofs.YtghgjddiheebeaaDoor
