/- Numbers in pages: the library's readers. -/
import Derived.Test.YtghgjddiheebeaaDoorF0
import Derived.Test.YtghgjddiheebeaaDoorB
import Derived.Shelf.Bin.ReadersZ
import Derived.Shelf.Lay
import Derived.Ground.MnProg
namespace Go.Proofs.YtghgjddiheebeaaDoor
open Go.RowKit Go.Shelf
set_option linter.unusedSimpArgs false
set_option linter.unusedVariables false
shelf_lay LaysBin.n36 Mn 36 at Tryd as laysU16
shelf_lay LaysBin.n39 Mn 39 at Tryd as laysU32
shelf_lay LaysBin.n42 Mn 42 at Tryd as laysU64
/-- The number that n bytes from place i on spell. -/
def beAt (xs : List Int) (i n : Nat) : Int := Lib.beZ ((xs.drop i).take n)
theorem addp (b off i : Nat) : (⟨b, off, none⟩ : Addr).add i = ⟨b, off + i, none⟩ := by
  unfold Addr.add
  split <;> simp_all
theorem sl_byte {w : World} {g off c : Nat} {xs : List Int} {F : List Nat} (h : (Rep.int .u8).sl w (some ⟨g, off, none⟩) c xs F) (i : Nat) (hi : i < xs.length) :
    w.cell? ⟨g, off + i, none⟩ = some (.int .u8 (xs.getD i 0)) := by
  obtain ⟨g', off', e, hg, hc⟩ := sl_ints h (by rintro rfl; simp at hi)
  injection e with e
  injection e with e1 e2
  subst e1; subst e2
  have := hc i (.int .u8 (xs.getD i 0)) (by simp [List.getElem?_map, List.getD, List.getElem?_eq_getElem hi])
  simpa [addp] using this
theorem sl_bytes {w : World} {g off c : Nat} {xs : List Int} {F : List Nat} (h : (Rep.int .u8).sl w (some ⟨g, off, none⟩) c xs F) (a : Nat) :
    ∀ i, i < (xs.drop a).length → w.cell? ((⟨g, off + a, none⟩ : Addr).add i) = some (.int .u8 ((xs.drop a).getD i 0)) := by
  intro i hi
  rw [List.length_drop] at hi
  have := sl_byte h (a + i) (by omega)
  rw [addp]
  simpa [List.getD, List.getElem?_drop, Nat.add_assoc] using this
theorem sl_sub {k : IntKind} {w : World} {g off c : Nat} {xs : List Int} {F : List Nat} (h : (Rep.int k).sl w (some ⟨g, off, none⟩) c xs F) (hx : xs ≠ []) (a n : Nat) (ha : a + n ≤ xs.length) :
    (Rep.int k).sl w (some ⟨g, off + a, none⟩) (c - a) ((xs.drop a).take n) F := by
  obtain ⟨h1, h2, ⟨rfl, _⟩ | ⟨g', off', G, cs, e, rfl, hg, hr, hc⟩⟩ := h
  · exact absurd rfl hx
  obtain ⟨rfl, rfl, hwf⟩ := cells_ints_inv hr
  injection e with e
  injection e with e1 e2
  subst e1; subst e2
  refine ⟨by simp; omega, by omega, .inr ⟨g, off + a, [], _, rfl, rfl, hg, cells_ints _ (fun x hx => hwf x (List.mem_of_mem_drop (List.mem_of_mem_take hx))), fun j u hu => ?_⟩⟩
  have hj := (List.getElem?_eq_some_iff.1 hu).1
  simp at hj
  have := hc (a + j) u (by
    rw [List.getElem?_map] at hu ⊢
    rw [List.getElem?_take, if_pos (by omega), List.getElem?_drop] at hu
    exact hu)
  rw [show off + a + j = off + (a + j) by omega]
  exact this
theorem beU16_calls (w : World) (g off c n c' : Nat) (xs : List Int) (F : List Nat) (h : (Rep.int .u8).sl w (some ⟨g, off, none⟩) c xs F) (a : Nat) (ha : a + 2 ≤ xs.length) (hn : 2 ≤ n) :
    Calls Tryd.prog 65 #[.agg #[], .slice (some ⟨g, off + a, none⟩) n c'] w fun e w' => e = .returned (.int .u16 (beAt xs a 2)) ∧ Ext w w' := by
  have h0 := Any.binary_BE_Uint16_z laysU16 ⟨g, off + a, none⟩ n c' (xs.drop a) w hn (by simp; omega) (sl_bytes h a) (fun z hz => sl_wf h z (List.mem_of_mem_drop hz))
  exact h0.mono (fun e w' hw => ⟨hw.1, Only.of_below hw.2⟩)
theorem beU32_calls (w : World) (g off c n c' : Nat) (xs : List Int) (F : List Nat) (h : (Rep.int .u8).sl w (some ⟨g, off, none⟩) c xs F) (a : Nat) (ha : a + 4 ≤ xs.length) (hn : 4 ≤ n) :
    Calls Tryd.prog 109 #[.agg #[], .slice (some ⟨g, off + a, none⟩) n c'] w fun e w' => e = .returned (.int .u32 (beAt xs a 4)) ∧ Ext w w' := by
  have h0 := Any.binary_BE_Uint32_z laysU32 ⟨g, off + a, none⟩ n c' (xs.drop a) w hn (by simp; omega) (sl_bytes h a) (fun z hz => sl_wf h z (List.mem_of_mem_drop hz))
  exact h0.mono (fun e w' hw => ⟨hw.1, Only.of_below hw.2⟩)
theorem beU64_calls (w : World) (g off c n c' : Nat) (xs : List Int) (F : List Nat) (h : (Rep.int .u8).sl w (some ⟨g, off, none⟩) c xs F) (a : Nat) (ha : a + 8 ≤ xs.length) (hn : 8 ≤ n) :
    Calls Tryd.prog 113 #[.agg #[], .slice (some ⟨g, off + a, none⟩) n c'] w fun e w' => e = .returned (.int .u64 (beAt xs a 8)) ∧ Ext w w' := by
  have h0 := Any.binary_BE_Uint64_z laysU64 ⟨g, off + a, none⟩ n c' (xs.drop a) w hn (by simp; omega) (sl_bytes h a) (fun z hz => sl_wf h z (List.mem_of_mem_drop hz))
  exact h0.mono (fun e w' hw => ⟨hw.1, Only.of_below hw.2⟩)
theorem beAt_wf {k : IntKind} {xs : List Int} (hw : ∀ z ∈ xs, (Lit.int .u8 z).wf = true) : True := trivial
end Go.Proofs.YtghgjddiheebeaaDoor
