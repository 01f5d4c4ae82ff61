/- From the form's reading of an argument to the words of the walks: an argument that can be read as data reads as a list, a struct. -/
import Derived.Test.YtdjcfcgkldokgaaA
import Derived.Deep.Slices
import Derived.ChangeArms
namespace Go.Proofs.Ytdjcfcgkldokgaa
open Go.RowKit Go.Deep

/-- Whatever reads as data of type t reads as data of this kind. -/
def Opens {α : Type} (r : Rep α) (P : Program) (t : TypeId) : Prop :=
  ∀ {H : Type} {enc : TypeId × Value → H} {w : World} {base : Nat} {spare : Nat → Bool} {held : Bool} {fuel : Nat} {cs : List Value} {y : DataW H × List MemPlace},
    DataW.trod enc P w base spare held fuel t cs = some y → ∃ x F, r.R w x cs F

theorem Opens.int {P : Program} {t : TypeId} {k : IntKind} (ht : P.underlying t = some (.int k)) : Opens (Rep.int k) P t := by
  intro H enc w base spare held fuel cs y h
  obtain ⟨n, rfl, _, hw⟩ := DataW.trod_int ht h
  exact ⟨n, [], rfl, rfl, hw⟩
theorem Opens.bool {P : Program} {t : TypeId} (ht : P.underlying t = some .bool) : Opens Rep.bool P t := by
  intro H enc w base spare held fuel cs y h
  obtain ⟨n, rfl, _⟩ := DataW.trod_bool ht h
  exact ⟨n, [], rfl, rfl⟩

theorem addr_of_cell {w : World} {a : Addr} {v : Value} (h : w.cell? a = some v) : a = ⟨a.block, a.off, none⟩ := by
  obtain ⟨b, o, s⟩ := a
  cases s with
  | none => rfl
  | some s =>
    unfold World.cell? at h
    dsimp only at h
    split at h <;> simp at h
theorem gather {α : Type} {r : Rep α} {w : World} {g off : Nat} : ∀ n, (∀ i, i < n → ∃ cs x F, r.R w x cs F ∧ ∀ j u, cs[j]? = some u → w.cell? ⟨g, off + (i * r.sz + j), none⟩ = some u) →
    ∃ xs cs F, xs.length = n ∧ r.cells w xs cs F ∧ ∀ (j : Nat) (u : Value), cs[j]? = some u → w.cell? ⟨g, off + j, none⟩ = some u
  | 0, _ => ⟨[], [], [], rfl, ⟨rfl, rfl⟩, by simp⟩
  | n + 1, h => by
    obtain ⟨xs, cs, F, hl, hc, hr⟩ := gather n (fun i hi => h i (by omega))
    obtain ⟨c, x, G, hx, hcx⟩ := h n (by omega)
    refine ⟨xs ++ [x], cs ++ c, F ++ G, by simp [hl], Rep.cells_snoc hc hx, fun j u hu => ?_⟩
    have hlen := Rep.cells_len hc
    rw [hl] at hlen
    by_cases hj : j < cs.length
    · rw [List.getElem?_append_left hj] at hu
      exact hr j u hu
    · rw [List.getElem?_append_right (by omega)] at hu
      have := hcx _ _ hu
      rwa [show n * r.sz + (j - cs.length) = j by omega] at this
theorem Opens.slice {α : Type} {r : Rep α} {P : Program} {t e : TypeId} (ht : P.underlying t = some (.slice e)) (hc : P.cellsOf e = r.sz) (hpos : 0 < r.sz) (he : Opens r P e) : Opens r.slice P t := by
  intro H enc w base spare held fuel cs y h
  rcases open_slice ht h with ⟨rfl, _⟩ | ⟨a, len, cap, m, n, D, Pl, rfl, hb, hl, hm, hmm, _, hi⟩
  · exact ⟨[], [], none, 0, rfl, Rep.sl_nil (Nat.zero_le _)⟩
  · rw [hc] at hi
    by_cases h0 : len = 0
    · subst h0
      exact ⟨[], [], some a, cap, rfl, Rep.sl_nil hm⟩
    · have hlm : len ≤ m := by rw [hmm]; split <;> omega
      obtain ⟨cs0, hc0, _⟩ := hi 0 (by omega)
      obtain ⟨_, hl0, hat0⟩ := World.cells?_some hc0
      have h00 := hat0 0 hpos
      have : ∃ u, cs0[0]? = some u := ⟨_, List.getElem?_eq_getElem (by omega)⟩
      obtain ⟨u0, hu0⟩ := this
      rw [hu0] at h00
      have ea : a = ⟨a.block, a.off, none⟩ := by
        have := addr_of_cell h00
        simpa [Addr.add] using this
      rw [ea] at hi
      have key := gather (r := r) (w := w) (g := a.block) (off := a.off) len (fun i hil => by
        obtain ⟨cs', hcs', hd⟩ := hi i (by omega)
        obtain ⟨x, F, hR⟩ := he hd
        obtain ⟨_, hl', hat⟩ := World.cells?_some hcs'
        refine ⟨cs', x, F, hR, fun j u hu => ?_⟩
        have hj : j < r.sz := by rw [← hl']; exact (List.getElem?_eq_some_iff.1 hu).1
        have := hat j hj
        rw [hu, Addr.add_lit, Addr.add_lit, Nat.add_assoc] at this
        exact this)
      obtain ⟨xs, cs, F, hlen, hcells, hat⟩ := key
      have hblt : a.block < w.heap.size := by
        rw [ea, Addr.add_lit, Addr.add_lit] at h00
        have hb := block_lt_of_cell h00
        exact hb
      subst hlen
      exact ⟨xs, a.block :: F, some a, cap, rfl, hl, hm, .inr ⟨a.block, a.off, F, cs, congrArg some ea, rfl, hblt, hcells, hat⟩⟩
theorem some_at {β : Type} {xs : List β} {i n : Nat} (h : xs.length = n) (hi : i < n) : ∃ y, xs[i]? = some y := ⟨_, List.getElem?_eq_getElem (by omega)⟩
end Go.Proofs.Ytdjcfcgkldokgaa
