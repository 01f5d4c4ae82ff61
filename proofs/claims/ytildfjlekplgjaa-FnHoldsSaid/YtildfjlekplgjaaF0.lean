/- Words for the laws' own small functions over lists. -/
import Derived.Test.YtildfjlekplgjaaA
import Derived.Test.YtildfjlekplgjaaProg
import Derived.Deep.QuietTactic
import Derived.BigQuiet
namespace Go.Proofs.Ytildfjlekplgjaa
open Go.RowKit

def SzPost (left : Int) (n : Nat) (w : World) (e : Ending) (w' : World) : Prop :=
  (∃ r : Int, e = .returned (.int .i64 r) ∧ (r = -1 ∨ 0 ≤ r ∧ r + n = left)) ∧ Ext w w'
def NewPost {α : Type} (r : Rep α) (x : α) (w : World) (e : Ending) (w' : World) : Prop :=
  ∃ v F, e = .returned v ∧ r.V w' v x F ∧ New w w' F
def MarkPost {α : Type} (r : Rep α) (A : Option Addr) (c : Nat) (x : List α) (F : List Nat) (k : Int) (w : World) (e : Ending) (w' : World) : Prop :=
  e = .returned (.int .i64 k) ∧ r.sl w' A c x F ∧ Only F w w' ∧ Unfr w' F

theorem ret_int {k : IntKind} {a b : Int} (h : a = b) : Ending.returned (.int k a) = .returned (.int k b) := by rw [h]
theorem ret_bool {a b : Bool} (h : a = b) : Ending.returned (.bool a) = .returned (.bool b) := by rw [h]

/-- The block of cells of one kind that a list of numbers fills. -/
theorem cells_ints {k : IntKind} {w : World} : ∀ (xs : List Int), (∀ x ∈ xs, (Lit.int k x).wf = true) → (Rep.int k).cells w xs (xs.map (.int k)) []
  | [], _ => ⟨rfl, rfl⟩
  | x :: xs, h => ⟨[.int k x], xs.map (.int k), [], [], rfl, rfl, ⟨rfl, rfl, h x (by simp)⟩, cells_ints xs fun y hy => h y (by simp [hy])⟩
theorem cells_ints_inv {k : IntKind} {w : World} : ∀ {xs : List Int} {cs F}, (Rep.int k).cells w xs cs F → cs = xs.map (.int k) ∧ F = [] ∧ ∀ x ∈ xs, (Lit.int k x).wf = true
  | [], _, _, ⟨h1, h2⟩ => ⟨h1, h2, by simp⟩
  | x :: xs, _, _, ⟨c1, c2, F1, F2, e1, e2, ⟨h1, h2, hw⟩, h⟩ => by
    obtain ⟨h3, h4, hh⟩ := cells_ints_inv h
    exact ⟨by rw [e1, h1, h3]; rfl, by rw [e2, h2, h4]; rfl, by simpa [hw] using hh⟩
theorem sl_wf {k : IntKind} {w : World} {A : Option Addr} {c : Nat} {xs : List Int} {F : List Nat} (h : (Rep.int k).sl w A c xs F) : ∀ x ∈ xs, (Lit.int k x).wf = true := by
  rcases h.2.2 with ⟨rfl, _⟩ | ⟨g, off, G, cs, rfl, rfl, hg, hr, hc⟩
  · simp
  · exact (cells_ints_inv hr).2.2

theorem wf_wrapped (k : IntKind) (e : Int) : (Lit.int k (k.wrap e)).wf = true := by
  cases k <;> simp [Lit.wf, IntKind.wrap, IntKind.min, IntKind.max, IntKind.signed, IntKind.bits] <;> (try split) <;> omega
/-- A number in the place of another. -/
theorem sl_int_set {k : IntKind} {w : World} {A : Option Addr} {c : Nat} {xs : List Int} {F : List Nat} (h : (Rep.int k).sl w A c xs F) (hn : F.Nodup) (hu : Unfr w F) (i : Nat) (hi : i < xs.length) :
    ∃ g off u, A = some ⟨g, off, none⟩ ∧ g ∈ F ∧ g < w.heap.size ∧ w.cell? ⟨g, off + i, none⟩ = some u ∧ w.frozen? ⟨g, off + i, none⟩ = false ∧
      ∀ y, (Lit.int k y).wf = true → (Rep.int k).sl (w.setCell ⟨g, off + i, none⟩ (.int k y)) A c (xs.set i y) F ∧ Unfr (w.setCell ⟨g, off + i, none⟩ (.int k y)) F := by
  obtain ⟨g, off, d, G, rfl, hg, hF, _, ⟨rfl, rfl, hwf⟩, _, _, hc, hupd⟩ := Rep.sl_upd h hn i hi
  have hc0 := hc 0 _ rfl
  simp only [Rep.int, Nat.mul_one, Nat.add_zero] at hc0
  refine ⟨g, off, _, rfl, hF, hg, hc0, hu g hF _, fun y hy => ⟨hupd _ y [.int k y] ⟨rfl, rfl, hy⟩ (by simpa [World.setCell] using hg) ?_ ?_ ?_, ?_⟩⟩
  · intro j u hj
    match j, hj with
    | 0, hj =>
      simp only [List.getElem?_cons_zero, Option.some.injEq] at hj
      subst hj
      simp only [Rep.int, Nat.mul_one, Nat.add_zero]
      exact World.cell?_setCell_same _ _ _ hc0
  · intro j hj
    refine World.cell?_setCell_other _ _ _ _ ?_
    simp only [Rep.int] at hj
    intro e
    injection e
    omega
  · intro b hb hne _
    exact Below.heap_setCell _ _ _ _ hne
  · intro b hb j
    rw [World.frozen?_setCell]
    exact hu b hb j

end Go.Proofs.Ytildfjlekplgjaa
