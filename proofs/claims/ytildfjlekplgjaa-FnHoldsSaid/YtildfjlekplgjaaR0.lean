/- The ledger: lengths, room; plain. -/
import Derived.Test.YtildfjlekplgjaaK8
namespace Go.Proofs.Ytildfjlekplgjaa
open Go.RowKit
set_option linter.unusedSimpArgs false
set_option linter.unusedVariables false
def okLen (x : Int) : Bool := inR x (-1) 1000
def lenOK (L : List Int) : Bool := decide (L.length % 32 = 0) && decide (32 ≤ L.length) && decide (L.length ≤ 512) && L.all okLen
/-- What a place of the ledger takes. -/
def need (L : List Int) (H : List DHold) (id : Nat) : Int := max 0 (max (L[id]?.getD 0) (mostL H id 0))
def roomUp (L : List Int) (H : List DHold) (base : Nat) : Nat → Int
  | 0 => 3948
  | k + 1 => roomUp L H base k - need L H (base + k)
def roomL (L : List Int) (H : List DHold) (page : Nat) : Int := roomUp L H (page * 32) 32
theorem lenOK_parts {L : List Int} (h : lenOK L = true) : L.length % 32 = 0 ∧ 32 ≤ L.length ∧ L.length ≤ 512 ∧ ∀ i (hi : i < L.length), -1 ≤ L[i] ∧ L[i] ≤ 1000 := by
  simp only [lenOK, Bool.and_eq_true, decide_eq_true_eq, List.all_eq_true] at h
  exact ⟨h.1.1.1, h.1.1.2, h.1.2, fun i hi => inR_iff.1 (h.2 _ (List.getElem_mem hi))⟩
theorem most_range {H : List DHold} {id : Int} (h : H.all holdOK = true) : 0 ≤ mostL H id 0 ∧ mostL H id 0 ≤ 1000 := by
  have h1 := mostL_in (id := id) h
  have h2 := mostL_max (id := id) h
  omega
theorem need_range {L : List Int} {H : List DHold} (hL : lenOK L = true) (hH : holdsFault H = 0) (i : Nat) (hi : i < L.length) : 0 ≤ need L H i ∧ need L H i ≤ 1000 := by
  have h1 := (lenOK_parts hL).2.2.2 i hi
  have h2 := most_range (id := (i : Int)) (holdsFault_ord hH).2.1
  unfold need
  rw [List.getElem?_eq_getElem hi]
  simp only [Option.getD_some]
  omega
theorem need_at {L : List Int} {H : List DHold} (i : Nat) (hi : i < L.length) : need L H i = max 0 (max L[i] (mostL H i 0)) := by
  unfold need
  rw [List.getElem?_eq_getElem hi]; rfl
theorem roomUp_range {L : List Int} {H : List DHold} (hL : lenOK L = true) (hH : holdsFault H = 0) (b : Nat) : ∀ k, b + k ≤ L.length → 3948 - 1000 * k ≤ roomUp L H b k ∧ roomUp L H b k ≤ 3948
  | 0, _ => by simp [roomUp]
  | k + 1, hk => by
    have h1 := roomUp_range hL hH b k (by omega)
    have h2 := need_range hL hH (b + k) (by omega)
    simp only [roomUp]
    omega
theorem roomL_range {L : List Int} {H : List DHold} (hL : lenOK L = true) (hH : holdsFault H = 0) (p : Nat) (hp : p * 32 + 32 ≤ L.length) : -40000 ≤ roomL L H p ∧ roomL L H p ≤ 3948 := by
  unfold roomL
  have := roomUp_range hL hH (p * 32) 32 hp
  omega
/-- Is there room for a record of this length at this place? -/
def roomForB (L : List Int) (H : List DHold) (id : Nat) (len : Int) : Bool := decide (max 0 (len - need L H id) ≤ roomL L H (id / 32))
end Go.Proofs.Ytildfjlekplgjaa
