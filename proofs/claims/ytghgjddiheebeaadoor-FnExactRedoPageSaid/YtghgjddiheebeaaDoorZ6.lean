/- The law's own variable of a PageResult, laid at whatever time. -/
import Derived.Test.YtghgjddiheebeaaDoorZ5
import Derived.Deep.DeepCutAuto
import Derived.Deep.CutBlock
import Derived.Deep.RegionHeld3
namespace Go.Proofs.YtghgjddiheebeaaDoor
open Go.RowKit
set_option linter.unusedSimpArgs false
set_option linter.unusedVariables false
structure Rl (w0 w : World) (b : Nat) (x : DPageResult) (A : Option Addr) (c : Nat) (F : List Nat) : Prop where
  ext : Ext w0 w
  ge : w0.heap.size ≤ b
  lt : b < w.heap.size
  row : w.heap[b]? = some (.cells #[.int .i64 x.Code, .slice A x.Page.length c] 31 (0, 0))
  wf : wfPageResult x
  sl : (Rep.int .u8).sl w A c x.Page F
theorem notin_old {w w' : World} {F : List Nat} {b : Nat} {o : Obj} (hN : New w w' F) (h : w.heap[b]? = some o) : b ∉ F := fun hm => by
  have h1 := (Array.getElem?_eq_some_iff.1 h).1
  have h2 := hN.new b hm
  omega
theorem Rl.alloc {w0 w : World} {x : DPageResult} {A : Option Addr} {c : Nat} {F : List Nat} (hE : Ext w0 w) (hw : wfPageResult x) (hs : (Rep.int .u8).sl w A c x.Page F) :
    Rl w0 (w.alloc (.cells #[.int .i64 x.Code, .slice A x.Page.length c] 31)) w.heap.size x A c F :=
  ⟨hE.alloc _, hE.size, by simp, heap_alloc_new _ _, hw, Rep.sl_ext hs (alloc_ext _ _)⟩
theorem Rl.set {w0 w : World} {b : Nat} {x : DPageResult} {A : Option Addr} {c : Nat} {F : List Nat} {arr : Array Value} (hE : Ext w0 w) (hw : wfPageResult x) (hs : (Rep.int .u8).sl w A c x.Page F)
    (hg : w0.heap.size ≤ b) (hr : w.heap[b]? = some (.cells arr 31 (0, 0))) (ha : arr.size = 2) (hF : b ∉ F) :
    Rl w0 ((w.setCell ⟨b, 0, none⟩ (.int .i64 x.Code)).setCell ⟨b, 1, none⟩ (.slice A x.Page.length c)) b x A c F := by
  have hO : Only [b] w ((w.setCell ⟨b, 0, none⟩ (.int .i64 x.Code)).setCell ⟨b, 1, none⟩ (.slice A x.Page.length c)) :=
    ((Only.refl [b] w).setCell (fun _ => by simp) _).setCell (fun _ => by simp) _
  have hb := (Array.getElem?_eq_some_iff.1 hr).1
  refine ⟨hE.then_ hO (fun g hg' hlt => by simp at hg'; omega), hg, Nat.lt_of_lt_of_le hb hO.size, ?_, hw, Rep.sl_only hs hO (fun g hg' hm => by simp at hm; subst hm; exact hF hg')⟩
  have h1 := heap_setCells [.int .i64 x.Code, .slice A x.Page.length c] 0 w b arr 31 hr
  have h2 : arrSet arr 0 [.int .i64 x.Code, .slice A x.Page.length c] = #[.int .i64 x.Code, .slice A x.Page.length c] := by
    obtain ⟨l⟩ := arr
    match l, ha with
    | [_, _], _ => rfl
  rw [h2] at h1
  exact h1
theorem set2_cell {w : World} {b : Nat} {p : Addr} {u x y : Value} (h : w.cell? p = some u) (hne : p.block ≠ b) : ((w.setCell ⟨b, 0, none⟩ x).setCell ⟨b, 1, none⟩ y).cell? p = some u := by
  rw [World.cell?_setCell_other _ _ _ _ (fun e => hne (by rw [← e])), World.cell?_setCell_other _ _ _ _ (fun e => hne (by rw [← e]))]
  exact h
end Go.Proofs.YtghgjddiheebeaaDoor
