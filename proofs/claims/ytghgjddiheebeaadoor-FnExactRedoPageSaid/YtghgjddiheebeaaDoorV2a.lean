/- RedoPage: the program's. -/
import Derived.Test.YtghgjddiheebeaaDoorV1
namespace Go.Proofs.YtghgjddiheebeaaDoor
open Go.RowKit
set_option linter.unusedSimpArgs false
set_option linter.unusedVariables false
/-- The page at work, the result's block. -/
structure RS (w0 w : World) (A : Option Addr) (c : Nat) (Q : List Int) (F : List Nat) : Prop where
  sl : (Rep.int .u8).sl w A c Q F
  ext : Ext w0 w
  ni : NewIn (w0.heap.size + 1) w F
  res : w.heap[w0.heap.size]? = some (.cells #[.int .i64 0, .slice none 0 0] 31 (0, 0))
  len : Q.length = 4096
theorem RS.more {w0 w w' : World} {A : Option Addr} {c : Nat} {Q : List Int} {F : List Nat} (h : RS w0 w A c Q F) (hE : Ext w w') : RS w0 w' A c Q F :=
  ⟨Rep.sl_ext h.sl hE, h.ext.ext hE, h.ni.step hE (by simp), hE.heap h.res (by simp), h.len⟩
theorem RS.swap {w0 w w' : World} {A A' : Option Addr} {c c' : Nat} {Q Q' : List Int} {F F' : List Nat} (h : RS w0 w A c Q F) (hs : (Rep.int .u8).sl w' A' c' Q' F') (hN : New w w' F') (hl : Q'.length = 4096) : RS w0 w' A' c' Q' F' :=
  ⟨hs, h.ext.ext hN.ext, ⟨fun g hg => by have h1 := hN.new g hg; have h2 := (Array.getElem?_eq_some_iff.1 h.res).1; omega, Rep.sl_lt hs, hN.nodup, hN.unfr⟩, hN.ext.heap h.res (by simp), hl⟩
theorem rdRes_code {c : Int} {w w' : World} (hc : (Lit.int .i64 c).wf = true) (hO : Ext w w') : NewPost Rep.PageResult ⟨c, []⟩ w (.returned (.agg #[.int .i64 c, .slice none 0 0])) w' :=
  ⟨_, [], rfl, ⟨_, ⟨none, 0, [], rfl, rfl, hc, Rep.sl_nil (by simp)⟩, rfl⟩, hO, by simp, by simp, by simp [Unfr]⟩
theorem rdRes_new {w0 w w' : World} {A : Option Addr} {c : Nat} {Q : List Int} {F : List Nat} (h : RS w0 w A c Q F) (hO : Only [w0.heap.size] w w') : NewPost Rep.PageResult ⟨0, Q⟩ w0 (.returned (.agg #[.int .i64 0, .slice A 4096 c])) w' := by
  have hd : ∀ b ∈ F, b ∉ [w0.heap.size] := fun b hb hm => by have := h.ni.ge b hb; simp at hm; omega
  have hl := h.len
  rw [← hl]
  refine ⟨_, F, rfl, ⟨_, ⟨A, c, F, rfl, rfl, rfl, Rep.sl_only h.sl hO hd⟩, rfl⟩, h.ext.then_ hO (fun b hb hlt => by simp at hb; omega), fun b hb => by have := h.ni.ge b hb; omega, h.ni.nodup, h.ni.unfr.only hO (fun b hb => Rep.sl_lt h.sl b hb) hd⟩
end Go.Proofs.YtghgjddiheebeaaDoor
