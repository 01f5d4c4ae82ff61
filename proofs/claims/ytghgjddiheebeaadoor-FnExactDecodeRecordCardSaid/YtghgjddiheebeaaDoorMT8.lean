/- DecodeRecord, the specification's: the tables: lemmas. -/
import Derived.Test.YtghgjddiheebeaaDoorMT7
import Derived.Test.YtghgjddiheebeaaDoorMSG
import Derived.Deep.RegionHeld3
import Derived.Deep.DeepCutAuto
import Derived.Deep.CutBlock
namespace Go.Proofs.YtghgjddiheebeaaDoor
open Go.RowKit
set_option linter.unusedSimpArgs false
set_option linter.unusedVariables false
section
variable {w0 W W' : World} {sb rb rr n : Nat} {F : List Nat} {arr : Array Value} {b : List Int} {o : Nat}
theorem DS.numRO (h : DS (SR sb F b o) w0 rb rr n arr W) (g : Geo w0 sb rb rr n F) (k : Nat) (kz : Int) (hkz : kz = k) (h1 : 1 ≤ k) (h8 : k ≤ 8) (ho : o ≤ 1073741824) (hm : b.length ≤ 1048576) (v : Int) (o' : Nat) (hv : getNum (extB b o k) = v) (ho' : o + k = o') :
    Calls Tryd.prog 101 #[.pointer (some ⟨sb, 0, none⟩), .int .i64 kz] W fun e w' => e = .returned (.int .i64 v) ∧ Hid (DS (SR sb F b o') w0 rb rr n arr w') ∧ Hid (Only [sb] W w') := by
  subst hv; subst ho'
  exact (h.p.num k kz hkz h1 h8 ho hm).mono fun e w' ⟨h1, h2, h3⟩ => ⟨h1, Lib.hid (h.only g h3 h2), Lib.hid h3⟩
theorem DS.offR (h : DS (SR sb F b o) w0 rb rr n arr W) (g : Geo w0 sb rb rr n F) (bx i : Nat) (v : Value) (hb : n ≤ bx) : DS (SR sb F b o) w0 rb rr n arr (W.setCell ⟨bx, i, none⟩ v) := by
  have hO : Only [bx] W (W.setCell ⟨bx, i, none⟩ v) := (Only.refl _ _).setCell (by simp) _
  have gs := g.s; have gb := g.b; have gr := g.r
  exact ⟨h.p.only hO (fun x hx => by simp at hx; subst hx; exact ⟨fun hm => by have := g.f _ hm; omega, by omega⟩), hO.heap h.res (by simp; omega), hO.heap h.row (by simp; omega), h.ext.then_ hO (fun x hx hl => by simp at hx; omega), Nat.le_trans h.le hO.size⟩
theorem DS.belowR (h : DS (SR sb F b o) w0 rb rr n arr W) (g : Geo w0 sb rb rr n F) (hb : Below n W W') : DS (SR sb F b o) w0 rb rr n arr W' := by
  obtain ⟨⟨⟨A, c, h1, hs⟩, hne⟩, h2, h3, h4, h5⟩ := h
  have gs := g.s; have gb := g.b; have gr := g.r
  refine ⟨⟨⟨A, c, (hb.block sb (by omega)).trans h1, Rep.sl_keep hs (fun x hx => hb.block x (by have := g.f x hx; omega))⟩, hne⟩, (hb.block rb (by omega)).trans h2, (hb.block rr (by omega)).trans h3, ?_, Nat.le_trans h5 hb.size⟩
  exact ⟨hb.os.trans h4.os, hb.tape.trans h4.tape, hb.output.trans h4.output, Nat.le_trans h4.size hb.size, fun k hk hn => (hb.block k (by omega)).trans (h4.block k hk hn)⟩
end
end Go.Proofs.YtghgjddiheebeaaDoor
