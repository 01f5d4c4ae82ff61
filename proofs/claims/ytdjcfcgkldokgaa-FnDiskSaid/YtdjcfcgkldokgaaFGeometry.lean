/- Geometry: the data, how they lie in cells, and the laws' own functions over them. Printed by gen_fam.py, a program of this session. -/
import Derived.Test.YtdjcfcgkldokgaaF0
import Derived.StillTailTactics
namespace Go.Proofs.Ytdjcfcgkldokgaa
open Go.RowKit
set_option linter.unusedSimpArgs false
set_option linter.unusedVariables false
set_option maxRecDepth 100000
set_option maxHeartbeats 8000000

structure DGeometry where
  Pages : Int
  Frames : Int
  LogSectors : Int
  deriving DecidableEq

def wfGeometry (x : DGeometry) : Prop := (Lit.int .i64 x.Pages).wf = true ∧ (Lit.int .i64 x.Frames).wf = true ∧ (Lit.int .i64 x.LogSectors).wf = true

def Rep.Geometry : Rep DGeometry where
  sz := 3
  R := fun _ x cs F => cs = [.int .i64 x.Pages, .int .i64 x.Frames, .int .i64 x.LogSectors] ∧ F = [] ∧ wfGeometry x
  val := fun | [a0, a1, a2] => .agg #[a0, a1, a2] | _ => undef
  len := by rintro w x cs F ⟨rfl, -⟩; rfl
  lt := by rintro w x cs F ⟨-, rfl, -⟩ g hg; cases hg
  keep := fun h _ => h

theorem val_Geometry : ∀ (l : List Value), l.length = 3 → Rep.Geometry.val l = .agg ⟨l⟩
  | [_, _, _], _ => rfl

theorem sl_Geometry {w : World} {A : Option Addr} {c : Nat} {xs : List DGeometry} {F : List Nat} (h : Rep.Geometry.sl w A c xs F) (i : Nat) (hi : i < xs.length) :
    ∃ (g off : Nat), A = some ⟨g, off, none⟩ ∧ g < w.heap.size ∧ wfGeometry (xs[i]) ∧
      w.cell? ⟨g, off + i * 3, none⟩ = some (.int .i64 (xs[i]).Pages) ∧ w.cell? ⟨g, off + i * 3 + 1, none⟩ = some (.int .i64 (xs[i]).Frames) ∧ w.cell? ⟨g, off + i * 3 + 2, none⟩ = some (.int .i64 (xs[i]).LogSectors) := by
  obtain ⟨g, off, d, G, e, hg, _, ⟨rfl, rfl, hw⟩, _, hc⟩ := Rep.sl_at h i hi
  exact ⟨g, off, e, hg, hw, hc 0 _ rfl, hc 1 _ rfl, hc 2 _ rfl⟩

theorem cells_Geometry (w : World) (g o : Nat) (v0 v1 v2 : Value) : (((w.setCell ⟨g, o, none⟩ v0).setCell ⟨g, o + 1, none⟩ v1).setCell ⟨g, o + 2, none⟩ v2) = w.setCells g o [v0, v1, v2] := rfl

theorem toGeometry_calls (v : Value) (x : DGeometry) (F : List Nat) (w : World) (h : Rep.Geometry.V w v x F) :
    Calls Try.prog 50 #[v] w (NewPost Rep.Geometry x w) := by
  obtain ⟨_, ⟨rfl, rfl, hw⟩, rfl⟩ := h
  have hu_laws_Geometry := Try.underlying73
  have hu_impl_Geometry := Try.underlying75
  show Calls _ _ #[.agg #[_, _, _]] _ _
  go_enter Try.func50, Try.ntmps50
  go_wp2
  refine bodyPost_ret (v := .agg #[.int .i64 x.Pages, .int .i64 x.Frames, .int .i64 x.LogSectors]) (by simp [results, Try.results50, go_sem]) rfl ?_
  exact ⟨_, _, rfl, ⟨_, ⟨rfl, rfl, hw⟩, rfl⟩, NewIn.mk_ (NewIn.nil _ _) (by repeat (first | ((with_reducible apply Only.set); · exact fun h => absurd h (by dsimp only; omega)) | (with_reducible apply Only.alloc) | with_reducible exact Only.refl _ _ | with_reducible exact Only.refl _ _))⟩

end Go.Proofs.Ytdjcfcgkldokgaa
