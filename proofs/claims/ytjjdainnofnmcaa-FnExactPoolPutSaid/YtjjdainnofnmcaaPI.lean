/- PoolPut: the program's. -/
import Derived.Test.YtjjdainnofnmcaaPH
namespace Go.Proofs.Ytjjdainnofnmcaa
open Go.RowKit
set_option linter.unusedSimpArgs false
set_option linter.unusedVariables false
theorem implPoolPut_new (w : World) (v : Value) (p : DPool) (F : List Nat) (h : Rep.Pool.V w v p F) (page : Int) (ep : (Lit.int .i64 page).wf = true) (A : Option Addr) (c : Nat) (bs : List Int) (G : List Nat) (hB : (Rep.int .u8).sl w A c bs G) (lsn : Int) (el : (Lit.int .i64 lsn).wf = true) (hs2 : wtPool p ≤ 1048576) (hs : bs.length ≤ 1048576) :
    Calls Try.prog 24 #[v, .int .i64 page, .slice A bs.length c, .int .i64 lsn] w (NewPost Rep.PoolResult (poolMod p page (gPut bs lsn)) w) := by
  obtain ⟨_, ⟨A1, c1, F1, rfl, rfl, hw, s1⟩, rfl⟩ := id h
  have hu := Try.underlying29
  have hu3 := Try.underlying40
  generalize hR : poolMod p page (gPut bs lsn) = R
  have HR := Lib.hid hR
  clear hR
  show Calls _ _ #[.agg #[_, _], _, _, _] _ _
  go_enter Try.func24, Try.ntmps24
  go_wp2_with fail
  have hE := (((alloc_ext w (.cells #[.slice A1 p.Frames.length c1, .int .i64 p.Hand] 29)).alloc (.cells #[.slice A bs.length c] 33)).alloc (.cells #[.int .i64 lsn] 2)).alloc (.cells #[.int .i64 0, .int .i64 0, .slice none 0 0, .int .i64 0] 40)
  have q1 : ((((w.alloc (.cells #[.slice A1 p.Frames.length c1, .int .i64 p.Hand] 29)).alloc (.cells #[.slice A bs.length c] 33)).alloc (.cells #[.int .i64 lsn] 2)).alloc (.cells #[.int .i64 0, .int .i64 0, .slice none 0 0, .int .i64 0] 40)).heap[w.heap.size + 1]? = some (.cells #[.slice A bs.length c] 33 (0, 0)) :=
    Only.heap (F := []) (((Only.refl _ _).alloc _).alloc _) (heap_at _ _ (by simp)) (by simp)
  have q2 : ((((w.alloc (.cells #[.slice A1 p.Frames.length c1, .int .i64 p.Hand] 29)).alloc (.cells #[.slice A bs.length c] 33)).alloc (.cells #[.int .i64 lsn] 2)).alloc (.cells #[.int .i64 0, .int .i64 0, .slice none 0 0, .int .i64 0] 40)).heap[w.heap.size + 1 + 1]? = some (.cells #[.int .i64 lsn] 2 (0, 0)) :=
    Only.heap (F := []) ((Only.refl _ _).alloc _) (heap_at _ _ (by simp)) (by simp)
  have q3 : ((((w.alloc (.cells #[.slice A1 p.Frames.length c1, .int .i64 p.Hand] 29)).alloc (.cells #[.slice A bs.length c] 33)).alloc (.cells #[.int .i64 lsn] 2)).alloc (.cells #[.int .i64 0, .int .i64 0, .slice none 0 0, .int .i64 0] 40)).heap[w.heap.size + 1 + 1 + 1]? = some (.cells #[.int .i64 0, .int .i64 0, .slice none 0 0, .int .i64 0] 40 (0, 0)) :=
    heap_at _ _ (by simp)
  have hz : ((((w.alloc (.cells #[.slice A1 p.Frames.length c1, .int .i64 p.Hand] 29)).alloc (.cells #[.slice A bs.length c] 33)).alloc (.cells #[.int .i64 lsn] 2)).alloc (.cells #[.int .i64 0, .int .i64 0, .slice none 0 0, .int .i64 0] 40)).heap.size = w.heap.size + 4 := by simp
  generalize ((((w.alloc (.cells #[.slice A1 p.Frames.length c1, .int .i64 p.Hand] 29)).alloc (.cells #[.slice A bs.length c] 33)).alloc (.cells #[.int .i64 lsn] 2)).alloc (.cells #[.int .i64 0, .int .i64 0, .slice none 0 0, .int .i64 0] 40)) = W0 at hE q1 q2 q3 hz ⊢
  refine (poolDo_calls 57 _ (gPut bs lsn) W0 W0 (enters_of Try.func57 (by kernel_rfl) rfl) (fPut_fn W0 A c bs _ (Rep.sl_ext hB hE) hs lsn el _ _ (cell_of_row _ _ 0 _ _ _ q1) (cell_of_row _ _ 0 _ _ _ q2)) (Only.refl _ _) (fun x => by unfold gPut; split <;> rfl) _ p _ ⟨_, ⟨A1, c1, _, rfl, rfl, hw, Rep.sl_ext s1 hE⟩, rfl⟩ page ep hs2).mono ?_
  rintro e w1 ⟨v1, F', rfl, hV, hN⟩
  rw [HR.out] at hV
  obtain ⟨_, ⟨B, d, _, rfl, rfl, hw1, q⟩, hv⟩ := hV
  replace hv : v1 = .agg #[_, _, _, _] := hv
  subst hv
  have HE1 := Lib.hid (Only.ext hE hN.ext)
  have hb2 := Only.heap hN.ext q3 (by simp)
  have m2 := fun o => cell_of_row _ _ o _ _ _ hb2
  have f2 := fun o => frozen_of_row _ _ o _ _ hb2
  have HN := Lib.hid hN
  clear hb2 hN q1 q2 q3
  go_wp2
  refine bodyPost_ret (v := .agg #[.int .i64 R.Code, .int .i64 R.Frame, .slice B R.Pool.Frames.length d, .int .i64 R.Pool.Hand]) (by simp [results, Try.results24, go_sem, m2]) rfl ?_
  exact passOn (n := w.heap.size + 1 + 1 + 1) HN.out q hw1 (by repeat (first | with_reducible exact Only.refl _ _ | ((with_reducible apply Only.set); · simp))) (by repeat (first | with_reducible exact HE1.out | ((with_reducible apply Only.set); · (simp; try omega)))) (by omega) (by omega) (by omega)
theorem specPoolPut_calls (w : World) (v : Value) (p : DPool) (F : List Nat) (h : Rep.Pool.V w v p F) (page : Int) (ep : (Lit.int .i64 page).wf = true) (A : Option Addr) (c : Nat) (bs : List Int) (G : List Nat) (hB : (Rep.int .u8).sl w A c bs G) (lsn : Int) (el : (Lit.int .i64 lsn).wf = true) (hs2 : wtPool p ≤ 1048576) (hs : bs.length ≤ 1048576) :
    Calls Try.prog 39 #[v, .int .i64 page, .slice A bs.length c, .int .i64 lsn] w fun e w' => ∃ v F, e = .returned v ∧ Rep.PoolResult.V w' v (poolMod p page (gPut bs lsn)) F ∧ Ext w w' :=
  (specPoolPut_new w v p F h page ep A c bs G hB lsn el hs hs2).mono fun _ _ h => h.weak
theorem poolPut_ct (p : DPool) (page : Int) (bs : List Int) (lsn : Int) (h : wtPool p ≤ 1048576) (hs : bs.length ≤ 1048576) : ctTopPoolResult (poolMod p page (gPut bs lsn)) ≤ 1152921504606846976 := poolMod_ct p page _ (fun x => by unfold gPut; split <;> simp [wtFrame]; omega) h
end Go.Proofs.Ytjjdainnofnmcaa
