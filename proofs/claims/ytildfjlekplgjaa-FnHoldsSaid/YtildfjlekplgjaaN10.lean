/- LockFree; the laws' choice of a byte. -/
import Derived.Test.YtildfjlekplgjaaN9
namespace Go.Proofs.Ytildfjlekplgjaa
open Go.RowKit
set_option linter.unusedSimpArgs false
set_option linter.unusedVariables false
def lockFree (xs : List DLock) (txn : Int) : DLockResult := if locksFault xs = 0 then ⟨0, xs.filter (fun l => !decide (l.Txn = txn))⟩ else ⟨2, []⟩
set_option maxRecDepth 100000 in
theorem freeIs_calls (x : DLock) (w : World) (nb : Nat) (txn : Int) (h0 : w.cell? ⟨nb, 0, none⟩ = some (.int .i64 txn)) :
    Calls Try.prog 61 #[.agg #[.int .i64 x.Id, .int .i64 x.Txn, .int .i64 x.Mode], .pointer (some ⟨nb, 0, none⟩)] w fun e w' => e = .returned (.bool (decide (x.Txn = txn))) ∧ Ext w w' := by
  have hu := Try.underlying63
  have hlt : nb < w.heap.size := World.block_lt_of_cell? w ⟨nb, 0, none⟩ h0
  have c0 := (alloc_ext w (.cells #[.int .i64 x.Id, .int .i64 x.Txn, .int .i64 x.Mode] 63)).ecell h0
  have mo := fun o => cell_of_row _ _ o _ _ _ (heap_alloc_new w (.cells #[.int .i64 x.Id, .int .i64 x.Txn, .int .i64 x.Mode] 63))
  have hE := alloc_ext w (.cells #[.int .i64 x.Id, .int .i64 x.Txn, .int .i64 x.Mode] 63)
  have HE := Lib.hid hE
  clear hE
  go_enter Try.func61, Try.ntmps61
  by_cases hh : x.Txn = txn
  · have hb : (x.Txn == txn) = true := by simp [hh]
    have hd : decide (x.Txn = txn) = true := by simp [hh]
    rw [hd]
    clear hh hd
    go_wp2
    go_ret
    exact ⟨rfl, HE.out⟩
  · have hb : (x.Txn == txn) = false := by simp [hh]
    have hd : decide (x.Txn = txn) = false := by simp [hh]
    rw [hd]
    clear hh hd
    go_wp2
    go_ret
    exact ⟨rfl, HE.out⟩
set_option maxRecDepth 100000 in
set_option maxHeartbeats 2000000 in
theorem lockFree_calls (A : Option Addr) (c : Nat) (xs : List DLock) (F : List Nat) (w : World) (h : Rep.Lock.sl w A c xs F) (txn : Int) (hs : xs.length ≤ 1048576) :
    Calls Try.prog 25 #[.slice A xs.length c, .int .i64 txn] w (NewPost Rep.LockResult (lockFree xs txn) w) := by
  have hu := Try.underlying63
  have hu2 := Try.underlying26
  obtain ⟨R, hR⟩ : ∃ R, R = lockFree xs txn := ⟨_, rfl⟩
  obtain ⟨lf, hlf⟩ : ∃ lf, lf = locksFault xs := ⟨_, rfl⟩
  have HLF := Lib.hid hlf
  rw [← hR]
  have hE0 : Ext w ((w.alloc (.cells #[.int .i64 txn] 2)).alloc (.cells #[.int .i64 0, .slice none 0 0] 26)) := (alloc_ext w _).alloc _
  have hB1 : ((w.alloc (.cells #[.int .i64 txn] 2)).alloc (.cells #[.int .i64 0, .slice none 0 0] 26)).heap[w.heap.size]? = some (.cells #[.int .i64 txn] 2 (0, 0)) := heap_alloc2_old w _ _
  have hB2 : ((w.alloc (.cells #[.int .i64 txn] 2)).alloc (.cells #[.int .i64 0, .slice none 0 0] 26)).heap[w.heap.size + 1]? = some (.cells #[.int .i64 0, .slice none 0 0] 26 (0, 0)) := heap_alloc2_new w _ _
  have hsz0 : ((w.alloc (.cells #[.int .i64 txn] 2)).alloc (.cells #[.int .i64 0, .slice none 0 0] 26)).heap.size = w.heap.size + 2 := by simp
  have ct : ((w.alloc (.cells #[.int .i64 txn] 2)).alloc (.cells #[.int .i64 0, .slice none 0 0] 26)).cell? ⟨w.heap.size, 0, none⟩ = some (.int .i64 txn) := cell_of_row _ _ 0 _ _ _ hB1
  have H := Lib.hid (Rep.sl_ext h hE0); have HE0 := Lib.hid hE0; have HB := Lib.hid hB2; have HSZ0 := Lib.hid hsz0; have HCT := Lib.hid ct
  clear hE0 hB1 hB2 hsz0 h
  by_cases h0 : lf = 0
  rotate_left
  · have hb : (lf != 0) = true := by simp [h0]
    have HQ := Lib.hid (show R = ⟨2, []⟩ by rw [hR, lockFree, if_neg (by rw [← hlf]; exact h0)])
    clear h0 hR hlf
    go_enter Try.func25, Try.ntmps25
    go_wp2_with fail
    generalize ((w.alloc (.cells #[.int .i64 txn] 2)).alloc (.cells #[.int .i64 0, .slice none 0 0] 26)) = W0 at *
    refine (implLocksFault_calls _ _ _ _ _ H.out).mono ?_
    rw [← HLF.out]
    rintro e w1 ⟨rfl, hO⟩
    have HE1 := Lib.hid hO
    have m2 := fun o => cell_of_row _ _ o _ _ _ (hO.heap HB.out (by simp))
    have f2 := fun o => frozen_of_row _ _ o _ _ (hO.heap HB.out (by simp))
    clear hO ct
    go_wp2
    refine bodyPost_ret (v := .agg #[.int .i64 2, .slice none 0 0]) (by simp [results, Try.results25, go_sem, m2]) rfl ?_
    rw [HQ.out]
    exact lockRes_code (by rfl) (by repeat (first | with_reducible exact (HE0.out.ext HE1.out) | ((with_reducible apply Only.set); · first | (simp; done) | exact fun hq => absurd hq (by dsimp only; omega))))
  have hb : (lf != 0) = false := by simp [h0]
  have HQ := Lib.hid (show R = ⟨0, xs.filter (fun l => !decide (l.Txn = txn))⟩ by rw [hR, lockFree, if_pos (by rw [← hlf]; exact h0)])
  clear h0 hR hlf
  go_enter Try.func25, Try.ntmps25
  go_wp2_with fail
  generalize ((w.alloc (.cells #[.int .i64 txn] 2)).alloc (.cells #[.int .i64 0, .slice none 0 0] 26)) = W0 at *
  refine (implLocksFault_calls _ _ _ _ _ H.out).mono ?_
  rw [← HLF.out]
  rintro e w3 ⟨rfl, hO⟩
  have HE3 := Lib.hid hO
  clear hO ct
  go_wp2_with fail
  refine (lockClone_calls A c xs F w3 (Rep.sl_ext H.out HE3.out) (by omega)).mono ?_
  rintro e w4 ⟨v4, rfl, hown4, hO4⟩
  have hf4 := hown4.form
  have HOWN4 := Lib.hid hown4; have HO4 := Lib.hid hO4
  clear hown4 hO4
  have hsw : w.heap.size + 2 ≤ w3.heap.size := by have h1 := HE3.out.size; have h2 := HSZ0.out; omega
  obtain ⟨F4, hF4⟩ : ∃ F4 : List Nat, F4 = v4.ownBlock.toList := ⟨_, rfl⟩
  have hF4m : ∀ g ∈ F4, w3.heap.size ≤ g ∧ g < w4.heap.size := by
    intro g hg
    rw [hF4] at hg
    exact (own_locks_inv HOWN4.out).2.lt g (by simpa using hg)
  have hdel := lockDelete_calls 61 #[.pointer (some ⟨w.heap.size, 0, none⟩)] (fun l => decide (l.Txn = txn)) (enters_of Try.func61 (by kernel_rfl) rfl) w4 w3.heap.size v4 xs HOWN4.out F4 (fun g hg => by rw [hF4, hg]; simp) (fun g hg => (hF4m g hg).2)
    (fun x W hW => freeIs_calls x W w.heap.size txn (hW.cell (HO4.out.ecell (HE3.out.ecell HCT.out)) (fun hg => by have := (hF4m _ hg).1; dsimp only at this; omega)))
  have HDEL := Lib.hid hdel; have HF4M := Lib.hid hF4m
  clear hdel hF4 hF4m
  obtain ⟨A4, c4, rfl, -⟩ := hf4
  go_wp2_with fail
  refine HDEL.out.mono ?_
  rintro e w5 ⟨v5, rfl, hown5, hb5, hO5⟩
  have hE5 : Ext w3 w5 := HO4.out.then_ hO5 (fun g hg hlt => by have := (HF4M.out g hg).1; omega)
  have m2 := fun o => cell_of_row _ _ o _ _ _ (hE5.heap (HE3.out.heap HB.out (by simp)) (by simp))
  have f2 := fun o => frozen_of_row _ _ o _ _ (hE5.heap (HE3.out.heap HB.out (by simp)) (by simp))
  obtain ⟨A5, c5, hv5, -⟩ := hown5.form
  obtain ⟨n5, hn5⟩ : ∃ n5, n5 = (xs.filter (fun l => !decide (l.Txn = txn))).length := ⟨_, rfl⟩
  rw [← hn5] at hv5
  subst hv5
  have HE5 := Lib.hid hE5; have HOWN5 := Lib.hid hown5
  clear HDEL hE5 hown5 hO5 hb5 hn5
  go_wp2
  refine bodyPost_ret (v := .agg #[.int .i64 0, .slice A5 n5 c5]) (by simp [results, Try.results25, go_sem, m2]) rfl ?_
  rw [HQ.out]
  exact lockRes_own (n := w3.heap.size) ((HOWN5.out.keep (H := [w.heap.size + 1]) (by repeat (first | with_reducible exact Only.refl _ _ | ((with_reducible apply Only.set); · first | (simp; done) | exact fun hq => absurd hq (by dsimp only; omega)))) (by simp; omega))) (by omega) (by repeat (first | with_reducible exact (HE0.out.ext (HE3.out.ext HE5.out)) | ((with_reducible apply Only.set); · first | (simp; done) | exact fun hq => absurd hq (by dsimp only; omega))))
end Go.Proofs.Ytildfjlekplgjaa
