/- Lists of Locks: slices.Clone, slices.IndexFunc with any test of elements. -/
import Derived.Test.YtildfjlekplgjaaM1
import Derived.Test.YtildfjlekplgjaaFLock
namespace Go.Proofs.Ytildfjlekplgjaa
open Go.RowKit
set_option linter.unusedSimpArgs false
set_option linter.unusedVariables false
def encLock (x : DLock) : List Value := [.int .i64 x.Id, .int .i64 x.Txn, .int .i64 x.Mode]
theorem encLock_len (x : DLock) : (encLock x).length = 3 := rfl
theorem lock_cells {w : World} : ∀ {xs : List DLock} {cs : List Value} {F : List Nat}, Rep.Lock.cells w xs cs F → cs = flat encLock xs ∧ F = [] ∧ ∀ x ∈ xs, wfLock x
  | [], _, _, ⟨rfl, rfl⟩ => ⟨rfl, rfl, by simp⟩
  | x :: xs, _, _, h => by
    obtain ⟨c1, c2, F1, F2, rfl, rfl, ⟨rfl, rfl, hw⟩, h2⟩ := h
    obtain ⟨rfl, rfl, h3⟩ := lock_cells h2
    exact ⟨rfl, rfl, fun y hy => by
      rcases List.mem_cons.1 hy with rfl | hy
      · exact hw
      · exact h3 y hy⟩
theorem lock_cells_mk {w : World} : ∀ (xs : List DLock), (∀ x ∈ xs, wfLock x) → Rep.Lock.cells w xs (flat encLock xs) []
  | [], _ => ⟨rfl, rfl⟩
  | x :: xs, h => ⟨encLock x, flat encLock xs, [], [], rfl, rfl, ⟨rfl, rfl, h x (by simp)⟩, lock_cells_mk xs fun y hy => h y (by simp [hy])⟩
theorem flatLock_one (xs : List DLock) : ∀ u ∈ flat encLock xs, u.oneCell' = true := by
  intro u hu
  simp only [flat, List.mem_flatten, List.mem_map] at hu
  obtain ⟨l, ⟨x, _, rfl⟩, hu⟩ := hu
  simp [encLock] at hu
  rcases hu with rfl | rfl | rfl <;> rfl
theorem own_locks {n : Nat} {w : World} {v : Value} {xs : List DLock} (hw : ∀ x ∈ xs, wfLock x) (h : w.ownsRow n 63 3 v xs.length (flat encLock xs)) (hn : n ≤ w.heap.size) : Own Rep.Lock 63 n w v xs :=
  ⟨_, [], h, lock_cells_mk xs hw, by simp, NewIn.nil _ _, hn⟩
theorem own_locks_inv {n : Nat} {w : World} {v : Value} {xs : List DLock} (h : Own Rep.Lock 63 n w v xs) : (∀ x ∈ xs, wfLock x) ∧ w.ownsRow n 63 3 v xs.length (flat encLock xs) := by
  obtain ⟨cs, G, h1, h2, -⟩ := h
  obtain ⟨rfl, rfl, h3⟩ := lock_cells h2
  exact ⟨h3, h1⟩
set_option maxRecDepth 100000 in
set_option maxHeartbeats 1000000 in
theorem lockClone_calls (A : Option Addr) (c : Nat) (xs : List DLock) (F : List Nat) (w : World) (h : Rep.Lock.sl w A c xs F) (hn : xs.length ≤ 1048576) :
    Calls Try.prog 46 #[.slice A xs.length c] w fun e w' => ∃ v, e = .returned v ∧ Own Rep.Lock 63 w.heap.size w' v xs ∧ Ext w w' := by
  obtain ⟨i0, hi, hz0, hz1, hz2⟩ := info_parts info63
  have hnil := fun (W : World) (a : Option Addr) (n c : Nat) => Lib.run_eql_slice_nil (P := Try.prog) W 24 63 a n c 0 0 Try.underlying24
  rcases A with _ | ad
  · obtain rfl : xs = [] := by
      rcases h.2.2 with ⟨e, _⟩ | ⟨_, _, _, _, e, _⟩
      · exact e
      · cases e
    go_enter Try.func46, Try.ntmps46
    go_wp2
    go_ret
    exact ⟨_, rfl, Own.nil (Nat.le_refl _), Only.refl _ _⟩
  have hb : (∀ x ∈ xs, wfLock x) ∧ ∀ j u, (flat encLock xs)[j]? = some u → w.cell? (ad.add j) = some u := by
    rcases h.2.2 with ⟨rfl, _⟩ | ⟨g, off, G, cs, e, rfl, hg, hr, hcl⟩
    · exact ⟨by simp, fun j u hu => by simp [flat] at hu⟩
    · obtain ⟨rfl, rfl, hwf⟩ := lock_cells hr
      injection e with e
      subst e
      refine ⟨hwf, fun j u hu => ?_⟩
      have e3 : (⟨g, off, none⟩ : Addr).add j = ⟨g, off + j, none⟩ := by unfold Addr.add; split <;> simp_all
      rw [e3]; exact hcl j u hu
  obtain ⟨hwf, hcc⟩ := hb
  have HC := Lib.hid hcc
  clear h hcc
  go_enter Try.func46, Try.ntmps46
  go_wp2_with (at_builtin; refine wpList_append_own_at _ rfl _ _ 24 rfl w.heap.size 63 i0 _ 3 24 Try.underlying24 hi hz0 hz1 hz2 rfl (by decide) (.slice (some ⟨w.heap.size, 0, none⟩) 0 0) 0 [] rfl (World.ownsRow_made w #[] 0 (Nat.le_refl _) (by simp) (by simp)) ad xs.length c (flat encLock xs) rfl (flat_len encLock_len xs) (fun j u hu => (alloc_ext _ _).ecell (HC.out j u hu)) (flatLock_one xs) (by unfold maxLen; omega) (by omega) (by simp) ?_; intro v' w' hown hgrow hnil2 hat)
  go_ret
  refine ⟨v', rfl, own_locks hwf (by simpa using hown) ?_, ?_⟩
  · have := hgrow.size; simp at this; omega
  · exact (alloc_ext _ _).grown hgrow (fun g he hlt => by simp [Value.ownBlock] at he; omega)
/-- A test of elements: what a function value says of an element, in every world in which the blocks of w but those of F stand. -/
def TestsLock (fi : Nat) (cap : Array Value) (p : DLock → Bool) (F : List Nat) (w : World) : Prop :=
  ∀ (x : DLock) (W : World), Only F w W → Calls Try.prog fi (#[.agg #[.int .i64 x.Id, .int .i64 x.Txn, .int .i64 x.Mode]] ++ cap) W fun e W' => e = .returned (.bool (p x)) ∧ Ext W W'
theorem TestsLock.on {fi : Nat} {cap : Array Value} {p : DLock → Bool} {F : List Nat} {w w' : World} (h : TestsLock fi cap p F w) (hk : Only F w w') : TestsLock fi cap p F w' := fun x W hW => h x W (hk.trans hW)
theorem TestsLock.less {fi : Nat} {cap : Array Value} {p : DLock → Bool} {F G : List Nat} {w : World} (h : TestsLock fi cap p F w) (hG : ∀ g ∈ G, g ∈ F) : TestsLock fi cap p G w := fun x W hW => h x W (hW.more fun g hg _ => hG g hg)
set_option maxRecDepth 100000 in
set_option maxHeartbeats 1000000 in
theorem lockIndex_calls (fi : Nat) (cap : Array Value) (p : DLock → Bool) (hfi : ∀ (args : Array Value) (W : World), (callFunc fi args).run Try.prog W = .ok (.enter fi args) W) (A : Option Addr) (c : Nat) (xs : List DLock) (F : List Nat) (w : World) (h : Rep.Lock.sl w A c xs F) (ht : TestsLock fi cap p [] w) :
    Calls Try.prog 70 #[.slice A xs.length c, .func (.func fi) #[] cap] w fun e w' => e = .returned (.int .i64 (firstD p xs)) ∧ Ext w w' := by
  have hu := Try.underlying63
  have hm := Nat.le_trans h.1 h.2.1
  unfold maxLen at hm
  obtain ⟨R, hR⟩ : ∃ R : Int, R = firstD p xs := ⟨_, rfl⟩
  rw [← hR]
  have HR := Lib.hid hR; have H := Lib.hid h; have HT := Lib.hid ht
  clear hR h ht
  go_enter Try.func70, Try.ntmps70
  go_wp2
  go_loopg [8] (xs.length) (fun m i wr => ∃ k : Nat, m + k = xs.length ∧ i = .int .i64 k ∧ Ext w wr ∧ ∀ j (hj : j < xs.length), j < k → p xs[j] = false)
  case atStart => exact ⟨0, by simp, rfl, Only.refl _ _, fun j hj h => absurd h (Nat.not_lt_zero _)⟩
  case round =>
    obtain ⟨k, hmk, rfl, hE, hup⟩ := hrel
    have HE := Lib.hid hE; have HUP := Lib.hid hup; have HMK := Lib.hid hmk
    clear hE hup hmk
    by_cases hlt : k < xs.length
    · obtain ⟨g, off, rfl, hg, -, a0, a1, a2⟩ := sl_Lock (Rep.sl_ext H.out HE.out) k hlt
      cases hc : p xs[k]
      rotate_left
      · have HRb := Lib.hid (show R = k by
          have hf : xs.findIdx p = k := by
            rw [List.findIdx_eq hlt]
            exact ⟨hc, fun j hj => HUP.out j (by omega) hj⟩
          rw [HR.out, firstD, hf, if_pos hlt])
        generalize xs[k] = x at *
        go_wp2_with fail
        refine (HT.out x wr HE.out).mono ?_
        rw [hc]
        rintro e w2 ⟨rfl, hO⟩
        have HE2 := Lib.hid (HE.out.ext hO)
        clear hO hc
        go_wp2
        go_ret
        exact ⟨by rw [HRb.out]; rfl, HE2.out⟩
      · have HUP2 := Lib.hid (show ∀ j (hj : j < xs.length), j < k + 1 → p xs[j] = false by
          intro j hj hjk
          by_cases he : j = k
          · subst he; exact hc
          · exact HUP.out j hj (by omega))
        generalize xs[k] = x at *
        go_wp2_with fail
        refine (HT.out x wr HE.out).mono ?_
        rw [hc]
        rintro e w2 ⟨rfl, hO⟩
        have HE2 := Lib.hid (HE.out.ext hO)
        clear hO hc
        go_wp2
        go_roundg (xs.length - (k + 1))
        case measure => have := HMK.out; omega
        case rel => exact ⟨k + 1, by have := HMK.out; omega, by go_num, HE2.out, HUP2.out⟩
    · have HRb := Lib.hid (show R = -1 by
        have hf : ¬ xs.findIdx p < xs.length := by
          intro hl
          have h1 := List.findIdx_getElem (w := hl)
          have := HUP.out (xs.findIdx p) hl (by have := HMK.out; omega)
          rw [this] at h1; cases h1
        rw [HR.out, firstD, if_neg hf])
      go_wp2
      go_ret
      exact ⟨by rw [HRb.out]; rfl, HE.out⟩
end Go.Proofs.Ytildfjlekplgjaa
