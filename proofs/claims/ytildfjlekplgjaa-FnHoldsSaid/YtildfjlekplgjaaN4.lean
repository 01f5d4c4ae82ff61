/- Lists of Locks: slices.DeleteFunc with any test. -/
import Derived.Test.YtildfjlekplgjaaM4
import Derived.Test.YtildfjlekplgjaaN1
namespace Go.Proofs.Ytildfjlekplgjaa
open Go.RowKit
set_option linter.unusedSimpArgs false
set_option linter.unusedVariables false

theorem zeroLock (w : World) : (zeroValue 63).run Try.prog w = .ok (.agg #[.int .i64 0, .int .i64 0, .int .i64 0]) w := by kernel_rfl
set_option maxRecDepth 100000 in
set_option maxHeartbeats 4000000 in
theorem lockDelete_calls (fi : Nat) (cap : Array Value) (p : DLock → Bool) (hfi : ∀ (args : Array Value) (W : World), (callFunc fi args).run Try.prog W = .ok (.enter fi args) W) (w : World) (n0 : Nat) (v : Value) (xs : List DLock) (hown : Own Rep.Lock 63 n0 w v xs) (F : List Nat) (hF : ∀ g, v.ownBlock = some g → g ∈ F) (hFl : ∀ g ∈ F, g < w.heap.size) (ht : TestsLock fi cap p F w) :
    Calls Try.prog 45 #[v, .func (.func fi) #[] cap] w fun e w' => ∃ v', e = .returned v' ∧ Own Rep.Lock 63 n0 w' v' (xs.filter (fun x => !p x)) ∧ v'.ownBlock = v.ownBlock ∧ Only F w w' := by
  have hu := Try.underlying63
  obtain ⟨i0, hi0, hz0, hzs, hzb⟩ := info_parts info63
  obtain ⟨hwf, hrow⟩ := own_locks_inv hown
  have hle := hown.le
  obtain ⟨FF, ⟨_, ⟨A0, c0, rfl, hsl⟩, rfl⟩, -⟩ := hown.done
  obtain ⟨d, hd⟩ : ∃ d, d = firstD p xs := ⟨_, rfl⟩
  have hix := lockIndex_calls fi cap p hfi A0 c0 xs FF w hsl (ht.less (by simp))
  rw [← hd] at hix
  have HIX := Lib.hid hix; have HT := Lib.hid ht
  clear hix ht
  change Calls _ _ #[.slice A0 xs.length c0, _] _ _
  change w.ownsRow n0 _ 3 (.slice A0 xs.length c0) _ _ at hrow
  change ∀ g, Value.ownBlock (.slice A0 xs.length c0) = some g → g ∈ F at hF
  change Own _ _ _ _ (.slice A0 xs.length c0) _ at hown
  show Calls _ _ _ _ (fun e w' => ∃ v', e = .returned v' ∧ Own Rep.Lock 63 n0 w' v' (xs.filter (fun x => !p x)) ∧ v'.ownBlock = (Value.slice A0 xs.length c0).ownBlock ∧ Only F w w')
  by_cases hnone : xs.findIdx p < xs.length
  rotate_left
  · have hd1 : d = -1 := by rw [hd, firstD, if_neg hnone]
    have hall : ∀ j (hj : j < xs.length), p xs[j] = false := by
      intro j hj
      cases hp : p xs[j]
      · rfl
      · exact absurd (List.findIdx_lt_length_of_exists ⟨xs[j], by simp, hp⟩) hnone
    rw [filter_none p xs hall]
    subst hd1
    clear hd
    have HOWN := Lib.hid hown
    clear hown hrow hsl
    go_enter Try.func45, Try.ntmps45
    go_wp2_with fail
    refine HIX.out.mono ?_
    rintro e w1 ⟨rfl, hO⟩
    have HE := Lib.hid hO
    clear hO
    go_wp2
    go_ret
    exact ⟨_, rfl, HOWN.out.ext HE.out, rfl, HE.out.more (by simp)⟩
  obtain ⟨f, hf⟩ : ∃ f, f = xs.findIdx p := ⟨_, rfl⟩
  rw [← hf] at hnone
  have hdf : d = (f : Int) := by rw [hd, firstD, ← hf, if_pos hnone]
  have hpf : p xs[f] = true := by
    have := List.findIdx_getElem (w := by rw [← hf]; exact hnone) (xs := xs) (p := p)
    simpa [← hf] using this
  have hbefore : ∀ j (hj : j < xs.length), j < f → p xs[j] = false := by
    intro j hj hjf
    have := List.not_of_lt_findIdx (p := p) (xs := xs) (i := j) (by omega)
    simpa using this
  subst hdf
  rcases hrow.2 with ⟨e0, h0⟩ | ⟨g, c, cur, e0, hg, hh, hnc, hcm, hsz, htk⟩
  · omega
  injection e0 with e1 e2 e3
  subst e1; subst e3
  have hgF : g ∈ F := hF g rfl
  obtain ⟨hR, -, -⟩ := RowIs.of encLock_len hrow
  have hglt := hR.lt
  have HR := Lib.hid hR; have HP := Lib.hid hpf; have HB := Lib.hid hbefore
  unfold maxLen at hcm
  have hc63 : xs.length ≤ c0 := hnc
  clear hR hrow hsl hown hd hf hpf hbefore htk hh hF
  go_enter Try.func45, Try.ntmps45
  go_wp2_with fail
  refine HIX.out.mono ?_
  rintro e w1 ⟨rfl, hO⟩
  have HE := Lib.hid hO
  clear hO HIX
  have hfm : ¬ ((f : Int) = -1) := by omega
  go_wp2
  go_loopg [5, 6] (xs.length - (f + 1)) (fun m i j wr => ∃ k : Nat, m + k = xs.length ∧ f < k ∧ j = .int .i64 k ∧ i = .int .i64 (keptD p xs k).length ∧ RowIs encLock 3 63 wr g c0 (rowD p xs k) ∧ Only F w wr)
  case atStart =>
    have hk : keptD p xs (f + 1) = xs.take f := by
      rw [keptD_next p xs f hnone, if_pos HP.out, List.append_nil]
      exact keptD_start p xs f (by omega) HB.out
    have hr : rowD p xs (f + 1) = xs := by
      rw [(rowD_skip p xs f hnone HP.out).1]
      exact rowD_start p xs f (by omega) HB.out
    exact ⟨f + 1, by omega, by omega, by go_num, by rw [hk]; simp; omega, by rw [hr]; exact HR.out.only HE.out (by simp), HE.out.more (by simp)⟩
  case round =>
    obtain ⟨k, hmk, hfk, rfl, rfl, hrw, hO⟩ := hrel
    have HRW := Lib.hid hrw; have HO := Lib.hid hO; have HMK := Lib.hid hmk
    clear hrw hO hmk
    have hkl := keptD_le p xs k
    have hkl2 : (keptD p xs k).length < k := keptD_lt p xs k f hnone hfk HP.out
    have hkx : k ≤ xs.length := by have := HMK.out; omega
    have hrl := rowD_len p xs k hkx
    have hgw : g < wr.heap.size := HRW.out.lt
    by_cases hlt : k < xs.length
    · have hat := rowD_at p xs k hlt (by rw [hrl]; exact hlt)
      have a0 := HRW.out.cell encLock_len k (by rw [hrl]; exact hlt) 0 _ (by rw [hat]; rfl)
      have a1 := HRW.out.cell encLock_len k (by rw [hrl]; exact hlt) 1 _ (by rw [hat]; rfl)
      have a2 := HRW.out.cell encLock_len k (by rw [hrl]; exact hlt) 2 _ (by rw [hat]; rfl)
      rw [Nat.add_zero] at a0
      have hwx := hwf xs[k] (by simp)
      cases hp : p xs[k]
      rotate_left
      · obtain ⟨hs1, hs2⟩ := rowD_skip p xs k hlt hp
        have HS1 := Lib.hid hs1; have HS2 := Lib.hid hs2
        clear hs1 hs2 hat hrl
        generalize xs[k] = x at *
        generalize (keptD p xs k).length = q at *
        have hEA := alloc_ext wr (.cells #[.int .i64 x.Id, .int .i64 x.Txn, .int .i64 x.Mode] 63)
        have mo := fun o => cell_of_row _ _ o _ _ _ (heap_alloc_new wr (.cells #[.int .i64 x.Id, .int .i64 x.Txn, .int .i64 x.Mode] 63))
        have HEA := Lib.hid hEA
        clear hEA
        go_wp2_with fail
        refine (HT.out x _ (HO.out.ext HEA.out)).mono ?_
        rw [hp]
        rintro e w2 ⟨rfl, hO2⟩
        have HE2 := Lib.hid (HEA.out.ext hO2)
        clear hO2 hp mo
        go_wp2
        go_roundg (xs.length - (k + 1))
        case measure => have := HMK.out; omega
        case rel => exact ⟨k + 1, by have := HMK.out; omega, by omega, by go_num, by rw [HS2.out], by rw [HS1.out]; exact HRW.out.only HE2.out (by simp), HO.out.ext HE2.out⟩
      · obtain ⟨hs1, hs2⟩ := rowD_put p xs k hlt hp
        have hql : (keptD p xs k).length < (rowD p xs k).length := by rw [hrl]; omega
        have hset := fun (W : World) (hW : RowIs encLock 3 63 W g c0 (rowD p xs k)) => hW.set3 encLock_len _ hql xs[k] _ _ _ rfl
        rw [← hs1] at hset
        have HS2 := Lib.hid hs2; have HSET := Lib.hid hset
        clear hs1 hs2 hat hrl hset hql
        generalize xs[k] = x at *
        generalize (keptD p xs k).length = q at *
        have hEA := alloc_ext wr (.cells #[.int .i64 x.Id, .int .i64 x.Txn, .int .i64 x.Mode] 63)
        have mo := fun o => cell_of_row _ _ o _ _ _ (heap_alloc_new wr (.cells #[.int .i64 x.Id, .int .i64 x.Txn, .int .i64 x.Mode] 63))
        have hB := heap_alloc_new wr (.cells #[.int .i64 x.Id, .int .i64 x.Txn, .int .i64 x.Mode] 63)
        have HEA := Lib.hid hEA; have HB2 := Lib.hid hB
        clear hEA hB
        go_wp2_with fail
        refine (HT.out x _ (HO.out.ext HEA.out)).mono ?_
        rw [hp]
        rintro e w2 ⟨rfl, hO2⟩
        have HE2 := Lib.hid (HEA.out.ext hO2)
        have mo2 := fun o => cell_of_row _ _ o _ _ _ (hO2.heap HB2.out (by simp))
        clear hO2 hp mo a0 a1 a2
        have hrow2 := HRW.out.only HE2.out (by simp)
        obtain ⟨u0, b0⟩ := hrow2.some (q * 3) (by omega)
        obtain ⟨u1, b1⟩ := hrow2.some (q * 3 + 1) (by omega)
        obtain ⟨u2, b2⟩ := hrow2.some (q * 3 + 2) (by omega)
        have kf := fun o => hrow2.frozen o
        have HROW2 := Lib.hid hrow2
        clear hrow2
        go_wp2
        go_roundg (xs.length - (k + 1))
        case measure => have := HMK.out; omega
        case rel => exact ⟨k + 1, by have := HMK.out; omega, by omega, by go_num, by rw [HS2.out]; go_num, HSET.out _ HROW2.out, (((HO.out.ext HE2.out).setCell (fun _ => hgF) _).setCell (fun _ => hgF) _).setCell (fun _ => hgF) _⟩
    · have hkk : k = xs.length := by have := HMK.out; omega
      subst hkk
      have hend := rowD_end p xs
      obtain ⟨q, hq⟩ : ∃ q, q = (keptD p xs xs.length).length := ⟨_, rfl⟩
      rw [← hq] at hend hkl2 ⊢
      have hfl : (xs.filter (fun x => !p x)).length = q := by rw [← hend, List.length_take, hrl]; omega
      have hz3 : (Builtin.zeroCells (Value.agg #[.int .i64 0, .int .i64 0, .int .i64 0]).cells (xs.length - q)).size = (xs.length - q) * 3 := by simp [Builtin.zeroCells, Value.cells]
      obtain ⟨ZS, hZS⟩ : ∃ ZS, ZS = Builtin.zeroCells (Value.agg #[.int .i64 0, .int .i64 0, .int .i64 0]).cells (xs.length - q) := ⟨_, rfl⟩
      have hclr := fun (W : World) (hW : RowIs encLock 3 63 W g c0 (rowD p xs xs.length)) (ty : TypeId) => run_clear_flat (P := Try.prog) W 24 63 ty _ Try.underlying24 zeroLock g (q * 3) (xs.length - q) (c0 - q) (by omega)
        (by
          intro u hu
          rw [zeros_mem hu]
          rfl)
        (fun j hj => by
          rw [hz3] at hj
          obtain ⟨u, hu⟩ := hW.some (q * 3 + j) (by omega)
          rw [hu]; rfl)
        (fun j _ => hW.frozen _)
      rw [← hZS] at hclr hz3
      have hclr2 := hclr wr HRW.out
      have hfin : ∀ W', W'.heap[g]? = (wr.setCells g (q * 3) ZS.toList).heap[g]? → wr.heap.size ≤ W'.heap.size → Own Rep.Lock 63 n0 W' (.slice (some ⟨g, 0, none⟩) q c0) (xs.filter (fun x => !p x)) := by
        intro W' hW' hs'
        obtain ⟨cur2, k1, k2, k3, k4⟩ := HRW.out
        rw [heap_setCells _ _ _ _ _ _ k1] at hW'
        have hown2 : W'.ownsRow n0 63 3 (.slice (some ⟨g, 0, none⟩) q c0) (xs.filter (fun x => !p x)).length (flat encLock (xs.filter (fun x => !p x))) := by
          refine ⟨flat_len encLock_len _, .inr ⟨g, c0, _, by rw [hfl], hg, hW', by rw [hfl]; omega, by unfold maxLen; omega, by rw [size_arrSet, k2], ?_⟩⟩
          have hzl : ZS.toList.length = (xs.length - q) * 3 := by simp [hz3]
          rw [arrSet_splice _ _ _ (by rw [hzl, k2]; omega), List.append_assoc, hfl, List.take_append_of_le_length (by simp [k2]; omega), List.take_take, Nat.min_self]
          rw [hrl] at k4
          rw [← hend, ← flat_take encLock_len _ _ (by rw [hrl]; omega), ← k4, List.take_take, Nat.min_eq_left (by omega)]
        exact own_locks (fun y hy => hwf y (List.mem_filter.1 hy).1) hown2 (by omega)
      have HFIN := Lib.hid hfin; have HCLR := Lib.hid hclr2
      have hq2 : (q : Int) < (xs.length : Int) := by omega
      have hc3 : ¬ (c0 = q) := by omega
      clear hclr hclr2 hfin hz3 hZS hend hfl hrl hq hkl
      have hcl := fun ty => HCLR.out ty
      go_wp2
      go_ret
      exact ⟨_, rfl, HFIN.out _ rfl (by rw [size_setCells]; omega), rfl, HO.out.cells (fun _ => hgF) _ _⟩
end Go.Proofs.Ytildfjlekplgjaa
