/- LockAsk: the program's; the contracts as the law's walk wants them. -/
import Derived.Test.YtildfjlekplgjaaN8
import Derived.Test.YtildfjlekplgjaaK8
import Derived.Test.YtildfjlekplgjaaN4
import Derived.Test.YtildfjlekplgjaaN3
namespace Go.Proofs.Ytildfjlekplgjaa
open Go.RowKit
set_option linter.unusedSimpArgs false
set_option linter.unusedVariables false
set_option maxRecDepth 100000 in
theorem lockIs_calls (x : DLock) (w : World) (nb nc : Nat) (txn id : Int) (h0 : w.cell? ⟨nb, 0, none⟩ = some (.int .i64 id)) (h1 : w.cell? ⟨nc, 0, none⟩ = some (.int .i64 txn)) :
    Calls Try.prog 47 #[.agg #[.int .i64 x.Id, .int .i64 x.Txn, .int .i64 x.Mode], .pointer (some ⟨nb, 0, none⟩), .pointer (some ⟨nc, 0, none⟩)] w fun e w' => e = .returned (.bool (isKey txn id x)) ∧ Ext w w' := by
  have hu := Try.underlying63
  have c0 := (alloc_ext w (.cells #[.int .i64 x.Id, .int .i64 x.Txn, .int .i64 x.Mode] 63)).ecell h0
  have c1 := (alloc_ext w (.cells #[.int .i64 x.Id, .int .i64 x.Txn, .int .i64 x.Mode] 63)).ecell h1
  have hl0 : nb < w.heap.size := World.block_lt_of_cell? w ⟨nb, 0, none⟩ h0
  have hl1 : nc < w.heap.size := World.block_lt_of_cell? w ⟨nc, 0, none⟩ h1
  have mo := fun o => cell_of_row _ _ o _ _ _ (heap_alloc_new w (.cells #[.int .i64 x.Id, .int .i64 x.Txn, .int .i64 x.Mode] 63))
  have hE := alloc_ext w (.cells #[.int .i64 x.Id, .int .i64 x.Txn, .int .i64 x.Mode] 63)
  have HE := Lib.hid hE
  obtain ⟨R, hR⟩ : ∃ R, R = isKey txn id x := ⟨_, rfl⟩
  rw [← hR]
  have hcs : ((x.Id == id) = true ∧ (x.Txn == txn) = true ∧ R = true) ∨ ((x.Id == id) = true ∧ (x.Txn == txn) = false ∧ R = false) ∨ ((x.Id == id) = false ∧ R = false) := by
    rw [hR]
    by_cases a : x.Id = id
    · by_cases b : x.Txn = txn
      · exact .inl ⟨by simp [a], by simp [b], by simp [isKey, a, b]⟩
      · exact .inr (.inl ⟨by simp [a], by simp [b], by simp [isKey, a, b]⟩)
    · exact .inr (.inr ⟨by simp [a], by simp [isKey, a]⟩)
  clear hE hR
  go_enter Try.func47, Try.ntmps47
  rcases hcs with ⟨q1, q2, q3⟩ | ⟨q1, q2, q3⟩ | ⟨q1, q3⟩
  all_goals
    have HQ := Lib.hid q3
    clear q3
    go_wp2
    go_ret
    exact ⟨by rw [HQ.out]; rfl, HE.out⟩
theorem run_max2 {P : Program} (ts : Array TypeId) (t : TypeId) (k : IntKind) (x y : Int) (w : World) : (Builtin.max_ ts t #[.int k x, .int k y]).run P w = .ok (.int k (max x y)) w := by
  simp [Builtin.max_, Builtin.max2]
  simp only [Int.max_def]
  (repeat' split) <;> first | rfl | omega
theorem ask_bad (xs : List DLock) (txn id mode hf : Int) (hhf : hf = locksFault xs) (hok : ¬ askOK xs txn id mode = true) : (hf != 0) = true ∨ ((hf != 0) = false ∧ (inR id 0 511 = false ∨ inR id 0 511 = true ∧ (inR txn 1 2147483647 = false ∨ inR txn 1 2147483647 = true ∧ inR mode 1 2 = false))) := by
  by_cases h0 : hf = 0
  · right
    refine ⟨by simp [h0], ?_⟩
    rw [hhf] at h0
    simp only [askOK, h0, decide_true, Bool.true_and, Bool.and_eq_true, not_and, Bool.not_eq_true] at hok
    cases h1 : inR id 0 511
    · exact .inl rfl
    cases h2 : inR txn 1 2147483647
    · exact .inr ⟨rfl, .inl rfl⟩
    cases h3 : inR mode 1 2
    · exact .inr ⟨rfl, .inr ⟨rfl, rfl⟩⟩
    rw [h1, h2, h3] at hok
    simp at hok
  · exact .inl (by simp [h0])
set_option maxRecDepth 100000 in
set_option maxHeartbeats 6000000 in
theorem implLockAsk_go (A : Option Addr) (c : Nat) (xs : List DLock) (F : List Nat) (w : World) (h : Rep.Lock.sl w A c xs F) (txn id mode : Int) (hok : askOK xs txn id mode = true) :
    Calls Try.prog 11 #[.slice A xs.length c, .int .i64 txn, .int .i64 id, .int .i64 mode] w (NewPost Rep.LockResult (lockAsk xs txn id mode) w) := by
  have hu := Try.underlying63
  have hu2 := Try.underlying26
  have hk := hok
  simp only [askOK, Bool.and_eq_true, decide_eq_true_eq] at hk
  obtain ⟨⟨⟨k1, k2⟩, k3⟩, k4⟩ := hk
  obtain ⟨hlen, hall, -, -⟩ := locksFault_parts k1
  obtain ⟨R, hR⟩ : ∃ R, R = lockAsk xs txn id mode := ⟨_, rfl⟩
  obtain ⟨own, hown⟩ : ∃ own, own = modeL xs txn id false := ⟨_, rfl⟩
  obtain ⟨oth, hoth⟩ : ∃ oth, oth = modeL xs txn id true := ⟨_, rfl⟩
  have hways := ask_ways xs txn id mode own oth hown hoth hok
  rw [← hR] at hways ⊢
  have hor := modeL_range txn id false hall
  rw [← hown] at hor
  have HF0 := Lib.hid k1; have HMI := Lib.hid hown; have HTI := Lib.hid hoth
  have K2 := Lib.hid (inR_iff.1 k2); have K3 := Lib.hid (inR_iff.1 k3); have K4 := Lib.hid (inR_iff.1 k4); have HOR := Lib.hid hor
  have hwn : wfLock ⟨id, txn, max own mode⟩ := by
    have h2 := K2.out; have h3 := K3.out; have h4 := K4.out; have h5 := HOR.out
    exact ⟨WalkArith.wf_i64 (by dsimp only; omega), WalkArith.wf_i64 (by dsimp only; omega), WalkArith.wf_i64 (by dsimp only; omega)⟩
  rw [askPut_is] at hways
  obtain ⟨mx, hmx⟩ : ∃ mx, mx = max own mode := ⟨_, rfl⟩
  rw [← hmx] at hways hwn
  have hmx2 := fun (ts : Array TypeId) (t : TypeId) (W : World) => run_max2 (P := Try.prog) ts t .i64 own mode W
  rw [← hmx] at hmx2
  have HWN := Lib.hid hwn
  have hE0 : Ext w (((w.alloc (.cells #[.int .i64 txn] 2)).alloc (.cells #[.int .i64 id] 2)).alloc (.cells #[.int .i64 0, .slice none 0 0] 26)) := ((alloc_ext w _).alloc _).alloc _
  have hB1 : (((w.alloc (.cells #[.int .i64 txn] 2)).alloc (.cells #[.int .i64 id] 2)).alloc (.cells #[.int .i64 0, .slice none 0 0] 26)).heap[w.heap.size]? = some (.cells #[.int .i64 txn] 2 (0, 0)) := (alloc_ext ((w.alloc (.cells #[.int .i64 txn] 2)).alloc (.cells #[.int .i64 id] 2)) _).heap (heap_alloc2_old w _ _) (by simp)
  have hB2 : (((w.alloc (.cells #[.int .i64 txn] 2)).alloc (.cells #[.int .i64 id] 2)).alloc (.cells #[.int .i64 0, .slice none 0 0] 26)).heap[w.heap.size + 1]? = some (.cells #[.int .i64 id] 2 (0, 0)) := (alloc_ext ((w.alloc (.cells #[.int .i64 txn] 2)).alloc (.cells #[.int .i64 id] 2)) _).heap (heap_alloc2_new w _ _) (by simp)
  have hB3 : (((w.alloc (.cells #[.int .i64 txn] 2)).alloc (.cells #[.int .i64 id] 2)).alloc (.cells #[.int .i64 0, .slice none 0 0] 26)).heap[w.heap.size + 2]? = some (.cells #[.int .i64 0, .slice none 0 0] 26 (0, 0)) := heap_at ((w.alloc (.cells #[.int .i64 txn] 2)).alloc (.cells #[.int .i64 id] 2)) _ (by simp)
  have hsz0 : (((w.alloc (.cells #[.int .i64 txn] 2)).alloc (.cells #[.int .i64 id] 2)).alloc (.cells #[.int .i64 0, .slice none 0 0] 26)).heap.size = w.heap.size + 3 := by simp
  have ct : (((w.alloc (.cells #[.int .i64 txn] 2)).alloc (.cells #[.int .i64 id] 2)).alloc (.cells #[.int .i64 0, .slice none 0 0] 26)).cell? ⟨w.heap.size, 0, none⟩ = some (.int .i64 txn) := cell_of_row _ _ 0 _ _ _ hB1
  have ci : (((w.alloc (.cells #[.int .i64 txn] 2)).alloc (.cells #[.int .i64 id] 2)).alloc (.cells #[.int .i64 0, .slice none 0 0] 26)).cell? ⟨w.heap.size + 1, 0, none⟩ = some (.int .i64 id) := cell_of_row _ _ 0 _ _ _ hB2
  have H := Lib.hid (Rep.sl_ext h hE0); have HE0 := Lib.hid hE0; have HB := Lib.hid hB3; have HSZ0 := Lib.hid hsz0; have HCT := Lib.hid ct; have HCI := Lib.hid ci
  clear hE0 hB1 hB2 hB3 hsz0
  clear hR hown hoth hok h hall k1 hor hmx hwn K2 K3 K4 HOR
  rcases hways with ⟨q1, q2, q3⟩ | ⟨hA, ⟨q4, q3⟩ | ⟨q4, q5, q6, q7, q3⟩ | ⟨hC, q3⟩⟩
  rotate_right
  · have HA := Lib.hid hA; have HC := Lib.hid hC
    clear hA hC
    have HQ := Lib.hid q3
    clear q3
    go_enter Try.func11, Try.ntmps11
    go_wp2_with fail
    generalize (((w.alloc (.cells #[.int .i64 txn] 2)).alloc (.cells #[.int .i64 id] 2)).alloc (.cells #[.int .i64 0, .slice none 0 0] 26)) = W0 at *
    refine (implLocksFault_calls _ _ _ _ _ H.out).mono ?_
    rw [HF0.out]
    rintro e w1 ⟨rfl, hO⟩
    have HE1 := Lib.hid hO
    have ct1 := hO.ecell ct; have ci1 := hO.ecell ci
    clear hO ct ci
    go_wp2_with (first | (go_at_call 43; refine (implIn_calls _ _ _ _).mono ?_; rintro e w9 ⟨rfl, rfl⟩) | fail)
    refine (lockMode_calls _ _ _ _ _ (Rep.sl_ext H.out HE1.out) txn id false).mono ?_
    rw [← HMI.out]
    rintro e w2 ⟨rfl, hO⟩
    have HE2 := Lib.hid (HE1.out.ext hO)
    have ct2 := hO.ecell ct1; have ci2 := hO.ecell ci1
    clear hO ct1 ci1
    go_upto_region 4 with fail
    go_cut [42] from 36 to 42 (fun s42 wx => s42 = .bool false ∧ w2 = wx)
    case first =>
      rcases HA.out with ⟨q1, q2⟩ | q1
      all_goals
        go_wp2_with fail
        go_meet
        exact ⟨rfl, rfl⟩
    case rest =>
      obtain ⟨rfl, rfl⟩ := hcut
      go_wp2_with fail
      refine (lockMode_calls _ _ _ _ _ (Rep.sl_ext H.out HE2.out) txn id true).mono ?_
      rw [← HTI.out]
      rintro e w3 ⟨rfl, hO⟩
      have HE3 := Lib.hid (HE2.out.ext hO)
      have ct3 := hO.ecell ct2; have ci3 := hO.ecell ci2
      clear hO ct2 ci2
      go_upto_region 7 with fail
      go_cut [57] from 48 to 57 (fun s57 wx => s57 = .bool false ∧ w3 = wx)
      case first =>
        rcases HC.out with ⟨q4, q5, q6⟩ | ⟨q4, q5, q6, q7⟩
        all_goals
          go_wp2_with fail
          go_meet
          exact ⟨rfl, rfl⟩
      case rest =>
        obtain ⟨rfl, rfl⟩ := hcut
        go_wp2_with fail
        refine (lockClone_calls A c xs F w3 (Rep.sl_ext H.out HE3.out) (by omega)).mono ?_
        rintro e w4 ⟨v4, rfl, hown4, hO4⟩
        have hf4 := hown4.form
        have HOWN4 := Lib.hid hown4; have HO4 := Lib.hid hO4
        clear hown4 hO4
        have hsw : w.heap.size + 3 ≤ w3.heap.size := by have h1 := HE3.out.size; have h2 := HSZ0.out; omega
        obtain ⟨F4, hF4⟩ : ∃ F4 : List Nat, F4 = v4.ownBlock.toList := ⟨_, rfl⟩
        have hF4m : ∀ g ∈ F4, w3.heap.size ≤ g ∧ g < w4.heap.size := by
          intro g hg
          rw [hF4] at hg
          exact (own_locks_inv HOWN4.out).2.lt g (by simpa using hg)
        have hdel := lockDelete_calls 47 #[.pointer (some ⟨w.heap.size + 1, 0, none⟩), .pointer (some ⟨w.heap.size, 0, none⟩)] (isKey txn id) (enters_of Try.func47 (by kernel_rfl) rfl) w4 w3.heap.size v4 xs HOWN4.out F4 (fun g hg => by rw [hF4, hg]; simp) (fun g hg => (hF4m g hg).2)
          (fun x W hW => lockIs_calls x W (w.heap.size + 1) w.heap.size txn id (hW.cell (HO4.out.ecell (HE3.out.ecell HCI.out)) (fun hg => by have := (hF4m _ hg).1; dsimp only at this; omega)) (hW.cell (HO4.out.ecell (HE3.out.ecell HCT.out)) (fun hg => by have := (hF4m _ hg).1; dsimp only at this; omega)))
        have HDEL := Lib.hid hdel; have HF4 := Lib.hid hF4; have HF4M := Lib.hid hF4m
        clear hdel hF4 hF4m ct3 ci3
        obtain ⟨A4, c4, rfl, -⟩ := hf4
        go_wp2_with fail
        refine HDEL.out.mono ?_
        rintro e w5 ⟨v5, rfl, hown5, hb5, hO5⟩
        clear HDEL
        have hE5 : Ext w3 w5 := HO4.out.then_ hO5 (fun g hg hlt => by have := (HF4M.out g hg).1; omega)
        have hyl : (xs.filter (fun l => !isKey txn id l)).length ≤ 4096 := Nat.le_trans (List.length_filter_le _ _) hlen
        have hre := HQ.out
        generalize (xs.filter (fun l => !isKey txn id l)) = ys at *
        have HRE2 := Lib.hid hre
        obtain ⟨A5, c5, rfl, hc5⟩ := hown5.form
        obtain ⟨FF5, ⟨_, ⟨A9, c9, hcs9, hsl5⟩, hval9⟩, -⟩ := hown5.done
        obtain ⟨e9, e8⟩ : A9 = A5 ∧ c9 = c5 := by
          subst hcs9
          change Value.slice A5 ys.length c5 = Value.slice A9 ys.length c9 at hval9
          injection hval9 with q1 q2 q3
          exact ⟨q1.symm, q3.symm⟩
        rw [e9, e8] at hsl5
        clear e9 e8 hcs9 hval9
        have ct5 := hE5.ecell (HE3.out.ecell HCT.out); have ci5 := hE5.ecell (HE3.out.ecell HCI.out)
        obtain ⟨F5, hF5⟩ : ∃ F5 : List Nat, F5 = (Value.ownBlock (.slice A5 ys.length c5)).toList := ⟨_, rfl⟩
        have HF5 := Lib.hid (show (∀ g, Value.ownBlock (.slice A5 ys.length c5) = some g → g ∈ F5) ∧ ∀ g ∈ F5, w3.heap.size ≤ g ∧ g < w5.heap.size from
          ⟨fun g hg => by rw [hF5, hg]; simp, fun g hg => by rw [hF5] at hg; exact (own_locks_inv hown5).2.lt g (by simpa using hg)⟩)
        have HOWN5 := Lib.hid hown5; have HE5 := Lib.hid hE5; have HSL5 := Lib.hid hsl5; have HFB := Lib.hid hb5
        clear hF5 hown5 hE5 hsl5 hb5 hO5 hre HQ
        go_wp2
        go_loopg [12] (ys.length) (fun m i wr => ∃ k : Nat, m + k = ys.length ∧ i = .int .i64 k ∧ Ext w5 wr ∧ ∀ j (hj : j < ys.length), j < k → before txn id ys[j] = true)
        case atStart => exact ⟨0, by simp, rfl, Only.refl _ _, fun j hj h => absurd h (Nat.not_lt_zero _)⟩
        case round =>
          obtain ⟨k, hmk, rfl, hE, hup⟩ := hrel
          have HE := Lib.hid hE; have HUP := Lib.hid hup; have HMK := Lib.hid hmk
          have ctr := hE.ecell ct5; have cir := hE.ecell ci5
          clear hE hup hmk
          have hfin : k ≤ ys.length → (∀ h : k < ys.length, before txn id ys[k] = false) → R = ⟨0, ys.take k ++ ⟨id, txn, mx⟩ :: ys.drop k⟩ := by
            intro hk hend
            obtain ⟨e1, e2⟩ := while_at (before txn id) ys k hk (fun j hj hjk => HUP.out j hj hjk) (fun h => hend h)
            rw [HRE2.out, e1, e2]
          by_cases hlt : k < ys.length
          · obtain ⟨g, off, rfl, hg, -, a0, a1, a2⟩ := sl_Lock (Rep.sl_ext HSL5.out HE.out) k hlt
            have i1 : (k : Int) < (ys.length : Int) := by omega
            have HUP2 := Lib.hid (show before txn id ys[k] = true → ∀ j (hj : j < ys.length), j < k + 1 → before txn id ys[j] = true by
              intro hc j hj hjk
              by_cases he : j = k
              · subst he; exact hc
              · exact HUP.out j hj (by omega))
            have HFK := Lib.hid (fun hc : before txn id ys[k] = false => hfin (by omega) (fun _ => hc))
            have hkl : k ≤ ys.length := by omega
            clear hfin
            generalize ys[k] = x at *
            have hcs : (decide (x.Id < id) = true ∧ before txn id x = true) ∨ (decide (x.Id < id) = false ∧ (x.Id == id) = true ∧ decide (x.Txn < txn) = true ∧ before txn id x = true) ∨ (decide (x.Id < id) = false ∧ (x.Id == id) = true ∧ decide (x.Txn < txn) = false ∧ before txn id x = false) ∨ (decide (x.Id < id) = false ∧ (x.Id == id) = false ∧ before txn id x = false) := by
              by_cases a : x.Id < id
              · exact .inl ⟨by simp [a], by simp [before, a]⟩
              · by_cases b : x.Id = id
                · by_cases d : x.Txn < txn
                  · exact .inr (.inl ⟨by simp [a], by simp [b], by simp [d], by simp [before, b, d]⟩)
                  · exact .inr (.inr (.inl ⟨by simp [a], by simp [b], by simp [d], by simp [before, b, d]⟩))
                · exact .inr (.inr (.inr ⟨by simp [a], by simp [b], by simp [before, a, b]⟩))
            rcases hcs with ⟨z1, hb⟩ | ⟨z1, z2, z3, hb⟩ | ⟨z1, z2, z3, hb⟩ | ⟨z1, z2, hb⟩
            · have HB2 := Lib.hid (HUP2.out hb)
              clear HUP2 HFK hb
              go_wp2_with fail
              refine region_ext (by kernel_rfl) (by kernel_rfl) ?_
              repeat (first
                | (refine WQ.skip (by rfl) ?_
                   try simp only [Act.put, List.setIfInBounds_toArray, List.set_cons_zero, List.set_cons_succ])
                | (refine WQ.take ?_ (by rfl) (fun w' hw => ?_) ?_
                   rotate_left
                   · have cq0 := hw.ecell a0
                     have cq1 := hw.ecell a1
                     have cq2 := hw.ecell ctr
                     have cq3 := hw.ecell cir
                     unfold Oper.quietAt
                     go_simp
                     first
                       | done
                       | exact ⟨rfl, rfl⟩
                       | exact rfl
                   try simp only [Act.put, List.setIfInBounds_toArray, List.set_cons_zero, List.set_cons_succ]))
              refine WQ.nil ?_
              intro wq hw2
              have HE2 := Lib.hid (HE.out.ext hw2)
              clear hw2 a0 a1 a2 ctr cir
              go_wp2
              go_roundg (ys.length - (k + 1))
              case measure => have := HMK.out; omega
              case rel => exact ⟨k + 1, by have := HMK.out; omega, by go_num, HE2.out, HB2.out⟩
            · have HB2 := Lib.hid (HUP2.out hb)
              clear HUP2 HFK hb
              go_wp2_with fail
              refine region_ext (by kernel_rfl) (by kernel_rfl) ?_
              repeat (first
                | (refine WQ.skip (by rfl) ?_
                   try simp only [Act.put, List.setIfInBounds_toArray, List.set_cons_zero, List.set_cons_succ])
                | (refine WQ.take ?_ (by rfl) (fun w' hw => ?_) ?_
                   rotate_left
                   · have cq0 := hw.ecell a0
                     have cq1 := hw.ecell a1
                     have cq2 := hw.ecell ctr
                     have cq3 := hw.ecell cir
                     unfold Oper.quietAt
                     go_simp
                     first
                       | done
                       | exact ⟨rfl, rfl⟩
                       | exact rfl
                   try simp only [Act.put, List.setIfInBounds_toArray, List.set_cons_zero, List.set_cons_succ]))
              refine WQ.nil ?_
              intro wq hw2
              have HE2 := Lib.hid (HE.out.ext hw2)
              clear hw2 a0 a1 a2 ctr cir
              go_wp2
              go_roundg (ys.length - (k + 1))
              case measure => have := HMK.out; omega
              case rel => exact ⟨k + 1, by have := HMK.out; omega, by go_num, HE2.out, HB2.out⟩
            · have HRK := Lib.hid (HFK.out hb)
              clear HUP2 HFK hb
              go_wp2_with fail
              refine region_ext (by kernel_rfl) (by kernel_rfl) ?_
              repeat (first
                | (refine WQ.skip (by rfl) ?_
                   try simp only [Act.put, List.setIfInBounds_toArray, List.set_cons_zero, List.set_cons_succ])
                | (refine WQ.take ?_ (by rfl) (fun w' hw => ?_) ?_
                   rotate_left
                   · have cq0 := hw.ecell a0
                     have cq1 := hw.ecell a1
                     have cq2 := hw.ecell ctr
                     have cq3 := hw.ecell cir
                     unfold Oper.quietAt
                     go_simp
                     first
                       | done
                       | exact ⟨rfl, rfl⟩
                       | exact rfl
                   try simp only [Act.put, List.setIfInBounds_toArray, List.set_cons_zero, List.set_cons_succ]))
              refine WQ.nil ?_
              intro wq hw2
              have HE2 := Lib.hid (HE.out.ext hw2)
              have ct6 := hw2.ecell ctr; have ci6 := hw2.ecell cir
              clear hw2 a0 a1 a2 ctr cir
              have hEA := HE2.out.alloc (.cells #[.int .i64 id, .int .i64 txn, .int .i64 mx] 63)
              have hins := lockInsert_calls (wq.alloc (.cells #[.int .i64 id, .int .i64 txn, .int .i64 mx] 63)) w3.heap.size _ ys (HOWN5.out.ext hEA) (by omega) _ hkl ⟨id, txn, mx⟩ HWN.out wq.heap.size (heap_alloc_new wq _) (fun g hg he => by have h1 := HF5.out.2 g (HF5.out.1 g hg); have h2 := HE2.out.size; omega) F5 HF5.out.1
              have HINS := Lib.hid hins; have HEA := Lib.hid hEA
              clear hins hEA
              go_wp2_with fail
              refine HINS.out.mono ?_
              rintro e w7 ⟨v7, rfl, hown7, hO7⟩
              have HE7 := Lib.hid (show Ext w3 w7 from (HE5.out.ext HEA.out).then_ hO7 (fun g hg hlt => by
                have h1 := HF5.out.2 g hg
                omega))
              have m2 := fun o => cell_of_row _ _ o _ _ _ (HE7.out.heap (HE3.out.heap HB.out (by simp)) (by simp))
              have f2 := fun o => frozen_of_row _ _ o _ _ (HE7.out.heap (HE3.out.heap HB.out (by simp)) (by simp))
              obtain ⟨A7, c7, hv7, -⟩ := hown7.form
              have hl7 : (ys.take k ++ (⟨id, txn, mx⟩ : DLock) :: ys.drop k).length = ys.length + 1 := by first | (simp; omega) | simp
              rw [hl7] at hv7
              subst hv7
              clear hl7
              have HOWN7 := Lib.hid hown7
              clear hown7 hO7 HINS
              go_wp2
              refine bodyPost_ret (v := .agg #[.int .i64 0, .slice A7 (ys.length + 1) c7]) (by simp [results, Try.results11, go_sem, m2]) rfl ?_
              rw [HRK.out]
              refine lockRes_own (n := w3.heap.size) ((HOWN7.out.keep (H := [w.heap.size + 2]) (by repeat (first | with_reducible exact Only.refl _ _ | ((with_reducible apply Only.set); · first | (simp; done) | exact fun hq => absurd hq (by dsimp only; omega)))) (by simp; omega))) (by omega) (by repeat (first | with_reducible exact (HE0.out.ext (HE3.out.ext HE7.out)) | ((with_reducible apply Only.set); · first | (simp; done) | exact fun hq => absurd hq (by dsimp only; omega))))
            · have HRK := Lib.hid (HFK.out hb)
              clear HUP2 HFK hb
              go_wp2_with fail
              refine region_ext (by kernel_rfl) (by kernel_rfl) ?_
              repeat (first
                | (refine WQ.skip (by rfl) ?_
                   try simp only [Act.put, List.setIfInBounds_toArray, List.set_cons_zero, List.set_cons_succ])
                | (refine WQ.take ?_ (by rfl) (fun w' hw => ?_) ?_
                   rotate_left
                   · have cq0 := hw.ecell a0
                     have cq1 := hw.ecell a1
                     have cq2 := hw.ecell ctr
                     have cq3 := hw.ecell cir
                     unfold Oper.quietAt
                     go_simp
                     first
                       | done
                       | exact ⟨rfl, rfl⟩
                       | exact rfl
                   try simp only [Act.put, List.setIfInBounds_toArray, List.set_cons_zero, List.set_cons_succ]))
              refine WQ.nil ?_
              intro wq hw2
              have HE2 := Lib.hid (HE.out.ext hw2)
              have ct6 := hw2.ecell ctr; have ci6 := hw2.ecell cir
              clear hw2 a0 a1 a2 ctr cir
              have hEA := HE2.out.alloc (.cells #[.int .i64 id, .int .i64 txn, .int .i64 mx] 63)
              have hins := lockInsert_calls (wq.alloc (.cells #[.int .i64 id, .int .i64 txn, .int .i64 mx] 63)) w3.heap.size _ ys (HOWN5.out.ext hEA) (by omega) _ hkl ⟨id, txn, mx⟩ HWN.out wq.heap.size (heap_alloc_new wq _) (fun g hg he => by have h1 := HF5.out.2 g (HF5.out.1 g hg); have h2 := HE2.out.size; omega) F5 HF5.out.1
              have HINS := Lib.hid hins; have HEA := Lib.hid hEA
              clear hins hEA
              go_wp2_with fail
              refine HINS.out.mono ?_
              rintro e w7 ⟨v7, rfl, hown7, hO7⟩
              have HE7 := Lib.hid (show Ext w3 w7 from (HE5.out.ext HEA.out).then_ hO7 (fun g hg hlt => by
                have h1 := HF5.out.2 g hg
                omega))
              have m2 := fun o => cell_of_row _ _ o _ _ _ (HE7.out.heap (HE3.out.heap HB.out (by simp)) (by simp))
              have f2 := fun o => frozen_of_row _ _ o _ _ (HE7.out.heap (HE3.out.heap HB.out (by simp)) (by simp))
              obtain ⟨A7, c7, hv7, -⟩ := hown7.form
              have hl7 : (ys.take k ++ (⟨id, txn, mx⟩ : DLock) :: ys.drop k).length = ys.length + 1 := by first | (simp; omega) | simp
              rw [hl7] at hv7
              subst hv7
              clear hl7
              have HOWN7 := Lib.hid hown7
              clear hown7 hO7 HINS
              go_wp2
              refine bodyPost_ret (v := .agg #[.int .i64 0, .slice A7 (ys.length + 1) c7]) (by simp [results, Try.results11, go_sem, m2]) rfl ?_
              rw [HRK.out]
              refine lockRes_own (n := w3.heap.size) ((HOWN7.out.keep (H := [w.heap.size + 2]) (by repeat (first | with_reducible exact Only.refl _ _ | ((with_reducible apply Only.set); · first | (simp; done) | exact fun hq => absurd hq (by dsimp only; omega)))) (by simp; omega))) (by omega) (by repeat (first | with_reducible exact (HE0.out.ext (HE3.out.ext HE7.out)) | ((with_reducible apply Only.set); · first | (simp; done) | exact fun hq => absurd hq (by dsimp only; omega))))
          · have hkk : k = ys.length := by have := HMK.out; omega
            have HRK := Lib.hid (hfin (by omega) (fun h => absurd h hlt))
            have hkl : k ≤ ys.length := by omega
            clear hfin
            subst hkk
            have ib : decide ((ys.length : Int) < (ys.length : Int)) = false := by simp
            clear HMK hlt HUP
            go_wp2_with fail
            refine region_ext (by kernel_rfl) (by kernel_rfl) ?_
            repeat (first
              | (refine WQ.skip (by rfl) ?_
                 try simp only [Act.put, List.setIfInBounds_toArray, List.set_cons_zero, List.set_cons_succ])
              | (refine WQ.take ?_ (by rfl) (fun w' hw => ?_) ?_
                 rotate_left
                 · have cq0 := hw.ecell ctr
                   have cq1 := hw.ecell cir
                   unfold Oper.quietAt
                   go_simp
                   first
                     | done
                     | exact ⟨rfl, rfl⟩
                     | exact rfl
                 try simp only [Act.put, List.setIfInBounds_toArray, List.set_cons_zero, List.set_cons_succ]))
            refine WQ.nil ?_
            intro wq hw2
            have HE2 := Lib.hid (HE.out.ext hw2)
            have ct6 := hw2.ecell ctr; have ci6 := hw2.ecell cir
            clear hw2 ctr cir
            have hEA := HE2.out.alloc (.cells #[.int .i64 id, .int .i64 txn, .int .i64 mx] 63)
            have hins := lockInsert_calls (wq.alloc (.cells #[.int .i64 id, .int .i64 txn, .int .i64 mx] 63)) w3.heap.size _ ys (HOWN5.out.ext hEA) (by omega) _ hkl ⟨id, txn, mx⟩ HWN.out wq.heap.size (heap_alloc_new wq _) (fun g hg he => by have h1 := HF5.out.2 g (HF5.out.1 g hg); have h2 := HE2.out.size; omega) F5 HF5.out.1
            have HINS := Lib.hid hins; have HEA := Lib.hid hEA
            clear hins hEA
            go_wp2_with fail
            refine HINS.out.mono ?_
            rintro e w7 ⟨v7, rfl, hown7, hO7⟩
            have HE7 := Lib.hid (show Ext w3 w7 from (HE5.out.ext HEA.out).then_ hO7 (fun g hg hlt => by
              have h1 := HF5.out.2 g hg
              omega))
            have m2 := fun o => cell_of_row _ _ o _ _ _ (HE7.out.heap (HE3.out.heap HB.out (by simp)) (by simp))
            have f2 := fun o => frozen_of_row _ _ o _ _ (HE7.out.heap (HE3.out.heap HB.out (by simp)) (by simp))
            obtain ⟨A7, c7, hv7, -⟩ := hown7.form
            have hl7 : (ys.take ys.length ++ (⟨id, txn, mx⟩ : DLock) :: ys.drop ys.length).length = ys.length + 1 := by first | (simp; omega) | simp
            rw [hl7] at hv7
            subst hv7
            clear hl7
            have HOWN7 := Lib.hid hown7
            clear hown7 hO7 HINS
            go_wp2
            refine bodyPost_ret (v := .agg #[.int .i64 0, .slice A7 (ys.length + 1) c7]) (by simp [results, Try.results11, go_sem, m2]) rfl ?_
            rw [HRK.out]
            refine lockRes_own (n := w3.heap.size) ((HOWN7.out.keep (H := [w.heap.size + 2]) (by repeat (first | with_reducible exact Only.refl _ _ | ((with_reducible apply Only.set); · first | (simp; done) | exact fun hq => absurd hq (by dsimp only; omega)))) (by simp; omega))) (by omega) (by repeat (first | with_reducible exact (HE0.out.ext (HE3.out.ext HE7.out)) | ((with_reducible apply Only.set); · first | (simp; done) | exact fun hq => absurd hq (by dsimp only; omega))))
  · have HQ := Lib.hid q3
    clear q3
    go_enter Try.func11, Try.ntmps11
    go_wp2_with fail
    generalize (((w.alloc (.cells #[.int .i64 txn] 2)).alloc (.cells #[.int .i64 id] 2)).alloc (.cells #[.int .i64 0, .slice none 0 0] 26)) = W0 at *
    refine (implLocksFault_calls _ _ _ _ _ H.out).mono ?_
    rw [HF0.out]
    rintro e w1 ⟨rfl, hO⟩
    have HE1 := Lib.hid hO
    have ct1 := hO.ecell ct; have ci1 := hO.ecell ci
    clear hO ct ci
    go_wp2_with (first | (go_at_call 43; refine (implIn_calls _ _ _ _).mono ?_; rintro e w9 ⟨rfl, rfl⟩) | fail)
    refine (lockMode_calls _ _ _ _ _ (Rep.sl_ext H.out HE1.out) txn id false).mono ?_
    rw [← HMI.out]
    rintro e w2 ⟨rfl, hO⟩
    have HE2 := Lib.hid (HE1.out.ext hO)
    have ct2 := hO.ecell ct1; have ci2 := hO.ecell ci1
    clear hO ct1 ci1
    have m2 := fun o => cell_of_row _ _ o _ _ _ (HE2.out.heap HB.out (by simp))
    have f2 := fun o => frozen_of_row _ _ o _ _ (HE2.out.heap HB.out (by simp))
    go_wp2
    refine bodyPost_ret (v := .agg #[.int .i64 2, .slice none 0 0]) (by simp [results, Try.results11, go_sem, m2]) rfl ?_
    rw [HQ.out]
    exact lockRes_code (by rfl) (by repeat (first | with_reducible exact (HE0.out.ext HE2.out) | ((with_reducible apply Only.set); · first | (simp; done) | exact fun hq => absurd hq (by dsimp only; omega))))
  all_goals rcases hA with ⟨q1, q2⟩ | q1
  · have HQ := Lib.hid q3
    clear q3
    go_enter Try.func11, Try.ntmps11
    go_wp2_with fail
    generalize (((w.alloc (.cells #[.int .i64 txn] 2)).alloc (.cells #[.int .i64 id] 2)).alloc (.cells #[.int .i64 0, .slice none 0 0] 26)) = W0 at *
    refine (implLocksFault_calls _ _ _ _ _ H.out).mono ?_
    rw [HF0.out]
    rintro e w1 ⟨rfl, hO⟩
    have HE1 := Lib.hid hO
    have ct1 := hO.ecell ct; have ci1 := hO.ecell ci
    clear hO ct ci
    go_wp2_with (first | (go_at_call 43; refine (implIn_calls _ _ _ _).mono ?_; rintro e w9 ⟨rfl, rfl⟩) | fail)
    refine (lockMode_calls _ _ _ _ _ (Rep.sl_ext H.out HE1.out) txn id false).mono ?_
    rw [← HMI.out]
    rintro e w2 ⟨rfl, hO⟩
    have HE2 := Lib.hid (HE1.out.ext hO)
    have ct2 := hO.ecell ct1; have ci2 := hO.ecell ci1
    clear hO ct1 ci1
    go_wp2_with fail
    refine (lockMode_calls _ _ _ _ _ (Rep.sl_ext H.out HE2.out) txn id true).mono ?_
    rw [← HTI.out]
    rintro e w3 ⟨rfl, hO⟩
    have HE3 := Lib.hid (HE2.out.ext hO)
    have ct3 := hO.ecell ct2; have ci3 := hO.ecell ci2
    clear hO ct2 ci2
    have m2 := fun o => cell_of_row _ _ o _ _ _ (HE3.out.heap HB.out (by simp))
    have f2 := fun o => frozen_of_row _ _ o _ _ (HE3.out.heap HB.out (by simp))
    go_wp2
    refine bodyPost_ret (v := .agg #[.int .i64 1, .slice none 0 0]) (by simp [results, Try.results11, go_sem, m2]) rfl ?_
    rw [HQ.out]
    exact lockRes_code (by rfl) (by repeat (first | with_reducible exact (HE0.out.ext HE3.out) | ((with_reducible apply Only.set); · first | (simp; done) | exact fun hq => absurd hq (by dsimp only; omega))))
  · have HQ := Lib.hid q3
    clear q3
    go_enter Try.func11, Try.ntmps11
    go_wp2_with fail
    generalize (((w.alloc (.cells #[.int .i64 txn] 2)).alloc (.cells #[.int .i64 id] 2)).alloc (.cells #[.int .i64 0, .slice none 0 0] 26)) = W0 at *
    refine (implLocksFault_calls _ _ _ _ _ H.out).mono ?_
    rw [HF0.out]
    rintro e w1 ⟨rfl, hO⟩
    have HE1 := Lib.hid hO
    have ct1 := hO.ecell ct; have ci1 := hO.ecell ci
    clear hO ct ci
    go_wp2_with (first | (go_at_call 43; refine (implIn_calls _ _ _ _).mono ?_; rintro e w9 ⟨rfl, rfl⟩) | fail)
    refine (lockMode_calls _ _ _ _ _ (Rep.sl_ext H.out HE1.out) txn id false).mono ?_
    rw [← HMI.out]
    rintro e w2 ⟨rfl, hO⟩
    have HE2 := Lib.hid (HE1.out.ext hO)
    have ct2 := hO.ecell ct1; have ci2 := hO.ecell ci1
    clear hO ct1 ci1
    go_wp2_with fail
    refine (lockMode_calls _ _ _ _ _ (Rep.sl_ext H.out HE2.out) txn id true).mono ?_
    rw [← HTI.out]
    rintro e w3 ⟨rfl, hO⟩
    have HE3 := Lib.hid (HE2.out.ext hO)
    have ct3 := hO.ecell ct2; have ci3 := hO.ecell ci2
    clear hO ct2 ci2
    have m2 := fun o => cell_of_row _ _ o _ _ _ (HE3.out.heap HB.out (by simp))
    have f2 := fun o => frozen_of_row _ _ o _ _ (HE3.out.heap HB.out (by simp))
    go_wp2
    refine bodyPost_ret (v := .agg #[.int .i64 1, .slice none 0 0]) (by simp [results, Try.results11, go_sem, m2]) rfl ?_
    rw [HQ.out]
    exact lockRes_code (by rfl) (by repeat (first | with_reducible exact (HE0.out.ext HE3.out) | ((with_reducible apply Only.set); · first | (simp; done) | exact fun hq => absurd hq (by dsimp only; omega))))
  · have HQ := Lib.hid q3
    clear q3
    go_enter Try.func11, Try.ntmps11
    go_wp2_with fail
    generalize (((w.alloc (.cells #[.int .i64 txn] 2)).alloc (.cells #[.int .i64 id] 2)).alloc (.cells #[.int .i64 0, .slice none 0 0] 26)) = W0 at *
    refine (implLocksFault_calls _ _ _ _ _ H.out).mono ?_
    rw [HF0.out]
    rintro e w1 ⟨rfl, hO⟩
    have HE1 := Lib.hid hO
    have ct1 := hO.ecell ct; have ci1 := hO.ecell ci
    clear hO ct ci
    go_wp2_with (first | (go_at_call 43; refine (implIn_calls _ _ _ _).mono ?_; rintro e w9 ⟨rfl, rfl⟩) | fail)
    refine (lockMode_calls _ _ _ _ _ (Rep.sl_ext H.out HE1.out) txn id false).mono ?_
    rw [← HMI.out]
    rintro e w2 ⟨rfl, hO⟩
    have HE2 := Lib.hid (HE1.out.ext hO)
    have ct2 := hO.ecell ct1; have ci2 := hO.ecell ci1
    clear hO ct1 ci1
    go_wp2_with fail
    refine (lockMode_calls _ _ _ _ _ (Rep.sl_ext H.out HE2.out) txn id true).mono ?_
    rw [← HTI.out]
    rintro e w3 ⟨rfl, hO⟩
    have HE3 := Lib.hid (HE2.out.ext hO)
    have ct3 := hO.ecell ct2; have ci3 := hO.ecell ci2
    clear hO ct2 ci2
    have m2 := fun o => cell_of_row _ _ o _ _ _ (HE3.out.heap HB.out (by simp))
    have f2 := fun o => frozen_of_row _ _ o _ _ (HE3.out.heap HB.out (by simp))
    go_wp2
    refine bodyPost_ret (v := .agg #[.int .i64 1, .slice none 0 0]) (by simp [results, Try.results11, go_sem, m2]) rfl ?_
    rw [HQ.out]
    exact lockRes_code (by rfl) (by repeat (first | with_reducible exact (HE0.out.ext HE3.out) | ((with_reducible apply Only.set); · first | (simp; done) | exact fun hq => absurd hq (by dsimp only; omega))))
  · have HQ := Lib.hid q3
    clear q3
    go_enter Try.func11, Try.ntmps11
    go_wp2_with fail
    generalize (((w.alloc (.cells #[.int .i64 txn] 2)).alloc (.cells #[.int .i64 id] 2)).alloc (.cells #[.int .i64 0, .slice none 0 0] 26)) = W0 at *
    refine (implLocksFault_calls _ _ _ _ _ H.out).mono ?_
    rw [HF0.out]
    rintro e w1 ⟨rfl, hO⟩
    have HE1 := Lib.hid hO
    have ct1 := hO.ecell ct; have ci1 := hO.ecell ci
    clear hO ct ci
    go_wp2_with (first | (go_at_call 43; refine (implIn_calls _ _ _ _).mono ?_; rintro e w9 ⟨rfl, rfl⟩) | fail)
    refine (lockMode_calls _ _ _ _ _ (Rep.sl_ext H.out HE1.out) txn id false).mono ?_
    rw [← HMI.out]
    rintro e w2 ⟨rfl, hO⟩
    have HE2 := Lib.hid (HE1.out.ext hO)
    have ct2 := hO.ecell ct1; have ci2 := hO.ecell ci1
    clear hO ct1 ci1
    go_wp2_with fail
    refine (lockMode_calls _ _ _ _ _ (Rep.sl_ext H.out HE2.out) txn id true).mono ?_
    rw [← HTI.out]
    rintro e w3 ⟨rfl, hO⟩
    have HE3 := Lib.hid (HE2.out.ext hO)
    have ct3 := hO.ecell ct2; have ci3 := hO.ecell ci2
    clear hO ct2 ci2
    have m2 := fun o => cell_of_row _ _ o _ _ _ (HE3.out.heap HB.out (by simp))
    have f2 := fun o => frozen_of_row _ _ o _ _ (HE3.out.heap HB.out (by simp))
    go_wp2
    refine bodyPost_ret (v := .agg #[.int .i64 1, .slice none 0 0]) (by simp [results, Try.results11, go_sem, m2]) rfl ?_
    rw [HQ.out]
    exact lockRes_code (by rfl) (by repeat (first | with_reducible exact (HE0.out.ext HE3.out) | ((with_reducible apply Only.set); · first | (simp; done) | exact fun hq => absurd hq (by dsimp only; omega))))
set_option maxRecDepth 100000 in
set_option maxHeartbeats 1000000 in
theorem implLockAsk_new (w : World) (A : Option Addr) (c : Nat) (xs : List DLock) (F : List Nat) (h : Rep.Lock.sl w A c xs F) (txn : Int) (et : (Lit.int .i64 txn).wf = true) (id : Int) (ei : (Lit.int .i64 id).wf = true) (mode : Int) (em : (Lit.int .i64 mode).wf = true) (hs : xs.length ≤ 1048576) :
    Calls Try.prog 11 #[.slice A xs.length c, .int .i64 txn, .int .i64 id, .int .i64 mode] w (NewPost Rep.LockResult (lockAsk xs txn id mode) w) := by
  by_cases hok : askOK xs txn id mode = true
  · exact implLockAsk_go A c xs F w h txn id mode hok
  obtain ⟨R, hR⟩ : ∃ R, R = lockAsk xs txn id mode := ⟨_, rfl⟩
  have hRe : R = ⟨2, []⟩ := by rw [hR, lockAsk, if_pos (by simpa using hok)]
  rw [← hR]
  have HQ := Lib.hid hRe
  obtain ⟨hf, hhf⟩ : ∃ hf, hf = locksFault xs := ⟨_, rfl⟩
  have HF := Lib.hid hhf
  have hcs := ask_bad xs txn id mode hf hhf hok
  have hE0 : Ext w (((w.alloc (.cells #[.int .i64 txn] 2)).alloc (.cells #[.int .i64 id] 2)).alloc (.cells #[.int .i64 0, .slice none 0 0] 26)) := ((alloc_ext w _).alloc _).alloc _
  have hB1 : (((w.alloc (.cells #[.int .i64 txn] 2)).alloc (.cells #[.int .i64 id] 2)).alloc (.cells #[.int .i64 0, .slice none 0 0] 26)).heap[w.heap.size]? = some (.cells #[.int .i64 txn] 2 (0, 0)) := (alloc_ext ((w.alloc (.cells #[.int .i64 txn] 2)).alloc (.cells #[.int .i64 id] 2)) _).heap (heap_alloc2_old w _ _) (by simp)
  have hB2 : (((w.alloc (.cells #[.int .i64 txn] 2)).alloc (.cells #[.int .i64 id] 2)).alloc (.cells #[.int .i64 0, .slice none 0 0] 26)).heap[w.heap.size + 1]? = some (.cells #[.int .i64 id] 2 (0, 0)) := (alloc_ext ((w.alloc (.cells #[.int .i64 txn] 2)).alloc (.cells #[.int .i64 id] 2)) _).heap (heap_alloc2_new w _ _) (by simp)
  have hB3 : (((w.alloc (.cells #[.int .i64 txn] 2)).alloc (.cells #[.int .i64 id] 2)).alloc (.cells #[.int .i64 0, .slice none 0 0] 26)).heap[w.heap.size + 2]? = some (.cells #[.int .i64 0, .slice none 0 0] 26 (0, 0)) := heap_at ((w.alloc (.cells #[.int .i64 txn] 2)).alloc (.cells #[.int .i64 id] 2)) _ (by simp)
  have ct : (((w.alloc (.cells #[.int .i64 txn] 2)).alloc (.cells #[.int .i64 id] 2)).alloc (.cells #[.int .i64 0, .slice none 0 0] 26)).cell? ⟨w.heap.size, 0, none⟩ = some (.int .i64 txn) := cell_of_row _ _ 0 _ _ _ hB1
  have ci : (((w.alloc (.cells #[.int .i64 txn] 2)).alloc (.cells #[.int .i64 id] 2)).alloc (.cells #[.int .i64 0, .slice none 0 0] 26)).cell? ⟨w.heap.size + 1, 0, none⟩ = some (.int .i64 id) := cell_of_row _ _ 0 _ _ _ hB2
  have H := Lib.hid (Rep.sl_ext h hE0); have HE0 := Lib.hid hE0; have HB := Lib.hid hB3
  have hu2 := Try.underlying26
  clear hR hRe hok hhf hE0 hB1 hB2 hB3 h
  rcases hcs with h1 | ⟨h1, h2 | ⟨h2, h3 | ⟨h3, h4⟩⟩⟩
  all_goals
    go_enter Try.func11, Try.ntmps11
    go_wp2_with fail
    generalize (((w.alloc (.cells #[.int .i64 txn] 2)).alloc (.cells #[.int .i64 id] 2)).alloc (.cells #[.int .i64 0, .slice none 0 0] 26)) = W0 at *
    refine (implLocksFault_calls _ _ _ _ _ H.out).mono ?_
    rw [← HF.out]
    rintro e w1 ⟨rfl, hO⟩
    have HE1 := Lib.hid hO
    have ct1 := hO.ecell ct; have ci1 := hO.ecell ci
    have m2 := fun o => cell_of_row _ _ o _ _ _ (hO.heap HB.out (by simp))
    have f2 := fun o => frozen_of_row _ _ o _ _ (hO.heap HB.out (by simp))
    clear hO ct ci
    go_wp2_with (go_at_call 43; refine (implIn_calls _ _ _ _).mono ?_; rintro e w9 ⟨rfl, rfl⟩)
    refine bodyPost_ret (v := .agg #[.int .i64 2, .slice none 0 0]) (by simp [results, Try.results11, go_sem, m2]) rfl ?_
    rw [HQ.out]
    exact lockRes_code (by rfl) (by repeat (first | with_reducible exact (HE0.out.ext HE1.out) | ((with_reducible apply Only.set); · first | (simp; done) | exact fun hq => absurd hq (by dsimp only; omega))))
set_option maxRecDepth 100000 in
set_option maxHeartbeats 1000000 in
theorem specLockAsk_new (w : World) (A : Option Addr) (c : Nat) (xs : List DLock) (F : List Nat) (h : Rep.Lock.sl w A c xs F) (txn : Int) (et : (Lit.int .i64 txn).wf = true) (id : Int) (ei : (Lit.int .i64 id).wf = true) (mode : Int) (em : (Lit.int .i64 mode).wf = true) (hs : xs.length ≤ 1048576) :
    Calls Try.prog 9 #[.slice A xs.length c, .int .i64 txn, .int .i64 id, .int .i64 mode] w (NewPost Rep.LockResult (lockAsk xs txn id mode) w) := by
  by_cases hok : askOK xs txn id mode = true
  · exact specLockAsk_go A c xs F w h txn id mode hok
  obtain ⟨R, hR⟩ : ∃ R, R = lockAsk xs txn id mode := ⟨_, rfl⟩
  have hRe : R = ⟨2, []⟩ := by rw [hR, lockAsk, if_pos (by simpa using hok)]
  rw [← hR]
  have HQ := Lib.hid hRe
  obtain ⟨hf, hhf⟩ : ∃ hf, hf = locksFault xs := ⟨_, rfl⟩
  have HF := Lib.hid hhf
  have hcs := ask_bad xs txn id mode hf hhf hok
  have hE0 := alloc_ext w (.cells #[.int .i64 0, .slice none 0 0] 26)
  have hB := heap_alloc_new w (.cells #[.int .i64 0, .slice none 0 0] 26)
  have H := Lib.hid (Rep.sl_ext h hE0); have HE0 := Lib.hid hE0; have HB := Lib.hid hB
  have hu2 := Try.underlying26
  clear hR hRe hok hhf hE0 hB h
  rcases hcs with h1 | ⟨h1, h2 | ⟨h2, h3 | ⟨h3, h4⟩⟩⟩
  all_goals
    go_enter Try.func9, Try.ntmps9
    go_wp2_with fail
    generalize (w.alloc (.cells #[.int .i64 0, .slice none 0 0] 26)) = W0 at *
    refine (specLocksFault_calls _ _ _ _ _ H.out).mono ?_
    rw [← HF.out]
    rintro e w1 ⟨rfl, hO⟩
    have HE1 := Lib.hid hO
    have m2 := fun o => cell_of_row _ _ o _ _ _ (hO.heap HB.out (by simp))
    have f2 := fun o => frozen_of_row _ _ o _ _ (hO.heap HB.out (by simp))
    clear hO
    go_wp2_with (go_at_call 39; refine (specIn_calls _ _ _ _).mono ?_; rintro e w9 ⟨rfl, rfl⟩)
    refine bodyPost_ret (v := .agg #[.int .i64 2, .slice none 0 0]) (by simp [results, Try.results9, go_sem, m2]) rfl ?_
    rw [HQ.out]
    exact lockRes_code (by rfl) (by repeat (first | with_reducible exact (HE0.out.ext HE1.out) | ((with_reducible apply Only.set); · first | (simp; done) | exact fun hq => absurd hq (by dsimp only; omega))))
theorem specLockAsk_calls (w : World) (A : Option Addr) (c : Nat) (xs : List DLock) (F : List Nat) (h : Rep.Lock.sl w A c xs F) (txn : Int) (et : (Lit.int .i64 txn).wf = true) (id : Int) (ei : (Lit.int .i64 id).wf = true) (mode : Int) (em : (Lit.int .i64 mode).wf = true) (hs : xs.length ≤ 1048576) :
    Calls Try.prog 9 #[.slice A xs.length c, .int .i64 txn, .int .i64 id, .int .i64 mode] w fun e w' => ∃ v F, e = .returned v ∧ Rep.LockResult.V w' v (lockAsk xs txn id mode) F ∧ Ext w w' :=
  (specLockAsk_new w A c xs F h txn et id ei mode em hs).mono fun _ _ h => h.weak
theorem lockAsk_len (xs : List DLock) (txn id mode : Int) : (lockAsk xs txn id mode).Locks.length ≤ 4097 := by
  unfold lockAsk
  split
  · simp
  split
  · simp
  split
  · simp
  · rename_i hok _ _
    have hk : askOK xs txn id mode = true := by simpa using hok
    simp only [askOK, Bool.and_eq_true, decide_eq_true_eq] at hk
    have hl := (locksFault_parts hk.1.1.1).1
    rw [askPut_is]
    have h1 := List.length_filter_le (fun l : DLock => !isKey txn id l) xs
    have h2 : ((xs.filter (fun l => !isKey txn id l)).takeWhile (before txn id) ++ (xs.filter (fun l => !isKey txn id l)).dropWhile (before txn id)).length = (xs.filter (fun l => !isKey txn id l)).length := by rw [List.takeWhile_append_dropWhile]
    simp only [List.length_append, List.length_cons] at h2 ⊢
    omega
theorem lockAsk_ct (xs : List DLock) (txn id mode : Int) : ctTopLockResult (lockAsk xs txn id mode) ≤ 1152921504606846976 := by
  have h1 := ctTopLockResult_wt (lockAsk xs txn id mode)
  have h2 := lockAsk_len xs txn id mode
  simp only [wtLockResult] at h1
  omega
end Go.Proofs.Ytildfjlekplgjaa
