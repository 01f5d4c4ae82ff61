/- The ledger: the reference's room left, room for; FreshId both. -/
import Derived.Test.YtildfjlekplgjaaR2
import Derived.Deep.RegionWith
namespace Go.Proofs.Ytildfjlekplgjaa
open Go.RowKit
set_option linter.unusedSimpArgs false
set_option linter.unusedVariables false
set_option maxRecDepth 100000 in
set_option maxHeartbeats 1000000 in
theorem specRoom_calls (A : Option Addr) (c : Nat) (L : List Int) (F : List Nat) (w : World) (h : (Rep.int .i64).sl w A c L F) (A2 : Option Addr) (c2 : Nat) (H : List DHold) (F2 : List Nat) (h2 : Rep.Hold.sl w A2 c2 H F2)
    (hL : lenOK L = true) (hH : holdsFault H = 0) (pg : Int) (hp0 : 0 ≤ pg) (hpl : pg * 32 + 32 ≤ L.length) :
    Calls Try.prog 78 #[.slice A L.length c, .slice A2 H.length c2, .int .i64 pg] w fun e w' => e = .returned (.bool true) ∧ Ext w w' := by
  have hlen := lenOK_parts hL
  have hin : inR pg 0 (((L.length : Int)) / 32 - 1) = true := inR_iff.2 (by omega)
  have hin2 : 0 ≤ ((L.length : Int)) / 32 - 1 ∧ ((L.length : Int)) / 32 ≤ 16 := by omega
  obtain ⟨hin2, hin3⟩ := hin2
  have HS := Lib.hid h; have HS2 := Lib.hid h2; have HL := Lib.hid hL; have HH := Lib.hid hH
  have hln : L.length ≤ 512 := hlen.2.2.1
  clear h h2 hL hH hlen
  go_enter Try.func78, Try.ntmps78
  go_wp2_with fail
  refine (specLengths_calls _ _ _ _ _ HS.out).mono ?_
  rw [HL.out]
  rintro e w1 ⟨rfl, hO⟩
  have HE1 := Lib.hid hO
  clear hO
  go_wp2_with fail
  refine (specHoldsFault_calls _ _ _ _ _ (Rep.sl_ext HS2.out HE1.out)).mono ?_
  rw [HH.out]
  rintro e w2 ⟨rfl, hO⟩
  have HE2 := Lib.hid (HE1.out.ext hO)
  clear hO
  go_wp2_with (go_at_call 39; refine (specIn_calls _ _ _ _).mono ?_; rintro e w9 ⟨rfl, rfl⟩)
  go_ret
  exact ⟨rfl, HE2.out⟩
set_option maxRecDepth 100000 in
set_option maxHeartbeats 2000000 in
theorem specRoomLeft_calls (A : Option Addr) (c : Nat) (L : List Int) (F : List Nat) (w : World) (h : (Rep.int .i64).sl w A c L F) (A2 : Option Addr) (c2 : Nat) (H : List DHold) (F2 : List Nat) (h2 : Rep.Hold.sl w A2 c2 H F2)
    (hL : lenOK L = true) (hH : holdsFault H = 0) (pg : Int) (p : Nat) (hp : pg = p) (hpl : p * 32 + 32 ≤ L.length) :
    Calls Try.prog 79 #[.slice A L.length c, .slice A2 H.length c2, .int .i64 pg] w fun e w' => e = .returned (.int .i64 (roomL L H p)) ∧ Ext w w' := by
  have hlen := lenOK_parts hL
  obtain ⟨up, hup⟩ : ∃ up, up = roomUp L H (p * 32) := ⟨_, rfl⟩
  have hR : roomL L H p = up 32 := by rw [hup]; rfl
  rw [hR]
  have HN := Lib.hid (show ∀ k, up (k + 1) = up k - need L H (p * 32 + k) by rw [hup]; exact fun k => rfl)
  have HZ := Lib.hid (show up 0 = 3948 by rw [hup]; rfl)
  have HRG := Lib.hid (show ∀ k : Nat, k ≤ 32 → 3948 - 1000 * (k : Int) ≤ up k ∧ up k ≤ 3948 by rw [hup]; exact fun k hk => roomUp_range hL hH (p * 32) k (by omega))
  have HRM := Lib.hid (specRoom_calls A c L F w h A2 c2 H F2 h2 hL hH pg (by omega) (by omega))
  have HS := Lib.hid h; have HS2 := Lib.hid h2; have HL := Lib.hid hL; have HH := Lib.hid hH
  have hb0 : 0 ≤ pg ∧ pg ≤ 15 := by omega
  have hp1 : pg * 32 ≤ 512 := by omega
  have HP := Lib.hid hp; have HLN := Lib.hid (show L.length ≤ 512 from hlen.2.2.1); have HPL := Lib.hid hpl
  clear hup hR h h2 hL hH hlen hp
  obtain ⟨hb0, hb1⟩ := hb0
  go_enter Try.func79, Try.ntmps79
  go_wp2_with fail
  refine HRM.out.mono ?_
  rintro e w1 ⟨rfl, hO⟩
  have HE1 := Lib.hid hO
  clear hO HRM
  go_wp2
  go_loopg [7, 8] (32) (fun m nv i wr => ∃ (k : Nat), m + k = 32 ∧ i = .int .i64 k ∧ nv = .int .i64 (up k) ∧ Ext w wr)
  case atStart => exact ⟨0, by simp, rfl, by rw [HZ.out], HE1.out⟩
  case round =>
    obtain ⟨k, hmk, rfl, rfl, hE⟩ := hrel
    have HE := Lib.hid hE; have HMK := Lib.hid hmk
    clear hE hmk
    by_cases hlt : k < 32
    · have j0 : (k : Int) < 32 := by omega
      obtain ⟨j, HJ⟩ : ∃ j : Int, Hid (j = pg * 32 + k) := ⟨_, Lib.hid rfl⟩
      have hwj : IntKind.i64.wrap (pg * 32 + k) = j := by have := HJ.out; rw [IntKind.wrap_i64] <;> omega
      have hwj2 : pg * 32 + k = j := HJ.out.symm
      have hj : j.toNat = p * 32 + k := by have h1 := HJ.out; have h2 := HP.out; omega
      have j2 : 0 ≤ j ∧ j < L.length := by have h1 := HJ.out; have h2 := HP.out; have h3 := HPL.out; omega
      obtain ⟨j2, j3⟩ := j2
      have hjl : j.toNat < L.length := by omega
      obtain ⟨g, off, rfl, hg, -, a0, -⟩ := Rep.sl_int (Rep.sl_ext HS.out HE.out) j.toNat hjl
      have hnd := need_at (L := L) (H := H) j.toNat hjl
      have hnr := need_range HL.out HH.out j.toNat hjl
      have hcast : ((j.toNat : Nat) : Int) = j := by omega
      rw [hcast, mostL_max (holdsFault_ord HH.out).2.1] at hnd
      have hnx := HN.out k
      rw [← hj, hnd] at hnx
      rw [hnd] at hnr
      have hr1 := HRG.out k (by omega)
      generalize L[j.toNat] = lv at *
      obtain ⟨mo, hmo⟩ : ∃ mo, mo = mostL H j (-1) := ⟨_, rfl⟩
      rw [← hmo] at hnx hnr
      obtain ⟨nd, hndv⟩ : ∃ nd, nd = max (max lv mo) 0 := ⟨_, rfl⟩
      have hnd4 : max 0 (max lv (max mo 0)) = nd := by omega
      rw [hnd4] at hnx hnr
      obtain ⟨m1, hm1⟩ : ∃ m1, m1 = max lv mo := ⟨_, rfl⟩
      rw [← hm1] at hndv
      have HNX := Lib.hid hnx; have HMO := Lib.hid hmo; have HM1 := Lib.hid hm1; have HND := Lib.hid hndv
      obtain ⟨hr1, hr2⟩ := hr1; obtain ⟨hn1, hn2⟩ := hnr
      have hs1 : up k - nd ≤ 3948 := by omega
      have hs2 : -40000 ≤ up k - nd := by omega
      have hwr : IntKind.i64.wrap (up k - nd) = up k - nd := by rw [IntKind.wrap_i64]; omega
      clear hnx hmo hndv hnd hcast hj hjl hm1 hnd4
      go_wp2_with fail
      refine region_ext (by kernel_rfl) (by kernel_rfl) ?_
      repeat (first
        | (refine WQ.skip (by rfl) ?_
           try simp only [Act.put, List.setIfInBounds_toArray, List.set_cons_zero, List.set_cons_succ])
        | (refine WQ.take ?_ (by rfl) (fun w' hw => ?_) ?_
           rotate_left
           · have cq0 := hw.ecell a0
             unfold Oper.quietAt
             go_simp
             first
               | done
               | exact ⟨rfl, rfl⟩
               | exact rfl
           try simp only [Act.put, List.setIfInBounds_toArray, List.set_cons_zero, List.set_cons_succ])
        | (refine WQ.take (.int .i64 mo) (by rfl) (fun w' hw => ?_) ?_
           · unfold Oper.quietAt
             go_simp
             go_at_call 53
             exact ((specMost_calls _ _ _ _ _ (Rep.sl_ext HS2.out (HE.out.ext hw)) j).mono (fun e w5 h5 => ⟨h5.1.trans (congrArg (fun b => Ending.returned (.int .i64 b)) HMO.out.symm), hw.ext h5.2⟩))
           try simp only [Act.put, List.setIfInBounds_toArray, List.set_cons_zero, List.set_cons_succ])
        | (refine WQ.take (.int .i64 m1) (by rfl) (fun w' hw => ?_) ?_
           · unfold Oper.quietAt
             go_simp
             go_at_call_of 52 (lv)
             exact ((max_calls lv mo w').mono (fun e w5 h5 => ⟨h5.1.trans (congrArg (fun b => Ending.returned (.int .i64 b)) HM1.out.symm), @Eq.subst World (fun z => Ext _ z) _ _ h5.2 hw⟩))
           try simp only [Act.put, List.setIfInBounds_toArray, List.set_cons_zero, List.set_cons_succ])
        | (refine WQ.take (.int .i64 nd) (by rfl) (fun w' hw => ?_) ?_
           · unfold Oper.quietAt
             go_simp
             go_at_call_of 52 (m1)
             exact ((max_calls m1 0 w').mono (fun e w5 h5 => ⟨h5.1.trans (congrArg (fun b => Ending.returned (.int .i64 b)) HND.out.symm), @Eq.subst World (fun z => Ext _ z) _ _ h5.2 hw⟩))
           try simp only [Act.put, List.setIfInBounds_toArray, List.set_cons_zero, List.set_cons_succ]))
      refine WQ.nil ?_
      intro w2 hw2
      have HE2 := Lib.hid (HE.out.ext hw2)
      clear hw2 a0
      go_wp2
      go_roundg (32 - (k + 1))
      case measure => have := HMK.out; omega
      case rel => exact ⟨k + 1, by have := HMK.out; omega, by go_num, by rw [HNX.out], HE2.out⟩
    · have hk : k = 32 := by have := HMK.out; omega
      subst hk
      go_wp2
      go_ret
      exact ⟨rfl, HE.out⟩
set_option maxRecDepth 100000 in
set_option maxHeartbeats 2000000 in
theorem specRoomFor_calls (A : Option Addr) (c : Nat) (L : List Int) (F : List Nat) (w : World) (h : (Rep.int .i64).sl w A c L F) (A2 : Option Addr) (c2 : Nat) (H : List DHold) (F2 : List Nat) (h2 : Rep.Hold.sl w A2 c2 H F2)
    (hL : lenOK L = true) (hH : holdsFault H = 0) (id : Int) (hi0 : 0 ≤ id) (hi1 : id < L.length) (len : Int) :
    Calls Try.prog 67 #[.slice A L.length c, .slice A2 H.length c2, .int .i64 id, .int .i64 len] w fun e w' => e = .returned (.bool (inR len 0 1000 && roomForB L H id.toNat len)) ∧ Ext w w' := by
  have hlen := lenOK_parts hL
  have hjl : id.toNat < L.length := by omega
  obtain ⟨pg, hpg⟩ : ∃ pg : Int, pg = ((id.toNat / 32 : Nat) : Int) := ⟨_, rfl⟩
  have hqq : IntKind.i64.wrap (id.tdiv 32) = pg := by rw [Int.tdiv_eq_ediv_of_nonneg hi0, IntKind.wrap_i64] <;> omega
  have HRM := Lib.hid (specRoom_calls A c L F w h A2 c2 H F2 h2 hL hH pg (by omega) (by omega))
  have hd0 : decide (id < 0) = false := by simp; omega
  have HPG := Lib.hid hpg
  clear hpg
  cases hin : inR len 0 1000
  · have HIN := Lib.hid hin
    go_enter Try.func67, Try.ntmps67
    go_wp2_with fail
    refine HRM.out.mono ?_
    rintro e w1 ⟨rfl, hO⟩
    have HE1 := Lib.hid hO
    clear hO HRM
    go_wp2_with (go_at_call 39; refine (specIn_calls _ _ _ _).mono ?_; rintro e w9 ⟨rfl, rfl⟩)
    go_ret
    exact ⟨ret_bool (by simp), HE1.out⟩
  obtain ⟨hl0, hl1⟩ := inR_iff.1 hin
  have hcast : ((id.toNat : Nat) : Int) = id := by omega
  have hnd := need_at (L := L) (H := H) id.toNat hjl
  have hnr := need_range hL hH id.toNat hjl
  obtain ⟨rl, hrl⟩ : ∃ rl, rl = roomL L H (id.toNat / 32) := ⟨_, rfl⟩
  have hrr := roomL_range hL hH (id.toNat / 32) (by omega)
  rw [← hrl] at hrr
  have hpl : id.toNat / 32 * 32 + 32 ≤ L.length := by omega
  rw [hcast, mostL_max (holdsFault_ord hH).2.1] at hnd
  obtain ⟨lv, hlv⟩ : ∃ lv, lv = L[id.toNat] := ⟨_, rfl⟩
  obtain ⟨mo, hmo⟩ : ∃ mo, mo = mostL H id (-1) := ⟨_, rfl⟩
  obtain ⟨m1, hm1⟩ : ∃ m1, m1 = max lv mo := ⟨_, rfl⟩
  obtain ⟨nd, hndv⟩ : ∃ nd, nd = max m1 0 := ⟨_, rfl⟩
  have hnd2 : need L H id.toNat = nd := by rw [hnd, hndv, hm1, ← hlv, ← hmo]; omega
  rw [hnd2] at hnr
  obtain ⟨R, hR⟩ : ∃ R, R = roomForB L H id.toNat len := ⟨_, rfl⟩
  have hRe : R = decide (max 0 (len - nd) ≤ rl) := by rw [hR, roomForB, hnd2, ← hrl]
  rw [← hR, Bool.true_and]
  obtain ⟨hn1, hn2⟩ := hnr; obtain ⟨hr1, hr2⟩ := hrr
  have hwr : IntKind.i64.wrap (len - nd) = len - nd := by rw [IntKind.wrap_i64]; omega
  obtain ⟨g, off, rfl, hg, -, a0, -⟩ := Rep.sl_int h id.toNat hjl
  rw [← hlv] at a0
  have hcs : (decide (len - nd ≤ 0) = true ∧ decide (0 < len - nd) = false ∧ (decide (0 ≤ rl) = true ∧ R = true ∨ decide (0 ≤ rl) = false ∧ R = false)) ∨ (decide (len - nd ≤ 0) = false ∧ decide (0 < len - nd) = true ∧ (decide (len - nd ≤ rl) = true ∧ R = true ∨ decide (len - nd ≤ rl) = false ∧ R = false)) := by
    rw [hRe]
    by_cases a : len - nd ≤ 0
    · refine .inl ⟨by simp [a], by simp; omega, ?_⟩
      by_cases b : 0 ≤ rl
      · exact .inl ⟨by simp [b], by simp; omega⟩
      · exact .inr ⟨by simp; omega, by simp; omega⟩
    · refine .inr ⟨by simp; omega, by simp; omega, ?_⟩
      by_cases b : len - nd ≤ rl
      · exact .inl ⟨by simp [b], by simp; omega⟩
      · exact .inr ⟨by simp; omega, by simp; omega⟩
  obtain ⟨mr, hmr⟩ : ∃ mr, mr = len - nd := ⟨_, rfl⟩
  rw [← hmr] at hcs hwr
  have HIN := Lib.hid hin; have HMR := Lib.hid hmr
  have HS := Lib.hid h; have HS2 := Lib.hid h2; have HL := Lib.hid hL; have HH := Lib.hid hH; have HRL := Lib.hid hrl; have HMO := Lib.hid hmo; have HPL := Lib.hid hpl; have HM1 := Lib.hid hm1; have HND := Lib.hid hndv
  have hwr2 : IntKind.i64.wrap (len - nd) = mr := by rw [← HMR.out]; exact hwr
  clear h h2 hL hH hlen hjl hcast hnd hrl hpl hlv hmo hndv hnd2 hR hRe hm1 hmr hwr hin
  rcases hcs with ⟨z1, z2, ⟨z3, hq⟩ | ⟨z3, hq⟩⟩ | ⟨z1, z2, ⟨z3, hq⟩ | ⟨z3, hq⟩⟩
  all_goals
    have HQ := Lib.hid hq
    have hin := HIN.out
    clear hq
    go_enter Try.func67, Try.ntmps67
    go_wp2_with fail
    refine HRM.out.mono ?_
    rintro e w1 ⟨rfl, hO⟩
    have HE1 := Lib.hid hO
    have a1 := hO.ecell a0
    clear hO HRM
    go_wp2_with (first | (go_at_call 39; refine (specIn_calls _ _ _ _).mono ?_; rintro e w9 ⟨rfl, rfl⟩) | fail)
    refine region_ext (by kernel_rfl) (by kernel_rfl) ?_
    repeat (first
      | (refine WQ.skip (by rfl) ?_
         try simp only [Act.put, List.setIfInBounds_toArray, List.set_cons_zero, List.set_cons_succ])
      | (refine WQ.take ?_ (by rfl) (fun w' hw => ?_) ?_
         rotate_left
         · have cq0 := hw.ecell a1
           unfold Oper.quietAt
           go_simp
           first
             | done
             | exact ⟨rfl, rfl⟩
             | exact rfl
         try simp only [Act.put, List.setIfInBounds_toArray, List.set_cons_zero, List.set_cons_succ])
      | (refine WQ.take (.int .i64 mo) (by rfl) (fun w' hw => ?_) ?_
         · unfold Oper.quietAt
           go_simp
           go_at_call 53
           exact ((specMost_calls _ _ _ _ _ (Rep.sl_ext HS2.out (HE1.out.ext hw)) id).mono (fun e w5 h5 => ⟨h5.1.trans (congrArg (fun b => Ending.returned (.int .i64 b)) HMO.out.symm), hw.ext h5.2⟩))
         try simp only [Act.put, List.setIfInBounds_toArray, List.set_cons_zero, List.set_cons_succ])
      | (refine WQ.take (.int .i64 m1) (by rfl) (fun w' hw => ?_) ?_
         · unfold Oper.quietAt
           go_simp
           go_at_call_of 52 (lv)
           exact ((max_calls lv mo w').mono (fun e w5 h5 => ⟨h5.1.trans (congrArg (fun b => Ending.returned (.int .i64 b)) HM1.out.symm), @Eq.subst World (fun z => Ext _ z) _ _ h5.2 hw⟩))
         try simp only [Act.put, List.setIfInBounds_toArray, List.set_cons_zero, List.set_cons_succ])
      | (refine WQ.take (.int .i64 nd) (by rfl) (fun w' hw => ?_) ?_
         · unfold Oper.quietAt
           go_simp
           go_at_call_of 52 (m1)
           exact ((max_calls m1 0 w').mono (fun e w5 h5 => ⟨h5.1.trans (congrArg (fun b => Ending.returned (.int .i64 b)) HND.out.symm), @Eq.subst World (fun z => Ext _ z) _ _ h5.2 hw⟩))
         try simp only [Act.put, List.setIfInBounds_toArray, List.set_cons_zero, List.set_cons_succ]))
    refine WQ.nil ?_
    intro w2 hw2
    have HE2 := Lib.hid (HE1.out.ext hw2)
    clear hw2 a1 a0
    go_wp2_with (go_at_call 79; refine (specRoomLeft_calls _ _ _ _ _ (Rep.sl_ext HS.out HE2.out) _ _ _ _ (Rep.sl_ext HS2.out HE2.out) HL.out HH.out pg _ HPG.out HPL.out).mono ?_; rw [← HRL.out]; rintro e w7 ⟨rfl, hO7⟩; have HE7 := Lib.hid (HE2.out.ext hO7); clear hO7)
    go_ret
    exact ⟨ret_bool HQ.out.symm, HE7.out⟩
end Go.Proofs.Ytildfjlekplgjaa
