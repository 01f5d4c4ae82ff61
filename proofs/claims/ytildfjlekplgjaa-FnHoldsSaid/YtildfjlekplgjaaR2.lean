/- The ledger: the walks of room left, room for; both packages. -/
import Derived.Test.YtildfjlekplgjaaR1
namespace Go.Proofs.Ytildfjlekplgjaa
open Go.RowKit
set_option linter.unusedSimpArgs false
set_option linter.unusedVariables false
theorem run_max3 {P : Program} (ts : Array TypeId) (t : TypeId) (k : IntKind) (x y z : Int) (w : World) : (Builtin.max_ ts t #[.int k x, .int k y, .int k z]).run P w = .ok (.int k (max x (max y z))) w := by
  simp [Builtin.max_, Builtin.max2]
  simp only [Int.max_def]
  (repeat' split) <;> first | rfl | omega
set_option maxRecDepth 100000 in
set_option maxHeartbeats 2000000 in
theorem roomLeft_calls (A : Option Addr) (c : Nat) (L : List Int) (F : List Nat) (w : World) (h : (Rep.int .i64).sl w A c L F) (A2 : Option Addr) (c2 : Nat) (H : List DHold) (F2 : List Nat) (h2 : Rep.Hold.sl w A2 c2 H F2)
    (hL : lenOK L = true) (hH : holdsFault H = 0) (pg : Int) (p : Nat) (hp : pg = p) (hpl : p * 32 + 32 ≤ L.length) :
    Calls Try.prog 63 #[.slice A L.length c, .slice A2 H.length c2, .int .i64 pg] w fun e w' => e = .returned (.int .i64 (roomL L H p)) ∧ Ext w w' := by
  have hlen := lenOK_parts hL
  obtain ⟨up, hup⟩ : ∃ up, up = roomUp L H (p * 32) := ⟨_, rfl⟩
  have hR : roomL L H p = up 32 := by rw [hup]; rfl
  rw [hR]
  have HN := Lib.hid (show ∀ k, up (k + 1) = up k - need L H (p * 32 + k) by rw [hup]; exact fun k => rfl)
  have HZ := Lib.hid (show up 0 = 3948 by rw [hup]; rfl)
  have HRG := Lib.hid (show ∀ k : Nat, k ≤ 32 → 3948 - 1000 * (k : Int) ≤ up k ∧ up k ≤ 3948 by rw [hup]; exact fun k hk => roomUp_range hL hH (p * 32) k (by omega))
  have HS := Lib.hid h; have HS2 := Lib.hid h2; have HL := Lib.hid hL; have HH := Lib.hid hH
  have hb0 : 0 ≤ pg ∧ pg ≤ 15 := by omega
  have hp1 : pg * 32 ≤ 512 := by omega
  have HP := Lib.hid hp; have HLN := Lib.hid (show L.length ≤ 512 from hlen.2.2.1); have HPL := Lib.hid hpl
  clear hup hR h h2 hL hH hlen hp
  obtain ⟨hb0, hb1⟩ := hb0
  go_enter Try.func63, Try.ntmps63
  go_wp2
  go_loopg [7, 8] (32) (fun m nv i wr => ∃ (k : Nat) (j : Int), m + k = 32 ∧ Hid (j = pg * 32 + k) ∧ i = .int .i64 j ∧ nv = .int .i64 (up k) ∧ Ext w wr)
  case atStart => exact ⟨0, pg * 32, by simp, Lib.hid (by simp), rfl, by rw [HZ.out], Only.refl _ _⟩
  case round =>
    obtain ⟨k, j, hmk, HJ, rfl, rfl, hE⟩ := hrel
    have HE := Lib.hid hE; have HMK := Lib.hid hmk
    clear hE hmk
    by_cases hlt : k < 32
    · have hj : j.toNat = p * 32 + k := by have h1 := HJ.out; have h2 := HP.out; omega
      have j1 : j < (pg + 1) * 32 := by have h1 := HJ.out; omega
      have j2 : 0 ≤ j ∧ j < L.length := by have h1 := HJ.out; have h2 := HP.out; have h3 := HPL.out; omega
      obtain ⟨j2, j3⟩ := j2
      have hjl : j.toNat < L.length := by omega
      obtain ⟨g, off, rfl, hg, -, a0, -⟩ := Rep.sl_int (Rep.sl_ext HS.out HE.out) j.toNat hjl
      have hnd := need_at (L := L) (H := H) j.toNat hjl
      have hnr := need_range HL.out HH.out j.toNat hjl
      have hcast : ((j.toNat : Nat) : Int) = j := by omega
      rw [hcast] at hnd
      have hnx := HN.out k
      rw [← hj, hnd] at hnx
      rw [hnd] at hnr
      have hr1 := HRG.out k (by omega)
      generalize L[j.toNat] = lv at *
      obtain ⟨mo, hmo⟩ : ∃ mo, mo = mostL H j 0 := ⟨_, rfl⟩
      rw [← hmo] at hnx hnr
      obtain ⟨nd, hndv⟩ : ∃ nd, nd = max 0 (max lv mo) := ⟨_, rfl⟩
      rw [← hndv] at hnx hnr
      have hmx := fun (ts : Array TypeId) (t : TypeId) (W : World) => run_max3 (P := Try.prog) ts t .i64 0 lv mo W
      rw [← hndv] at hmx
      have HNX := Lib.hid hnx; have HMO := Lib.hid hmo
      obtain ⟨hr1, hr2⟩ := hr1; obtain ⟨hn1, hn2⟩ := hnr
      have hs1 : up k - nd ≤ 3948 := by omega
      have hs2 : -40000 ≤ up k - nd := by omega
      have hwr : IntKind.i64.wrap (up k - nd) = up k - nd := by rw [IntKind.wrap_i64]; omega
      clear hnx hmo hndv hnd hcast hj hjl
      go_wp2_with fail
      refine region_ext (by kernel_rfl) (by kernel_rfl) ?_
      repeat (first
        | (refine WQ.skip (by rfl) ?_
           try simp only [Act.put, List.setIfInBounds_toArray, List.set_cons_zero, List.set_cons_succ])
        | (refine WQ.take ?_ (by rfl) (fun w' hw => ?_) ?_
           rotate_left
           · have cq0 := hw.ecell a0
             unfold Oper.quietAt
             go_simp
             first
               | done
               | exact ⟨rfl, rfl⟩
               | exact rfl
           try simp only [Act.put, List.setIfInBounds_toArray, List.set_cons_zero, List.set_cons_succ])
        | (refine WQ.take (.int .i64 mo) (by rfl) (fun w' hw => ?_) ?_
           · unfold Oper.quietAt
             go_simp
             exact ((implMost_calls _ _ _ _ _ (Rep.sl_ext HS2.out (HE.out.ext hw)) j).mono (fun e w5 h5 => ⟨h5.1.trans (congrArg (fun b => Ending.returned (.int .i64 b)) HMO.out.symm), hw.ext h5.2⟩))
           try simp only [Act.put, List.setIfInBounds_toArray, List.set_cons_zero, List.set_cons_succ]))
      refine WQ.nil ?_
      intro w2 hw2
      have HE2 := Lib.hid (HE.out.ext hw2)
      clear hw2 a0 hmx
      go_wp2
      go_roundg (32 - (k + 1))
      case measure => have := HMK.out; omega
      case rel => exact ⟨k + 1, j + 1, by have := HMK.out; omega, Lib.hid (by have := HJ.out; omega), rfl, by rw [HNX.out], HE2.out⟩
    · have hk : k = 32 := by have := HMK.out; omega
      have j1 : ¬ j < (pg + 1) * 32 := by have h1 := HJ.out; omega
      subst hk
      go_wp2
      go_ret
      exact ⟨rfl, HE.out⟩
set_option maxRecDepth 100000 in
set_option maxHeartbeats 2000000 in
theorem roomFor_calls (A : Option Addr) (c : Nat) (L : List Int) (F : List Nat) (w : World) (h : (Rep.int .i64).sl w A c L F) (A2 : Option Addr) (c2 : Nat) (H : List DHold) (F2 : List Nat) (h2 : Rep.Hold.sl w A2 c2 H F2)
    (hL : lenOK L = true) (hH : holdsFault H = 0) (id : Int) (hi0 : 0 ≤ id) (hi1 : id < L.length) (len : Int) (hl0 : 0 ≤ len) (hl1 : len ≤ 1000) :
    Calls Try.prog 64 #[.slice A L.length c, .slice A2 H.length c2, .int .i64 id, .int .i64 len] w fun e w' => e = .returned (.bool (roomForB L H id.toNat len)) ∧ Ext w w' := by
  have hlen := lenOK_parts hL
  have hjl : id.toNat < L.length := by omega
  have hcast : ((id.toNat : Nat) : Int) = id := by omega
  have hnd := need_at (L := L) (H := H) id.toNat hjl
  have hnr := need_range hL hH id.toNat hjl
  obtain ⟨rl, hrl⟩ : ∃ rl, rl = roomL L H (id.toNat / 32) := ⟨_, rfl⟩
  have hrr := roomL_range hL hH (id.toNat / 32) (by omega)
  rw [← hrl] at hrr
  obtain ⟨pg, hpg⟩ : ∃ pg : Int, pg = ((id.toNat / 32 : Nat) : Int) := ⟨_, rfl⟩
  have hqq : IntKind.i64.wrap (id.tdiv 32) = pg := by rw [Int.tdiv_eq_ediv_of_nonneg hi0, IntKind.wrap_i64] <;> omega
  have hpl : id.toNat / 32 * 32 + 32 ≤ L.length := by omega
  rw [hcast] at hnd
  obtain ⟨lv, hlv⟩ : ∃ lv, lv = L[id.toNat] := ⟨_, rfl⟩
  obtain ⟨mo, hmo⟩ : ∃ mo, mo = mostL H id 0 := ⟨_, rfl⟩
  obtain ⟨nd, hndv⟩ : ∃ nd, nd = max 0 (max lv mo) := ⟨_, rfl⟩
  have hnd2 : need L H id.toNat = nd := by rw [hnd, hndv, hlv, hmo]
  rw [hnd2] at hnr
  obtain ⟨R, hR⟩ : ∃ R, R = roomForB L H id.toNat len := ⟨_, rfl⟩
  obtain ⟨mr, hmr⟩ : ∃ mr, mr = max 0 (len - nd) := ⟨_, rfl⟩
  have hRe : decide (mr ≤ rl) = R := by rw [hR, roomForB, hnd2, ← hmr, ← hrl]
  rw [← hR]
  obtain ⟨hn1, hn2⟩ := hnr; obtain ⟨hr1, hr2⟩ := hrr
  have hmx := fun (ts : Array TypeId) (t : TypeId) (W : World) => run_max3 (P := Try.prog) ts t .i64 0 lv mo W
  rw [← hndv] at hmx
  have hmx2 := fun (ts : Array TypeId) (t : TypeId) (W : World) => run_max2 (P := Try.prog) ts t .i64 0 (len - nd) W
  rw [← hmr] at hmx2
  have hs1 : len - nd ≤ 1000 := by omega
  have hs2 : -1000 ≤ len - nd := by omega
  have hwr : IntKind.i64.wrap (len - nd) = len - nd := by rw [IntKind.wrap_i64]; omega
  obtain ⟨g, off, rfl, hg, -, a0, -⟩ := Rep.sl_int h id.toNat hjl
  rw [← hlv] at a0
  have HS := Lib.hid h; have HS2 := Lib.hid h2; have HL := Lib.hid hL; have HH := Lib.hid hH; have HRL := Lib.hid hrl; have HMO := Lib.hid hmo; have HPG := Lib.hid hpg; have HPL := Lib.hid hpl
  clear h h2 hL hH hlen hjl hcast hnd hrl hpg hpl hlv hmo hndv hnd2 hR hmr
  go_enter Try.func64, Try.ntmps64
  go_wp2_with fail
  refine region_ext (by kernel_rfl) (by kernel_rfl) ?_
  repeat (first
    | (refine WQ.skip (by rfl) ?_
       try simp only [Act.put, List.setIfInBounds_toArray, List.set_cons_zero, List.set_cons_succ])
    | (refine WQ.take ?_ (by rfl) (fun w' hw => ?_) ?_
       rotate_left
       · have cq0 := hw.ecell a0
         unfold Oper.quietAt
         go_simp
         first
           | done
           | exact ⟨rfl, rfl⟩
           | exact rfl
       try simp only [Act.put, List.setIfInBounds_toArray, List.set_cons_zero, List.set_cons_succ])
    | (refine WQ.take (.int .i64 rl) (by rfl) (fun w' hw => ?_) ?_
       · unfold Oper.quietAt
         go_simp
         exact ((roomLeft_calls _ _ _ _ _ (Rep.sl_ext HS.out hw) _ _ _ _ (Rep.sl_ext HS2.out hw) HL.out HH.out _ _ HPG.out HPL.out).mono (fun e w5 h5 => ⟨h5.1.trans (congrArg (fun b => Ending.returned (.int .i64 b)) HRL.out.symm), hw.ext h5.2⟩))
       try simp only [Act.put, List.setIfInBounds_toArray, List.set_cons_zero, List.set_cons_succ])
    | (refine WQ.take (.int .i64 mo) (by rfl) (fun w' hw => ?_) ?_
       · unfold Oper.quietAt
         go_simp
         exact ((implMost_calls _ _ _ _ _ (Rep.sl_ext HS2.out hw) id).mono (fun e w5 h5 => ⟨h5.1.trans (congrArg (fun b => Ending.returned (.int .i64 b)) HMO.out.symm), hw.ext h5.2⟩))
       try simp only [Act.put, List.setIfInBounds_toArray, List.set_cons_zero, List.set_cons_succ]))
  refine WQ.nil ?_
  intro w2 hw2
  have HE2 := Lib.hid hw2
  clear hw2 a0 hmx hmx2
  go_wp2
  go_ret
  exact ⟨rfl, HE2.out⟩
end Go.Proofs.Ytildfjlekplgjaa
