/- FreshId: the program; the contracts as the law's walk wants them. -/
import Derived.Test.YtildfjlekplgjaaR4
import Derived.Test.YtildfjlekplgjaaI0
namespace Go.Proofs.Ytildfjlekplgjaa
open Go.RowKit
set_option linter.unusedSimpArgs false
set_option linter.unusedVariables false
set_option maxRecDepth 100000 in
set_option maxHeartbeats 4000000 in
theorem implFreshId_calls (w : World) (A : Option Addr) (c : Nat) (L : List Int) (F : List Nat) (h : (Rep.int .i64).sl w A c L F) (A2 : Option Addr) (c2 : Nat) (H : List DHold) (F2 : List Nat) (h2 : Rep.Hold.sl w A2 c2 H F2) (A3 : Option Addr) (c3 : Nat) (K : List DLock) (F3 : List Nat) (h3 : Rep.Lock.sl w A3 c3 K F3) (txn : Int) (et : (Lit.int .i64 txn).wf = true) (len : Int) (el : (Lit.int .i64 len).wf = true) (hs : L.length ≤ 1048576) (hs2 : H.length ≤ 1048576) (hs3 : K.length ≤ 1048576) :
    Calls Try.prog 37 #[.slice A L.length c, .slice A2 H.length c2, .slice A3 K.length c3, .int .i64 txn, .int .i64 len] w fun e w' => e = .returned (.int .i64 (freshId L H K txn len)) ∧ Ext w w' := by
  have hmx := Nat.le_trans h.1 h.2.1
  unfold maxLen at hmx
  obtain ⟨R, hR⟩ : ∃ R, R = freshId L H K txn len := ⟨_, rfl⟩
  rw [← hR]
  obtain ⟨hf, hhf⟩ : ∃ hf, hf = holdsFault H := ⟨_, rfl⟩
  obtain ⟨lf, hlf⟩ : ∃ lf, lf = locksFault K := ⟨_, rfl⟩
  have HS := Lib.hid h; have HS2 := Lib.hid h2; have HS3 := Lib.hid h3; have HHF := Lib.hid hhf; have HLF := Lib.hid hlf
  by_cases hok : freshOK L H K = true
  rotate_left
  · have HQ := Lib.hid (show R = -1 by rw [hR, freshId, if_neg hok])
    have hw := fresh_ways L H K hok hf lf hhf hlf
    clear h h2 h3 hR hok hhf hlf
    rcases hw with z1 | ⟨z1, z2 | ⟨z2, z3⟩⟩
    all_goals
      have HL := Lib.hid z1
      clear z1
      go_enter Try.func37, Try.ntmps37
      go_wp2_with (first
        | (go_at_call 62; refine (implLengths_calls _ _ _ _ _ HS.out).mono ?_; rw [HL.out]; rintro e w1 ⟨rfl, hO⟩; have HE1 := Lib.hid hO; clear hO)
        | (go_at_call 34; refine (implHoldsFault_calls _ _ _ _ _ (Rep.sl_ext HS2.out HE1.out)).mono ?_; rw [← HHF.out]; rintro e w2 ⟨rfl, hO⟩; have HE2 := Lib.hid (HE1.out.ext hO); clear hO)
        | (go_at_call 27; refine (implLocksFault_calls _ _ _ _ _ (Rep.sl_ext HS3.out HE2.out)).mono ?_; rw [← HLF.out]; rintro e w3 ⟨rfl, hO⟩; have HE3 := Lib.hid (HE2.out.ext hO); clear hO)
        | (go_at_call 43; refine (implIn_calls _ _ _ _).mono ?_; rintro e w9 ⟨rfl, rfl⟩))
      go_ret
      first
        | exact ⟨by rw [HQ.out]; rfl, HE3.out⟩
        | exact ⟨by rw [HQ.out]; rfl, HE2.out⟩
        | exact ⟨by rw [HQ.out]; rfl, HE1.out⟩
  have hk := hok
  simp only [freshOK, Bool.and_eq_true, decide_eq_true_eq] at hk
  obtain ⟨z1, k2, k3⟩ := hk
  have hlen := lenOK_parts z1
  have HL := Lib.hid z1; have HH := Lib.hid k2; have HK := Lib.hid k3
  have z2 : (hf != 0) = false := by rw [hhf, k2]; rfl
  have z3 : (lf != 0) = false := by rw [hlf, k3]; rfl
  have HR := Lib.hid (show R = firstD (freshP L H K txn len) (List.range L.length) by rw [hR, freshId, if_pos hok])
  have hln : L.length ≤ 512 := hlen.2.2.1
  have HLN := Lib.hid hlen
  clear h h2 h3 hR hok hhf hlf z1 k2 k3 hlen
  cases hin : inR len 0 1000
  · have HIN := Lib.hid hin
    have HQ := Lib.hid (show R = -1 by
      rw [HR.out]
      refine first_miss fun j _ => ?_
      unfold freshP
      rw [hin]; simp)
    go_enter Try.func37, Try.ntmps37
    go_wp2_with (first
      | (go_at_call 62; refine (implLengths_calls _ _ _ _ _ HS.out).mono ?_; rw [HL.out]; rintro e w1 ⟨rfl, hO⟩; have HE1 := Lib.hid hO; clear hO)
      | (go_at_call 34; refine (implHoldsFault_calls _ _ _ _ _ (Rep.sl_ext HS2.out HE1.out)).mono ?_; rw [← HHF.out]; rintro e w2 ⟨rfl, hO⟩; have HE2 := Lib.hid (HE1.out.ext hO); clear hO)
      | (go_at_call 27; refine (implLocksFault_calls _ _ _ _ _ (Rep.sl_ext HS3.out HE2.out)).mono ?_; rw [← HLF.out]; rintro e w3 ⟨rfl, hO⟩; have HE3 := Lib.hid (HE2.out.ext hO); clear hO)
      | (go_at_call 43; refine (implIn_calls _ _ _ _).mono ?_; rintro e w9 ⟨rfl, rfl⟩))
    go_ret
    exact ⟨by rw [HQ.out]; rfl, HE3.out⟩
  obtain ⟨hl0, hl1⟩ := inR_iff.1 hin
  have HIN := Lib.hid hin
  go_enter Try.func37, Try.ntmps37
  go_wp2_with (first
    | (go_at_call 62; refine (implLengths_calls _ _ _ _ _ HS.out).mono ?_; rw [HL.out]; rintro e w1 ⟨rfl, hO⟩; have HE1 := Lib.hid hO; clear hO)
    | (go_at_call 34; refine (implHoldsFault_calls _ _ _ _ _ (Rep.sl_ext HS2.out HE1.out)).mono ?_; rw [← HHF.out]; rintro e w2 ⟨rfl, hO⟩; have HE2 := Lib.hid (HE1.out.ext hO); clear hO)
    | (go_at_call 27; refine (implLocksFault_calls _ _ _ _ _ (Rep.sl_ext HS3.out HE2.out)).mono ?_; rw [← HLF.out]; rintro e w3 ⟨rfl, hO⟩; have HE3 := Lib.hid (HE2.out.ext hO); clear hO)
    | (go_at_call 43; refine (implIn_calls _ _ _ _).mono ?_; rintro e w9 ⟨rfl, rfl⟩))
  clear hin
  go_loopg [33] (L.length) (fun m i wr => ∃ k : Nat, m + k = L.length ∧ i = .int .i64 k ∧ Ext w wr ∧ ∀ j, j < k → freshP L H K txn len j = false)
  case atStart => exact ⟨0, by simp, rfl, HE3.out, fun j h => absurd h (Nat.not_lt_zero _)⟩
  case round =>
    obtain ⟨k, hmk, rfl, hE, hup⟩ := hrel
    have HE := Lib.hid hE; have HUP := Lib.hid hup; have HMK := Lib.hid hmk
    clear hE hup hmk
    by_cases hlt : k < L.length
    · obtain ⟨g, off, rfl, hg, -, a0, -⟩ := Rep.sl_int (Rep.sl_ext HS.out HE.out) k hlt
      have HHIT := Lib.hid (show freshP L H K txn len k = true → R = k from fun hp => by rw [HR.out]; exact first_hit hlt hp HUP.out)
      have HUP2 := Lib.hid (show freshP L H K txn len k = false → ∀ j, j < k + 1 → freshP L H K txn len j = false by
        intro hp j hj
        by_cases he : j = k
        · subst he; exact hp
        · exact HUP.out j (by omega))
      have hpe : freshP L H K txn len k = (decide (L[k] = -1) && (decide (mostL H k (-1) = -1) && (decide (modeL K txn k true = 0) && roomForB L H k len))) := by
        unfold freshP; rw [List.getElem?_eq_getElem hlt, HIN.out, Bool.true_and]; rfl
      have hlv := HLN.out.2.2.2 k hlt
      have hheld := held_iff (id := (k : Int)) (holdsFault_ord HH.out).2.1
      generalize freshP L H K txn len k = pk at *
      generalize L[k] = lv at *
      obtain ⟨hd, hhd⟩ : ∃ hd, hd = H.any (fun x => decide (x.Id = (k : Int))) := ⟨_, rfl⟩
      obtain ⟨ml, hml⟩ : ∃ ml, ml = modeL K txn k true := ⟨_, rfl⟩
      obtain ⟨rf, hrf⟩ : ∃ rf, rf = roomForB L H k len := ⟨_, rfl⟩
      have hmo : decide (mostL H k (-1) = -1) = !hd := by rw [hhd, hheld]; simp
      rw [hmo, ← hml, ← hrf] at hpe
      have HHD := Lib.hid hhd; have HMI := Lib.hid hml
      have HRF := Lib.hid (show rf = roomForB L H ((k : Int)).toNat len by rw [hrf]; rfl)
      have hcs : (decide (lv < 0) = false ∧ pk = false) ∨ (decide (lv < 0) = true ∧ (hd = true ∧ pk = false ∨ hd = false ∧ ((ml == 0) = false ∧ pk = false ∨ (ml == 0) = true ∧ (rf = false ∧ pk = false ∨ rf = true ∧ pk = true)))) := by
        rw [hpe]
        by_cases a : lv = -1
        · refine .inr ⟨by simp [a], ?_⟩
          cases hd
          · refine .inr ⟨rfl, ?_⟩
            by_cases d : ml = 0
            · refine .inr ⟨by simp [d], ?_⟩
              cases rf
              · exact .inl ⟨rfl, by simp⟩
              · exact .inr ⟨rfl, by simp [a, d]⟩
            · exact .inl ⟨by simp [d], by simp [d]⟩
          · exact .inl ⟨rfl, by simp⟩
        · exact .inl ⟨by simp; omega, by simp [a]⟩
      have hEA := alloc_ext wr (.cells #[.int .i64 (k : Int)] 2)
      have HEA := Lib.hid (HE.out.ext hEA)
      have HBX := Lib.hid (heap_alloc_new wr (.cells #[.int .i64 (k : Int)] 2))
      have b0 := hEA.ecell a0
      have bx : (wr.alloc (.cells #[.int .i64 (k : Int)] 2)).cell? ⟨wr.heap.size, 0, none⟩ = some (.int .i64 (k : Int)) := cell_of_row _ _ 0 _ _ _ HBX.out
      have HBC := Lib.hid bx
      clear hpe hhd hml hrf hmo hheld hlv hEA
      have hcon := Lib.hid (holdContains_calls 69 #[.pointer (some ⟨wr.heap.size, 0, none⟩)] (fun x => decide (x.Id = (k : Int))) (enters_of Try.func69 (by kernel_rfl) rfl) A2 c2 H F2 (wr.alloc (.cells #[.int .i64 (k : Int)] 2)) (Rep.sl_ext HS2.out HEA.out)
        (fun x W hW => freshIs_calls x W wr.heap.size (k : Int) (hW.ecell HBC.out)))
      rcases hcs with ⟨y1, hq⟩ | ⟨y1, ⟨y2, hq⟩ | ⟨y2, ⟨y3, hq⟩ | ⟨y3, ⟨y4, hq⟩ | ⟨y4, hq⟩⟩⟩⟩
      · subst hq
        have HQ := Lib.hid (HUP2.out rfl)
        clear HUP2 HHIT
        go_wp2_with fail
        refine hcon.out.mono ?_
        rw [← HHD.out]
        rintro e w4 ⟨rfl, hO⟩
        have HE4 := Lib.hid (HEA.out.ext hO)
        have b4 := hO.ecell b0
        have bx4 := hO.ecell bx
        clear hO hcon b0 bx
        cases hd
        all_goals
          go_wp2
          go_roundg (L.length - (k + 1))
          case measure => have := HMK.out; omega
          case rel => exact ⟨k + 1, by have := HMK.out; omega, by go_num, HE4.out, HQ.out⟩
      iterate 3
        · subst hq
          have HQ := Lib.hid (HUP2.out rfl)
          have HHD2 := Lib.hid y2
          clear HUP2 HHIT
          try (have Y4 := Lib.hid y4; clear y4)
          go_wp2_with fail
          refine hcon.out.mono ?_
          rw [← HHD.out]
          rintro e w4 ⟨rfl, hO⟩
          have HE4 := Lib.hid (HEA.out.ext hO)
          have b4 := hO.ecell b0
          have bx4 := hO.ecell bx
          clear hO hcon b0 bx
          rw [HHD2.out] at *
          go_wp2_with (first
            | (go_at_call 44; refine (lockMode_calls _ _ _ _ _ (Rep.sl_ext HS3.out HE4.out) txn (k : Int) true).mono ?_; rw [← HMI.out]; rintro e w5 ⟨rfl, hO⟩; have HE5 := Lib.hid (HE4.out.ext hO); have bx5 := hO.ecell bx4; clear hO)
            | (go_at_call 64; refine (roomFor_calls _ _ _ _ _ (Rep.sl_ext HS.out HE5.out) _ _ _ _ (Rep.sl_ext HS2.out HE5.out) HL.out HH.out (k : Int) (by omega) (by omega) len hl0 hl1).mono ?_; rw [← HRF.out, Y4.out]; rintro e w6 ⟨rfl, hO⟩; have HE6 := Lib.hid (HE5.out.ext hO); have bx6 := hO.ecell bx5; clear hO))
          go_roundg (L.length - (k + 1))
          case measure => have := HMK.out; omega
          case rel =>
            first
              | exact ⟨k + 1, by have := HMK.out; omega, by go_num, HE6.out, HQ.out⟩
              | exact ⟨k + 1, by have := HMK.out; omega, by go_num, HE5.out, HQ.out⟩
              | exact ⟨k + 1, by have := HMK.out; omega, by go_num, HE4.out, HQ.out⟩
      · subst hq
        have HQ := Lib.hid (HHIT.out rfl)
        have HHD2 := Lib.hid y2
        have Y4 := Lib.hid y4
        clear HUP2 HHIT y4
        go_wp2_with fail
        refine hcon.out.mono ?_
        rw [← HHD.out]
        rintro e w4 ⟨rfl, hO⟩
        have HE4 := Lib.hid (HEA.out.ext hO)
        have b4 := hO.ecell b0
        have bx4 := hO.ecell bx
        clear hO hcon b0 bx
        rw [HHD2.out] at *
        go_wp2_with (first
          | (go_at_call 44; refine (lockMode_calls _ _ _ _ _ (Rep.sl_ext HS3.out HE4.out) txn (k : Int) true).mono ?_; rw [← HMI.out]; rintro e w5 ⟨rfl, hO⟩; have HE5 := Lib.hid (HE4.out.ext hO); have bx5 := hO.ecell bx4; clear hO)
          | (go_at_call 64; refine (roomFor_calls _ _ _ _ _ (Rep.sl_ext HS.out HE5.out) _ _ _ _ (Rep.sl_ext HS2.out HE5.out) HL.out HH.out (k : Int) (by omega) (by omega) len hl0 hl1).mono ?_; rw [← HRF.out, Y4.out]; rintro e w6 ⟨rfl, hO⟩; have HE6 := Lib.hid (HE5.out.ext hO); have bx6 := hO.ecell bx5; clear hO))
        go_ret
        exact ⟨by rw [HQ.out]; rfl, HE6.out⟩
    · have HQ := Lib.hid (show R = -1 by rw [HR.out]; exact first_miss fun j hj => HUP.out j (by have := HMK.out; omega))
      go_wp2
      go_ret
      exact ⟨by rw [HQ.out]; rfl, HE.out⟩
end Go.Proofs.Ytildfjlekplgjaa
