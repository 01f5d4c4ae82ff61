/- FreshId: both packages; the contracts as the law's walk wants them. -/
import Derived.Test.YtildfjlekplgjaaR3
namespace Go.Proofs.Ytildfjlekplgjaa
open Go.RowKit
set_option linter.unusedSimpArgs false
set_option linter.unusedVariables false
def freshP (L : List Int) (H : List DHold) (K : List DLock) (txn len : Int) (i : Nat) : Bool :=
  decide (L[i]?.getD 0 = -1) && (decide (mostL H i (-1) = -1) && (decide (modeL K txn i true = 0) && (inR len 0 1000 && roomForB L H i len)))
def freshOK (L : List Int) (H : List DHold) (K : List DLock) : Bool := lenOK L && (decide (holdsFault H = 0) && decide (locksFault K = 0))
def freshId (L : List Int) (H : List DHold) (K : List DLock) (txn len : Int) : Int := if freshOK L H K = true then firstD (freshP L H K txn len) (List.range L.length) else -1
theorem first_hit {p : Nat → Bool} {n k : Nat} (hk : k < n) (h : p k = true) (hup : ∀ j, j < k → p j = false) : firstD p (List.range n) = k := by
  have hf : (List.range n).findIdx p = k := by
    rw [List.findIdx_eq (by simpa using hk)]
    exact ⟨by simpa using h, fun j hj => by simpa using hup j hj⟩
  rw [firstD, hf, if_pos (by simpa using hk)]
theorem first_miss {p : Nat → Bool} {n : Nat} (hup : ∀ j, j < n → p j = false) : firstD p (List.range n) = -1 := by
  have hf : ¬ (List.range n).findIdx p < (List.range n).length := by
    intro hl
    have h1 := List.findIdx_getElem (w := hl)
    rw [List.getElem_range] at h1
    rw [hup _ (by simpa using hl)] at h1
    cases h1
  rw [firstD, if_neg hf]
theorem freshId_range (L : List Int) (H : List DHold) (K : List DLock) (txn len : Int) : -1 ≤ freshId L H K txn len ∧ freshId L H K txn len ≤ L.length := by
  unfold freshId firstD
  split
  · split
    · rename_i h
      simp at h
      omega
    · omega
  · omega
theorem held_iff {H : List DHold} {id : Int} (h : H.all holdOK = true) : H.any (fun x => decide (x.Id = id)) = !decide (mostL H id (-1) = -1) := by
  unfold mostL
  cases hf : H.find? (fun h => decide (h.Id = id)) with
  | none =>
    have h1 : H.any (fun x => decide (x.Id = id)) = false := by
      rw [List.any_eq_false]
      intro x hx
      have := List.find?_eq_none.1 hf x hx
      simpa using this
    rw [h1]; rfl
  | some y =>
    have h1 : H.any (fun x => decide (x.Id = id)) = true := by
      rw [List.any_eq_true]
      exact ⟨y, List.mem_of_find?_eq_some hf, by have := List.find?_some hf; simpa using this⟩
    have := List.all_eq_true.1 h y (List.mem_of_find?_eq_some hf)
    simp only [holdOK, Bool.and_eq_true, inR_iff] at this
    rw [h1]
    simp
    omega
set_option maxRecDepth 100000 in
theorem freshIs_calls (x : DHold) (w : World) (nb : Nat) (id : Int) (h0 : w.cell? ⟨nb, 0, none⟩ = some (.int .i64 id)) :
    Calls Try.prog 69 #[.agg #[.int .i64 x.Id, .int .i64 x.Txn, .int .i64 x.Most], .pointer (some ⟨nb, 0, none⟩)] w fun e w' => e = .returned (.bool (decide (x.Id = id))) ∧ Ext w w' := by
  have hu := Try.underlying75
  have hlt : nb < w.heap.size := World.block_lt_of_cell? w ⟨nb, 0, none⟩ h0
  have c0 := (alloc_ext w (.cells #[.int .i64 x.Id, .int .i64 x.Txn, .int .i64 x.Most] 75)).ecell h0
  have mo := fun o => cell_of_row _ _ o _ _ _ (heap_alloc_new w (.cells #[.int .i64 x.Id, .int .i64 x.Txn, .int .i64 x.Most] 75))
  have hE := alloc_ext w (.cells #[.int .i64 x.Id, .int .i64 x.Txn, .int .i64 x.Most] 75)
  have HE := Lib.hid hE
  clear hE
  go_enter Try.func69, Try.ntmps69
  by_cases hh : x.Id = id
  · have hb : (x.Id == id) = true := by simp [hh]
    have hd : decide (x.Id = id) = true := by simp [hh]
    rw [hd]
    clear hh hd
    go_wp2
    go_ret
    exact ⟨rfl, HE.out⟩
  · have hb : (x.Id == id) = false := by simp [hh]
    have hd : decide (x.Id = id) = false := by simp [hh]
    rw [hd]
    clear hh hd
    go_wp2
    go_ret
    exact ⟨rfl, HE.out⟩
theorem fresh_ways (L : List Int) (H : List DHold) (K : List DLock) (hok : ¬ freshOK L H K = true) (hf lf : Int) (h1 : hf = holdsFault H) (h2 : lf = locksFault K) : lenOK L = false ∨ lenOK L = true ∧ ((hf != 0) = true ∨ (hf != 0) = false ∧ (lf != 0) = true) := by
  unfold freshOK at hok
  rw [← h1, ← h2] at hok
  cases hl : lenOK L
  · exact .inl rfl
  right
  refine ⟨rfl, ?_⟩
  by_cases a : hf = 0
  · right
    refine ⟨by simp [a], ?_⟩
    by_cases b : lf = 0
    · exact absurd (by simp [hl, a, b]) hok
    · simp [b]
  · left; simp [a]
set_option maxRecDepth 100000 in
set_option maxHeartbeats 4000000 in
theorem specFreshId_calls (w : World) (A : Option Addr) (c : Nat) (L : List Int) (F : List Nat) (h : (Rep.int .i64).sl w A c L F) (A2 : Option Addr) (c2 : Nat) (H : List DHold) (F2 : List Nat) (h2 : Rep.Hold.sl w A2 c2 H F2) (A3 : Option Addr) (c3 : Nat) (K : List DLock) (F3 : List Nat) (h3 : Rep.Lock.sl w A3 c3 K F3) (txn : Int) (et : (Lit.int .i64 txn).wf = true) (len : Int) (el : (Lit.int .i64 len).wf = true) (hs : L.length ≤ 1048576) (hs2 : H.length ≤ 1048576) (hs3 : K.length ≤ 1048576) :
    Calls Try.prog 35 #[.slice A L.length c, .slice A2 H.length c2, .slice A3 K.length c3, .int .i64 txn, .int .i64 len] w fun e w' => e = .returned (.int .i64 (freshId L H K txn len)) ∧ Ext w w' := by
  have hmx := Nat.le_trans h.1 h.2.1
  unfold maxLen at hmx
  obtain ⟨R, hR⟩ : ∃ R, R = freshId L H K txn len := ⟨_, rfl⟩
  rw [← hR]
  obtain ⟨hf, hhf⟩ : ∃ hf, hf = holdsFault H := ⟨_, rfl⟩
  obtain ⟨lf, hlf⟩ : ∃ lf, lf = locksFault K := ⟨_, rfl⟩
  have HS := Lib.hid h; have HS2 := Lib.hid h2; have HS3 := Lib.hid h3; have HHF := Lib.hid hhf; have HLF := Lib.hid hlf
  by_cases hok : freshOK L H K = true
  rotate_left
  · have HQ := Lib.hid (show R = -1 by rw [hR, freshId, if_neg hok])
    have hw := fresh_ways L H K hok hf lf hhf hlf
    clear h h2 h3 hR hok hhf hlf
    rcases hw with z1 | ⟨z1, z2 | ⟨z2, z3⟩⟩
    all_goals
      have HL := Lib.hid z1
      clear z1
      go_enter Try.func35, Try.ntmps35
      go_wp2_with (first
        | (go_at_call 66; refine (specLengths_calls _ _ _ _ _ HS.out).mono ?_; rw [HL.out]; rintro e w1 ⟨rfl, hO⟩; have HE1 := Lib.hid hO; clear hO)
        | (go_at_call 51; refine (specHoldsFault_calls _ _ _ _ _ (Rep.sl_ext HS2.out HE1.out)).mono ?_; rw [← HHF.out]; rintro e w2 ⟨rfl, hO⟩; have HE2 := Lib.hid (HE1.out.ext hO); clear hO)
        | (go_at_call 28; refine (specLocksFault_calls _ _ _ _ _ (Rep.sl_ext HS3.out HE2.out)).mono ?_; rw [← HLF.out]; rintro e w3 ⟨rfl, hO⟩; have HE3 := Lib.hid (HE2.out.ext hO); clear hO)
        | (go_at_call 43; refine (implIn_calls _ _ _ _).mono ?_; rintro e w9 ⟨rfl, rfl⟩))
      go_ret
      first
        | exact ⟨by rw [HQ.out]; rfl, HE3.out⟩
        | exact ⟨by rw [HQ.out]; rfl, HE2.out⟩
        | exact ⟨by rw [HQ.out]; rfl, HE1.out⟩
  have hk := hok
  simp only [freshOK, Bool.and_eq_true, decide_eq_true_eq] at hk
  obtain ⟨z1, k2, k3⟩ := hk
  have hlen := lenOK_parts z1
  have HL := Lib.hid z1; have HH := Lib.hid k2; have HK := Lib.hid k3
  have z2 : (hf != 0) = false := by rw [hhf, k2]; rfl
  have z3 : (lf != 0) = false := by rw [hlf, k3]; rfl
  have HR := Lib.hid (show R = firstD (freshP L H K txn len) (List.range L.length) by rw [hR, freshId, if_pos hok])
  have hln : L.length ≤ 512 := hlen.2.2.1
  have HLN := Lib.hid hlen
  clear h h2 h3 hR hok hhf hlf z1 k2 k3 hlen
  go_enter Try.func35, Try.ntmps35
  go_wp2_with (first
    | (go_at_call 66; refine (specLengths_calls _ _ _ _ _ HS.out).mono ?_; rw [HL.out]; rintro e w1 ⟨rfl, hO⟩; have HE1 := Lib.hid hO; clear hO)
    | (go_at_call 51; refine (specHoldsFault_calls _ _ _ _ _ (Rep.sl_ext HS2.out HE1.out)).mono ?_; rw [← HHF.out]; rintro e w2 ⟨rfl, hO⟩; have HE2 := Lib.hid (HE1.out.ext hO); clear hO)
    | (go_at_call 28; refine (specLocksFault_calls _ _ _ _ _ (Rep.sl_ext HS3.out HE2.out)).mono ?_; rw [← HLF.out]; rintro e w3 ⟨rfl, hO⟩; have HE3 := Lib.hid (HE2.out.ext hO); clear hO)
    | (go_at_call 43; refine (implIn_calls _ _ _ _).mono ?_; rintro e w9 ⟨rfl, rfl⟩))
  go_loopg [11] (L.length) (fun m i wr => ∃ k : Nat, m + k = L.length ∧ i = .int .i64 k ∧ Ext w wr ∧ ∀ j, j < k → freshP L H K txn len j = false)
  case atStart => exact ⟨0, by simp, rfl, HE3.out, fun j h => absurd h (Nat.not_lt_zero _)⟩
  case round =>
    obtain ⟨k, hmk, rfl, hE, hup⟩ := hrel
    have HE := Lib.hid hE; have HUP := Lib.hid hup; have HMK := Lib.hid hmk
    clear hE hup hmk
    by_cases hlt : k < L.length
    · obtain ⟨g, off, rfl, hg, -, a0, -⟩ := Rep.sl_int (Rep.sl_ext HS.out HE.out) k hlt
      have HHIT := Lib.hid (show freshP L H K txn len k = true → R = k from fun hp => by rw [HR.out]; exact first_hit hlt hp HUP.out)
      have HUP2 := Lib.hid (show freshP L H K txn len k = false → ∀ j, j < k + 1 → freshP L H K txn len j = false by
        intro hp j hj
        by_cases he : j = k
        · subst he; exact hp
        · exact HUP.out j (by omega))
      have hpe : freshP L H K txn len k = (decide (L[k] = -1) && (decide (mostL H k (-1) = -1) && (decide (modeL K txn k true = 0) && (inR len 0 1000 && roomForB L H k len)))) := by
        unfold freshP; rw [List.getElem?_eq_getElem hlt]; rfl
      have hmi : modeIf K txn k true = modeL K txn k true := by rw [modeIf, if_pos HK.out]
      generalize freshP L H K txn len k = pk at *
      generalize L[k] = lv at *
      obtain ⟨mo, hmo⟩ : ∃ mo, mo = mostL H k (-1) := ⟨_, rfl⟩
      obtain ⟨ml, hml⟩ : ∃ ml, ml = modeL K txn k true := ⟨_, rfl⟩
      obtain ⟨rf, hrf⟩ : ∃ rf, rf = (inR len 0 1000 && roomForB L H k len) := ⟨_, rfl⟩
      rw [← hmo, ← hml, ← hrf] at hpe
      rw [← hml] at hmi
      have HMO := Lib.hid hmo; have HMI := Lib.hid hmi
      have HRF := Lib.hid (show rf = (inR len 0 1000 && roomForB L H ((k : Int)).toNat len) by rw [hrf]; rfl)
      have hcs : ((lv == -1) = false ∧ pk = false) ∨ ((lv == -1) = true ∧ ((mo == -1) = false ∧ pk = false ∨ (mo == -1) = true ∧ ((ml == 0) = false ∧ pk = false ∨ (ml == 0) = true ∧ (rf = false ∧ pk = false ∨ rf = true ∧ pk = true)))) := by
        rw [hpe]
        by_cases a : lv = -1
        · refine .inr ⟨by simp [a], ?_⟩
          by_cases b : mo = -1
          · refine .inr ⟨by simp [b], ?_⟩
            by_cases d : ml = 0
            · refine .inr ⟨by simp [d], ?_⟩
              cases rf
              · exact .inl ⟨rfl, by simp⟩
              · exact .inr ⟨rfl, by simp [a, b, d]⟩
            · exact .inl ⟨by simp [d], by simp [d]⟩
          · exact .inl ⟨by simp [b], by simp [b]⟩
        · exact .inl ⟨by simp [a], by simp [a]⟩
      have HSP := Lib.hid (fun (W : World) (hW : Ext wr W) => specMost_calls _ _ _ _ _ (Rep.sl_ext HS2.out (HE.out.ext hW)) (k : Int))
      clear hpe hmo hml hrf hmi
      rcases hcs with ⟨y1, hq⟩ | ⟨y1, ⟨y2, hq⟩ | ⟨y2, ⟨y3, hq⟩ | ⟨y3, ⟨y4, hq⟩ | ⟨y4, hq⟩⟩⟩⟩
      iterate 4
        · subst hq
          have HQ := Lib.hid (HUP2.out rfl)
          clear HUP2 HHIT
          try (have Y4 := Lib.hid y4; clear y4)
          go_wp2_with (first
            | (go_at_call 53; refine (specMost_calls _ _ _ _ _ (Rep.sl_ext HS2.out HE.out) (k : Int)).mono ?_; rw [← HMO.out]; rintro e w4 ⟨rfl, hO⟩; have HE4 := Lib.hid (HE.out.ext hO); clear hO)
            | (go_at_call 41; refine (specOthers_calls _ _ _ _ _ (Rep.sl_ext HS3.out HE4.out) txn (k : Int)).mono ?_; rw [HMI.out]; rintro e w5 ⟨rfl, hO⟩; have HE5 := Lib.hid (HE4.out.ext hO); clear hO)
            | (go_at_call 67; refine (specRoomFor_calls _ _ _ _ _ (Rep.sl_ext HS.out HE5.out) _ _ _ _ (Rep.sl_ext HS2.out HE5.out) HL.out HH.out (k : Int) (by omega) (by omega) len).mono ?_; rw [← HRF.out, Y4.out]; rintro e w6 ⟨rfl, hO⟩; have HE6 := Lib.hid (HE5.out.ext hO); clear hO))
          go_roundg (L.length - (k + 1))
          case measure => have := HMK.out; omega
          case rel =>
            first
              | exact ⟨k + 1, by have := HMK.out; omega, by go_num, HE6.out, HQ.out⟩
              | exact ⟨k + 1, by have := HMK.out; omega, by go_num, HE5.out, HQ.out⟩
              | exact ⟨k + 1, by have := HMK.out; omega, by go_num, HE4.out, HQ.out⟩
              | exact ⟨k + 1, by have := HMK.out; omega, by go_num, HE.out, HQ.out⟩
      · subst hq
        have HQ := Lib.hid (HHIT.out rfl)
        have Y4 := Lib.hid y4
        clear HUP2 HHIT y4
        go_wp2_with (first
          | (go_at_call 53; refine (specMost_calls _ _ _ _ _ (Rep.sl_ext HS2.out HE.out) (k : Int)).mono ?_; rw [← HMO.out]; rintro e w4 ⟨rfl, hO⟩; have HE4 := Lib.hid (HE.out.ext hO); clear hO)
          | (go_at_call 41; refine (specOthers_calls _ _ _ _ _ (Rep.sl_ext HS3.out HE4.out) txn (k : Int)).mono ?_; rw [HMI.out]; rintro e w5 ⟨rfl, hO⟩; have HE5 := Lib.hid (HE4.out.ext hO); clear hO)
          | (go_at_call 67; refine (specRoomFor_calls _ _ _ _ _ (Rep.sl_ext HS.out HE5.out) _ _ _ _ (Rep.sl_ext HS2.out HE5.out) HL.out HH.out (k : Int) (by omega) (by omega) len).mono ?_; rw [← HRF.out, Y4.out]; rintro e w6 ⟨rfl, hO⟩; have HE6 := Lib.hid (HE5.out.ext hO); clear hO))
        go_ret
        exact ⟨by rw [HQ.out]; rfl, HE6.out⟩
    · have HQ := Lib.hid (show R = -1 by rw [HR.out]; exact first_miss fun j hj => HUP.out j (by have := HMK.out; omega))
      go_wp2
      go_ret
      exact ⟨by rw [HQ.out]; rfl, HE.out⟩
end Go.Proofs.Ytildfjlekplgjaa
