/- Locks: the modes. -/
import Derived.Test.YtildfjlekplgjaaN5
import Derived.Test.YtildfjlekplgjaaN6
namespace Go.Proofs.Ytildfjlekplgjaa
open Go.RowKit
set_option linter.unusedSimpArgs false
set_option linter.unusedVariables false
set_option maxRecDepth 100000 in
set_option maxHeartbeats 1000000 in
theorem lockMode_false (A : Option Addr) (c : Nat) (xs : List DLock) (F : List Nat) (w : World) (h : Rep.Lock.sl w A c xs F) (txn id : Int) :
    Calls Try.prog 44 #[.slice A xs.length c, .int .i64 txn, .int .i64 id, .bool false] w fun e w' => e = .returned (.int .i64 (modeL xs txn id false)) ∧ Ext w w' := by
  have hu := Try.underlying63
  have hm := Nat.le_trans h.1 h.2.1
  unfold maxLen at hm
  obtain ⟨R, hR⟩ : ∃ R, R = modeL xs txn id false := ⟨_, rfl⟩
  rw [← hR]
  obtain ⟨up, hup0⟩ : ∃ up, up = modeUp xs txn id false := ⟨_, rfl⟩
  have HR := Lib.hid (show R = up xs.length by rw [hR, hup0, modeUp_all]); have H := Lib.hid h
  have HN := Lib.hid (show ∀ k (hk : k < xs.length), up (k + 1) = modeStep txn id false (up k) xs[k] by rw [hup0]; exact modeUp_next xs txn id false)
  have HZ := Lib.hid (show up 0 = 0 by rw [hup0]; rfl)
  clear hR h hup0
  go_enter Try.func44, Try.ntmps44
  go_wp2
  go_loopg [9, 14] (xs.length) (fun m mv i wr => ∃ k : Nat, m + k = xs.length ∧ i = .int .i64 k ∧ mv = .int .i64 (up k) ∧ Ext w wr)
  case atStart => exact ⟨0, by simp, rfl, by rw [HZ.out], Only.refl _ _⟩
  case round =>
    obtain ⟨k, hmk, rfl, rfl, hE⟩ := hrel
    have HE := Lib.hid hE; have HMK := Lib.hid hmk
    clear hE hmk
    by_cases hlt : k < xs.length
    · obtain ⟨g, off, rfl, hg, -, a0, a1, a2⟩ := sl_Lock (Rep.sl_ext H.out HE.out) k hlt
      have HNX := Lib.hid (HN.out k hlt)
      generalize xs[k] = x at *
      generalize up k = m0 at *
      have hEA := alloc_ext wr (.cells #[.int .i64 x.Id, .int .i64 x.Txn, .int .i64 x.Mode] 63)
      have mo := fun o => cell_of_row _ _ o _ _ _ (heap_alloc_new wr (.cells #[.int .i64 x.Id, .int .i64 x.Txn, .int .i64 x.Mode] 63))
      have HEA := Lib.hid (HE.out.ext hEA)
      clear hEA
      have hcs : ((x.Id == id) = false ∧ up (k + 1) = m0) ∨ ((x.Id == id) = true ∧ (x.Txn == txn) = false ∧ up (k + 1) = m0) ∨ ((x.Id == id) = true ∧ (x.Txn == txn) = true ∧ m0 < x.Mode ∧ up (k + 1) = x.Mode) ∨ ((x.Id == id) = true ∧ (x.Txn == txn) = true ∧ ¬ m0 < x.Mode ∧ up (k + 1) = m0) := by
        rw [HNX.out]
        unfold modeStep
        by_cases h1 : x.Id = id
        · by_cases h2 : x.Txn = txn
          · by_cases h4 : m0 < x.Mode
            · exact .inr (.inr (.inl ⟨by simp [h1], by simp [h2], h4, by rw [if_pos ⟨h1, by simp [h2]⟩]; omega⟩))
            · exact .inr (.inr (.inr ⟨by simp [h1], by simp [h2], h4, by rw [if_pos ⟨h1, by simp [h2]⟩]; omega⟩))
          · exact .inr (.inl ⟨by simp [h1], by simp [h2], by rw [if_neg (by simp [h2])]⟩)
        · exact .inl ⟨by simp [h1], by rw [if_neg (fun h => h1 h.1)]⟩
      clear HNX
      rcases hcs with ⟨h1, hq⟩ | ⟨h1, h2, hq⟩ | ⟨h1, h2, h3, hq⟩ | ⟨h1, h2, h3, hq⟩
      all_goals
        have HQ := Lib.hid hq
        clear hq
        go_wp2
        go_roundg (xs.length - (k + 1))
        case measure => have := HMK.out; omega
        case rel => exact ⟨k + 1, by have := HMK.out; omega, by go_num, by rw [HQ.out], HEA.out⟩
    · have hkk : k = xs.length := by have := HMK.out; omega
      subst hkk
      go_wp2
      go_ret
      exact ⟨by rw [HR.out]; rfl, HE.out⟩
set_option maxRecDepth 100000 in
set_option maxHeartbeats 1000000 in
theorem lockMode_true (A : Option Addr) (c : Nat) (xs : List DLock) (F : List Nat) (w : World) (h : Rep.Lock.sl w A c xs F) (txn id : Int) :
    Calls Try.prog 44 #[.slice A xs.length c, .int .i64 txn, .int .i64 id, .bool true] w fun e w' => e = .returned (.int .i64 (modeL xs txn id true)) ∧ Ext w w' := by
  have hu := Try.underlying63
  have hm := Nat.le_trans h.1 h.2.1
  unfold maxLen at hm
  obtain ⟨R, hR⟩ : ∃ R, R = modeL xs txn id true := ⟨_, rfl⟩
  rw [← hR]
  obtain ⟨up, hup0⟩ : ∃ up, up = modeUp xs txn id true := ⟨_, rfl⟩
  have HR := Lib.hid (show R = up xs.length by rw [hR, hup0, modeUp_all]); have H := Lib.hid h
  have HN := Lib.hid (show ∀ k (hk : k < xs.length), up (k + 1) = modeStep txn id true (up k) xs[k] by rw [hup0]; exact modeUp_next xs txn id true)
  have HZ := Lib.hid (show up 0 = 0 by rw [hup0]; rfl)
  clear hR h hup0
  go_enter Try.func44, Try.ntmps44
  go_wp2
  go_loopg [9, 14] (xs.length) (fun m mv i wr => ∃ k : Nat, m + k = xs.length ∧ i = .int .i64 k ∧ mv = .int .i64 (up k) ∧ Ext w wr)
  case atStart => exact ⟨0, by simp, rfl, by rw [HZ.out], Only.refl _ _⟩
  case round =>
    obtain ⟨k, hmk, rfl, rfl, hE⟩ := hrel
    have HE := Lib.hid hE; have HMK := Lib.hid hmk
    clear hE hmk
    by_cases hlt : k < xs.length
    · obtain ⟨g, off, rfl, hg, -, a0, a1, a2⟩ := sl_Lock (Rep.sl_ext H.out HE.out) k hlt
      have HNX := Lib.hid (HN.out k hlt)
      generalize xs[k] = x at *
      generalize up k = m0 at *
      have hEA := alloc_ext wr (.cells #[.int .i64 x.Id, .int .i64 x.Txn, .int .i64 x.Mode] 63)
      have mo := fun o => cell_of_row _ _ o _ _ _ (heap_alloc_new wr (.cells #[.int .i64 x.Id, .int .i64 x.Txn, .int .i64 x.Mode] 63))
      have HEA := Lib.hid (HE.out.ext hEA)
      clear hEA
      have hcs : ((x.Id == id) = false ∧ up (k + 1) = m0) ∨ ((x.Id == id) = true ∧ (x.Txn == txn) = true ∧ up (k + 1) = m0) ∨ ((x.Id == id) = true ∧ (x.Txn == txn) = false ∧ m0 < x.Mode ∧ up (k + 1) = x.Mode) ∨ ((x.Id == id) = true ∧ (x.Txn == txn) = false ∧ ¬ m0 < x.Mode ∧ up (k + 1) = m0) := by
        rw [HNX.out]
        unfold modeStep
        by_cases h1 : x.Id = id
        · by_cases h2 : x.Txn = txn
          · exact .inr (.inl ⟨by simp [h1], by simp [h2], by rw [if_neg (by simp [h2])]⟩)
          · by_cases h4 : m0 < x.Mode
            · exact .inr (.inr (.inl ⟨by simp [h1], by simp [h2], h4, by rw [if_pos ⟨h1, by simp [h2]⟩]; omega⟩))
            · exact .inr (.inr (.inr ⟨by simp [h1], by simp [h2], h4, by rw [if_pos ⟨h1, by simp [h2]⟩]; omega⟩))
        · exact .inl ⟨by simp [h1], by rw [if_neg (fun h => h1 h.1)]⟩
      clear HNX
      rcases hcs with ⟨h1, hq⟩ | ⟨h1, h2, hq⟩ | ⟨h1, h2, h3, hq⟩ | ⟨h1, h2, h3, hq⟩
      all_goals
        have HQ := Lib.hid hq
        clear hq
        go_wp2
        go_roundg (xs.length - (k + 1))
        case measure => have := HMK.out; omega
        case rel => exact ⟨k + 1, by have := HMK.out; omega, by go_num, by rw [HQ.out], HEA.out⟩
    · have hkk : k = xs.length := by have := HMK.out; omega
      subst hkk
      go_wp2
      go_ret
      exact ⟨by rw [HR.out]; rfl, HE.out⟩
theorem lockMode_calls (A : Option Addr) (c : Nat) (xs : List DLock) (F : List Nat) (w : World) (h : Rep.Lock.sl w A c xs F) (txn id : Int) (other : Bool) :
    Calls Try.prog 44 #[.slice A xs.length c, .int .i64 txn, .int .i64 id, .bool other] w fun e w' => e = .returned (.int .i64 (modeL xs txn id other)) ∧ Ext w w' := by
  cases other
  · exact lockMode_false A c xs F w h txn id
  · exact lockMode_true A c xs F w h txn id
def modeIf (xs : List DLock) (txn id : Int) (other : Bool) : Int := if locksFault xs = 0 then modeL xs txn id other else 0
set_option maxRecDepth 100000 in
theorem implMode_calls (A : Option Addr) (c : Nat) (xs : List DLock) (F : List Nat) (w : World) (h : Rep.Lock.sl w A c xs F) (txn id : Int) :
    Calls Try.prog 29 #[.slice A xs.length c, .int .i64 txn, .int .i64 id] w fun e w' => e = .returned (.int .i64 (modeIf xs txn id false)) ∧ Ext w w' := by
  obtain ⟨R, hR⟩ : ∃ R, R = modeIf xs txn id false := ⟨_, rfl⟩
  rw [← hR]
  obtain ⟨lf, hlf⟩ : ∃ lf, lf = locksFault xs := ⟨_, rfl⟩
  have HR := Lib.hid hR; have H := Lib.hid h; have HL := Lib.hid hlf
  clear hR h hlf
  go_enter Try.func29, Try.ntmps29
  by_cases h0 : lf = 0
  · have hb : (lf != 0) = false := by simp [h0]
    have HRe := Lib.hid (show R = modeL xs txn id false by rw [HR.out, modeIf, if_pos (by rw [← HL.out]; exact h0)])
    clear h0
    go_wp2_with fail
    refine (implLocksFault_calls _ _ _ _ _ H.out).mono ?_
    rw [← HL.out]
    rintro e w1 ⟨rfl, hO⟩
    have HE := Lib.hid hO
    clear hO
    go_wp2_with fail
    refine (lockMode_calls _ _ _ _ _ (Rep.sl_ext H.out HE.out) txn id false).mono ?_
    rw [← HRe.out]
    rintro e w2 ⟨rfl, hO⟩
    have HE2 := Lib.hid (HE.out.ext hO)
    clear hO
    go_wp2
    go_ret
    exact ⟨rfl, HE2.out⟩
  · have hb : (lf != 0) = true := by simp [h0]
    have HRe := Lib.hid (show R = 0 by rw [HR.out, modeIf, if_neg (by rw [← HL.out]; exact h0)])
    clear h0
    go_wp2_with fail
    refine (implLocksFault_calls _ _ _ _ _ H.out).mono ?_
    rw [← HL.out]
    rintro e w1 ⟨rfl, hO⟩
    have HE := Lib.hid hO
    clear hO
    go_wp2
    go_ret
    exact ⟨by rw [HRe.out]; rfl, HE.out⟩
set_option maxRecDepth 100000 in
theorem implOthers_calls (A : Option Addr) (c : Nat) (xs : List DLock) (F : List Nat) (w : World) (h : Rep.Lock.sl w A c xs F) (txn id : Int) :
    Calls Try.prog 26 #[.slice A xs.length c, .int .i64 txn, .int .i64 id] w fun e w' => e = .returned (.int .i64 (modeIf xs txn id true)) ∧ Ext w w' := by
  obtain ⟨R, hR⟩ : ∃ R, R = modeIf xs txn id true := ⟨_, rfl⟩
  rw [← hR]
  obtain ⟨lf, hlf⟩ : ∃ lf, lf = locksFault xs := ⟨_, rfl⟩
  have HR := Lib.hid hR; have H := Lib.hid h; have HL := Lib.hid hlf
  clear hR h hlf
  go_enter Try.func26, Try.ntmps26
  by_cases h0 : lf = 0
  · have hb : (lf != 0) = false := by simp [h0]
    have HRe := Lib.hid (show R = modeL xs txn id true by rw [HR.out, modeIf, if_pos (by rw [← HL.out]; exact h0)])
    clear h0
    go_wp2_with fail
    refine (implLocksFault_calls _ _ _ _ _ H.out).mono ?_
    rw [← HL.out]
    rintro e w1 ⟨rfl, hO⟩
    have HE := Lib.hid hO
    clear hO
    go_wp2_with fail
    refine (lockMode_calls _ _ _ _ _ (Rep.sl_ext H.out HE.out) txn id true).mono ?_
    rw [← HRe.out]
    rintro e w2 ⟨rfl, hO⟩
    have HE2 := Lib.hid (HE.out.ext hO)
    clear hO
    go_wp2
    go_ret
    exact ⟨rfl, HE2.out⟩
  · have hb : (lf != 0) = true := by simp [h0]
    have HRe := Lib.hid (show R = 0 by rw [HR.out, modeIf, if_neg (by rw [← HL.out]; exact h0)])
    clear h0
    go_wp2_with fail
    refine (implLocksFault_calls _ _ _ _ _ H.out).mono ?_
    rw [← HL.out]
    rintro e w1 ⟨rfl, hO⟩
    have HE := Lib.hid hO
    clear hO
    go_wp2
    go_ret
    exact ⟨by rw [HRe.out]; rfl, HE.out⟩
set_option maxRecDepth 100000 in
set_option maxHeartbeats 1000000 in
theorem specMode_calls (A : Option Addr) (c : Nat) (xs : List DLock) (F : List Nat) (w : World) (h : Rep.Lock.sl w A c xs F) (txn id : Int) :
    Calls Try.prog 40 #[.slice A xs.length c, .int .i64 txn, .int .i64 id] w fun e w' => e = .returned (.int .i64 (modeIf xs txn id false)) ∧ Ext w w' := by
  have hu := Try.underlying63
  have hm := Nat.le_trans h.1 h.2.1
  unfold maxLen at hm
  obtain ⟨R, hR⟩ : ∃ R, R = modeIf xs txn id false := ⟨_, rfl⟩
  rw [← hR]
  obtain ⟨lf, hlf⟩ : ∃ lf, lf = locksFault xs := ⟨_, rfl⟩
  have HR := Lib.hid hR; have H := Lib.hid h; have HL := Lib.hid hlf
  clear hR h hlf
  go_enter Try.func40, Try.ntmps40
  by_cases h0 : lf = 0
  rotate_left
  · have hb : (lf != 0) = true := by simp [h0]
    have HRe := Lib.hid (show R = 0 by rw [HR.out, modeIf, if_neg (by rw [← HL.out]; exact h0)])
    clear h0
    go_wp2_with fail
    refine (specLocksFault_calls _ _ _ _ _ H.out).mono ?_
    rw [← HL.out]
    rintro e w1 ⟨rfl, hO⟩
    have HE := Lib.hid hO
    clear hO
    go_wp2
    go_ret
    exact ⟨by rw [HRe.out]; rfl, HE.out⟩
  have hb : (lf != 0) = false := by simp [h0]
  have HRe := Lib.hid (show R = modeL xs txn id false by rw [HR.out, modeIf, if_pos (by rw [← HL.out]; exact h0)])
  have HPT := Lib.hid (locksFault_parts (by rw [← HL.out]; exact h0))
  clear h0
  go_wp2_with fail
  refine (specLocksFault_calls _ _ _ _ _ H.out).mono ?_
  rw [← HL.out]
  rintro e w1 ⟨rfl, hO⟩
  have HE1 := Lib.hid hO
  clear hO
  go_wp2
  go_loopg [7] (xs.length) (fun m i wr => ∃ k : Nat, m + k = xs.length ∧ i = .int .i64 k ∧ Ext w wr ∧ ∀ j (hj : j < xs.length), j < k → ¬ (xs[j].Id = id ∧ xs[j].Txn = txn))
  case atStart => exact ⟨0, by simp, rfl, HE1.out, fun j hj h => absurd h (Nat.not_lt_zero _)⟩
  case round =>
    obtain ⟨k, hmk, rfl, hE, hup⟩ := hrel
    have HE := Lib.hid hE; have HUP := Lib.hid hup; have HMK := Lib.hid hmk
    clear hE hup hmk
    by_cases hlt : k < xs.length
    · obtain ⟨g, off, rfl, hg, -, a0, a1, a2⟩ := sl_Lock (Rep.sl_ext H.out HE.out) k hlt
      have HB := Lib.hid (show xs[k].Id = id → xs[k].Txn = txn → R = xs[k].Mode from fun h1 h2 => by rw [HRe.out]; exact modeL_hit HPT.out.2.2.1 HPT.out.2.1 txn id k hlt h1 h2)
      have HG := Lib.hid (show ¬ (xs[k].Id = id ∧ xs[k].Txn = txn) → ∀ j (hj : j < xs.length), j < k + 1 → ¬ (xs[j].Id = id ∧ xs[j].Txn = txn) by
        intro hn j hj hjk
        by_cases he : j = k
        · subst he; exact hn
        · exact HUP.out j hj (by omega))
      generalize xs[k] = x at *
      by_cases h1 : x.Id = id
      · have b1 : (x.Id == id) = true := by simp [h1]
        by_cases h2 : x.Txn = txn
        · have b2 : (x.Txn == txn) = true := by simp [h2]
          have HQ := Lib.hid (HB.out h1 h2)
          clear h1 h2 HB HG
          go_wp2
          go_ret
          exact ⟨by rw [HQ.out]; rfl, HE.out⟩
        · have b2 : (x.Txn == txn) = false := by simp [h2]
          have HQ := Lib.hid (HG.out (fun h => h2 h.2))
          clear h1 h2 HB HG
          go_wp2
          go_roundg (xs.length - (k + 1))
          case measure => have := HMK.out; omega
          case rel => exact ⟨k + 1, by have := HMK.out; omega, by go_num, HE.out, HQ.out⟩
      · have b1 : (x.Id == id) = false := by simp [h1]
        have HQ := Lib.hid (HG.out (fun h => h1 h.1))
        clear h1 HB HG
        go_wp2
        go_roundg (xs.length - (k + 1))
        case measure => have := HMK.out; omega
        case rel => exact ⟨k + 1, by have := HMK.out; omega, by go_num, HE.out, HQ.out⟩
    · have HQ := Lib.hid (show R = 0 by rw [HRe.out]; exact modeL_none txn id fun j hj => HUP.out j hj (by have := HMK.out; omega))
      go_wp2
      go_ret
      exact ⟨by rw [HQ.out]; rfl, HE.out⟩
set_option maxRecDepth 100000 in
set_option maxHeartbeats 1000000 in
theorem specOthers_calls (A : Option Addr) (c : Nat) (xs : List DLock) (F : List Nat) (w : World) (h : Rep.Lock.sl w A c xs F) (txn id : Int) :
    Calls Try.prog 41 #[.slice A xs.length c, .int .i64 txn, .int .i64 id] w fun e w' => e = .returned (.int .i64 (modeIf xs txn id true)) ∧ Ext w w' := by
  have hu := Try.underlying63
  have hm := Nat.le_trans h.1 h.2.1
  unfold maxLen at hm
  obtain ⟨R, hR⟩ : ∃ R, R = modeIf xs txn id true := ⟨_, rfl⟩
  rw [← hR]
  obtain ⟨lf, hlf⟩ : ∃ lf, lf = locksFault xs := ⟨_, rfl⟩
  have HR := Lib.hid hR; have H := Lib.hid h; have HL := Lib.hid hlf
  clear hR h hlf
  go_enter Try.func41, Try.ntmps41
  by_cases h0 : lf = 0
  rotate_left
  · have hb : (lf != 0) = true := by simp [h0]
    have HRe := Lib.hid (show R = 0 by rw [HR.out, modeIf, if_neg (by rw [← HL.out]; exact h0)])
    clear h0
    go_wp2_with fail
    refine (specLocksFault_calls _ _ _ _ _ H.out).mono ?_
    rw [← HL.out]
    rintro e w1 ⟨rfl, hO⟩
    have HE := Lib.hid hO
    clear hO
    go_wp2
    go_ret
    exact ⟨by rw [HRe.out]; rfl, HE.out⟩
  have hb : (lf != 0) = false := by simp [h0]
  have HRe := Lib.hid (show R = modeL xs txn id true by rw [HR.out, modeIf, if_pos (by rw [← HL.out]; exact h0)])
  have HPT := Lib.hid (locksFault_parts (by rw [← HL.out]; exact h0))
  clear h0
  go_wp2_with fail
  refine (specLocksFault_calls _ _ _ _ _ H.out).mono ?_
  rw [← HL.out]
  rintro e w1 ⟨rfl, hO⟩
  have HE1 := Lib.hid hO
  clear hO
  go_wp2
  obtain ⟨up, hup0⟩ : ∃ up, up = modeUp xs txn id true := ⟨_, rfl⟩
  have HN := Lib.hid (show ∀ k (hk : k < xs.length), up (k + 1) = modeStep txn id true (up k) xs[k] by rw [hup0]; exact modeUp_next xs txn id true)
  have HZ := Lib.hid (show up 0 = 0 by rw [hup0]; rfl)
  have HU := Lib.hid (show R = up xs.length by rw [HRe.out, hup0, modeUp_all])
  clear hup0
  go_loopg [7, 8] (xs.length) (fun m mv i wr => ∃ k : Nat, m + k = xs.length ∧ i = .int .i64 k ∧ mv = .int .i64 (up k) ∧ Ext w wr)
  case atStart => exact ⟨0, by simp, rfl, by rw [HZ.out], HE1.out⟩
  case round =>
    obtain ⟨k, hmk, rfl, rfl, hE⟩ := hrel
    have HE := Lib.hid hE; have HMK := Lib.hid hmk
    clear hE hmk
    by_cases hlt : k < xs.length
    · obtain ⟨g, off, rfl, hg, -, a0, a1, a2⟩ := sl_Lock (Rep.sl_ext H.out HE.out) k hlt
      have HNX := Lib.hid (HN.out k hlt)
      generalize xs[k] = x at *
      generalize up k = m0 at *
      have hcs : ((x.Id == id) = false ∧ up (k + 1) = m0) ∨ ((x.Id == id) = true ∧ (x.Txn != txn) = false ∧ up (k + 1) = m0) ∨ ((x.Id == id) = true ∧ (x.Txn != txn) = true ∧ decide (m0 < x.Mode) = true ∧ up (k + 1) = x.Mode) ∨ ((x.Id == id) = true ∧ (x.Txn != txn) = true ∧ decide (m0 < x.Mode) = false ∧ up (k + 1) = m0) := by
        rw [HNX.out]
        unfold modeStep
        by_cases h1 : x.Id = id
        · by_cases h2 : x.Txn = txn
          · exact .inr (.inl ⟨by simp [h1], by simp [h2], by rw [if_neg (by simp [h2])]⟩)
          · by_cases h4 : m0 < x.Mode
            · exact .inr (.inr (.inl ⟨by simp [h1], by simp [h2], by simp [h4], by rw [if_pos ⟨h1, by simp [h2]⟩]; omega⟩))
            · exact .inr (.inr (.inr ⟨by simp [h1], by simp [h2], by simp; omega, by rw [if_pos ⟨h1, by simp [h2]⟩]; omega⟩))
        · exact .inl ⟨by simp [h1], by rw [if_neg (fun h => h1 h.1)]⟩
      clear HNX
      rcases hcs with ⟨h1, hq⟩ | ⟨h1, h2, hq⟩ | ⟨h1, h2, h3, hq⟩ | ⟨h1, h2, h3, hq⟩
      all_goals
        have HQ := Lib.hid hq
        clear hq
        go_wp2
        go_roundg (xs.length - (k + 1))
        case measure => have := HMK.out; omega
        case rel => exact ⟨k + 1, by have := HMK.out; omega, by go_num, by rw [HQ.out], HE.out⟩
    · have hkk : k = xs.length := by have := HMK.out; omega
      subst hkk
      go_wp2
      go_ret
      exact ⟨by rw [HU.out]; rfl, HE.out⟩
end Go.Proofs.Ytildfjlekplgjaa
