/- The place of a log sector; what a reader of a sector sees: both packages. -/
import Derived.Test.YtdjcfcgkldokgaaD14
import Derived.Test.YtdjcfcgkldokgaaFLog
namespace Go.Proofs.Ytdjcfcgkldokgaa
open Go.RowKit
set_option linter.unusedSimpArgs false
set_option linter.unusedVariables false
def inR (x a b : Int) : Bool := decide (x ≥ a) && decide (x ≤ b)
theorem specIn_calls (x a b : Int) (w : World) : Calls Try.prog 80 #[.int .i64 x, .int .i64 a, .int .i64 b] w fun e w' => e = .returned (.bool (inR x a b)) ∧ w = w' := by
  go_enter Try.func80, Try.ntmps80
  go_wp2
  all_goals (go_ret; exact ⟨ret_bool (by simp [inR, *] <;> omega), rfl⟩)
theorem implIn_calls (x a b : Int) (w : World) : Calls Try.prog 84 #[.int .i64 x, .int .i64 a, .int .i64 b] w fun e w' => e = .returned (.bool (inR x a b)) ∧ w = w' := by
  go_enter Try.func84, Try.ntmps84
  go_wp2
  all_goals (go_ret; exact ⟨ret_bool (by simp [inR, *] <;> omega), rfl⟩)
theorem inR_iff {x a b : Int} : inR x a b = true ↔ a ≤ x ∧ x ≤ b := by simp [inR]
def logPlace (m l : Int) : Int := if inR m 16 800 = true ∧ inR l 512 1099511627776 = true then 2 + (l / 512 - 1) % m else -1
theorem logPlace_bad {m l : Int} (h : ¬ (inR m 16 800 = true ∧ inR l 512 1099511627776 = true)) : logPlace m l = -1 := if_neg h
theorem logPlace_room {m l : Int} (h : inR m 16 800 = true ∧ inR l 512 1099511627776 = true) : 2 ≤ logPlace m l ∧ logPlace m l ≤ m + 1 := by
  rw [logPlace, if_pos h]
  obtain ⟨h1, h2⟩ := h
  rw [inR_iff] at h1 h2
  have := Int.emod_nonneg (l / 512 - 1) (b := m) (by omega)
  have := Int.emod_lt_of_pos (l / 512 - 1) (b := m) (by omega)
  omega
set_option maxRecDepth 100000 in
theorem specPlace_calls (m l : Int) (w : World) : Calls Try.prog 79 #[.int .i64 m, .int .i64 l] w fun e w' => e = .returned (.int .i64 (logPlace m l)) ∧ w = w' := by
  by_cases h1 : inR m 16 800 = true
  · by_cases h2 : inR l 512 1099511627776 = true
    · have hp : logPlace m l = 2 + (l / 512 - 1) % m := if_pos ⟨h1, h2⟩
      have g1 := inR_iff.1 h1
      have g2 := inR_iff.1 h2
      have HP := Lib.hid hp
      clear hp
      obtain ⟨m', rfl⟩ := Int.eq_ofNat_of_zero_le (show 0 ≤ m by omega)
      obtain ⟨l', rfl⟩ := Int.eq_ofNat_of_zero_le (show 0 ≤ l by omega)
      go_enter Try.func79, Try.ntmps79
      go_wp2_with (go_at_call 80; refine (specIn_calls _ _ _ _).mono ?_; rintro e w1 ⟨rfl, rfl⟩)
      go_ret
      refine ⟨?_, rfl⟩
      rw [HP.out]
      have hb := logPlace_room ⟨h1, h2⟩
      rw [HP.out] at hb
      exact congrArg (fun x => Ending.returned (.int .i64 x)) (by unfold wrap64; omega)
    · have h2' : inR l 512 1099511627776 = false := by simpa using h2
      rw [logPlace_bad (fun h => h2 h.2)]
      go_enter Try.func79, Try.ntmps79
      go_wp2_with (go_at_call 80; refine (specIn_calls _ _ _ _).mono ?_; rintro e w1 ⟨rfl, rfl⟩)
      go_ret
      exact ⟨rfl, rfl⟩
  · have h1' : inR m 16 800 = false := by simpa using h1
    rw [logPlace_bad (fun h => h1 h.1)]
    go_enter Try.func79, Try.ntmps79
    go_wp2_with (go_at_call 80; refine (specIn_calls _ _ _ _).mono ?_; rintro e w1 ⟨rfl, rfl⟩)
    go_ret
    exact ⟨rfl, rfl⟩
set_option maxRecDepth 100000 in
theorem implPlace_calls (m l : Int) (w : World) : Calls Try.prog 85 #[.int .i64 m, .int .i64 l] w fun e w' => e = .returned (.int .i64 (logPlace m l)) ∧ w = w' := by
  by_cases h1 : inR m 16 800 = true
  · by_cases h2 : inR l 512 1099511627776 = true
    · have hp : logPlace m l = 2 + (l / 512 - 1) % m := if_pos ⟨h1, h2⟩
      have g1 := inR_iff.1 h1
      have g2 := inR_iff.1 h2
      have HP := Lib.hid hp
      clear hp
      obtain ⟨m', rfl⟩ := Int.eq_ofNat_of_zero_le (show 0 ≤ m by omega)
      obtain ⟨l', rfl⟩ := Int.eq_ofNat_of_zero_le (show 0 ≤ l by omega)
      go_enter Try.func85, Try.ntmps85
      go_wp2_with (go_at_call 84; refine (implIn_calls _ _ _ _).mono ?_; rintro e w1 ⟨rfl, rfl⟩)
      go_ret
      refine ⟨?_, rfl⟩
      rw [HP.out]
      have hb := logPlace_room ⟨h1, h2⟩
      rw [HP.out] at hb
      exact congrArg (fun x => Ending.returned (.int .i64 x)) (by unfold wrap64; omega)
    · have h2' : inR l 512 1099511627776 = false := by simpa using h2
      rw [logPlace_bad (fun h => h2 h.2)]
      go_enter Try.func85, Try.ntmps85
      go_wp2_with (go_at_call 84; refine (implIn_calls _ _ _ _).mono ?_; rintro e w1 ⟨rfl, rfl⟩)
      go_ret
      exact ⟨rfl, rfl⟩
  · have h1' : inR m 16 800 = false := by simpa using h1
    rw [logPlace_bad (fun h => h1 h.1)]
    go_enter Try.func85, Try.ntmps85
    go_wp2_with (go_at_call 84; refine (implIn_calls _ _ _ _).mono ?_; rintro e w1 ⟨rfl, rfl⟩)
    go_ret
    exact ⟨rfl, rfl⟩
/-- A part of a slice of numbers. -/
theorem sl_sub {k : IntKind} {w : World} {g off c : Nat} {xs : List Int} {F : List Nat} (h : (Rep.int k).sl w (some ⟨g, off, none⟩) c xs F) (hx : xs ≠ []) (a n : Nat) (ha : a + n ≤ xs.length) :
    (Rep.int k).sl w (some ⟨g, off + a, none⟩) (c - a) ((xs.drop a).take n) F := by
  obtain ⟨h1, h2, ⟨rfl, _⟩ | ⟨g', off', G, cs, e, rfl, hg, hr, hc⟩⟩ := h
  · exact absurd rfl hx
  obtain ⟨rfl, rfl, hwf⟩ := cells_ints_inv hr
  injection e with e
  injection e with e1 e2
  subst e1; subst e2
  refine ⟨by simp; omega, by omega, .inr ⟨g, off + a, [], _, rfl, rfl, hg, cells_ints _ (fun x hx => hwf x (List.mem_of_mem_drop (List.mem_of_mem_take hx))), fun j u hu => ?_⟩⟩
  have hj := (List.getElem?_eq_some_iff.1 hu).1
  simp at hj
  have := hc (a + j) u (by
    rw [List.getElem?_map] at hu ⊢
    rw [List.getElem?_take, if_pos (by omega), List.getElem?_drop] at hu
    exact hu)
  rw [show off + a + j = off + (a + j) by omega]
  exact this
theorem sl_pre {k : IntKind} {w : World} {A : Option Addr} {c : Nat} {xs : List Int} {F : List Nat} (h : (Rep.int k).sl w A c xs F) (n : Nat) : ∃ F', (Rep.int k).sl w A c (xs.take n) F' ∧ ∀ g ∈ F', g ∈ F := by
  by_cases hx : xs = []
  · subst hx; exact ⟨F, by simpa using h, fun _ h => h⟩
  · obtain ⟨g, off, rfl, -⟩ := Rep.sl_int h 0 (List.length_pos_iff.2 hx)
    refine ⟨F, ?_, fun _ h => h⟩
    have h3 := sl_sub h hx 0 (min n xs.length) (by omega)
    have e : (xs.drop 0).take (min n xs.length) = xs.take n := by rw [List.drop_zero, ← List.take_take, List.take_length]
    rw [e] at h3
    exact h3
/-- The data that a reader of sector s sees. -/
def seenAt (xs : List DSectorWrite) (s : Int) : Nat → Option (List Int)
  | 0 => none
  | k + 1 => match xs[k]? with
    | some x => if x.Sector = s then some x.Data else seenAt xs s k
    | none => seenAt xs s k
def seenL (d : DDisk) (s : Int) : List Int := (seenAt d.Pending s d.Pending.length).getD ((d.Durable.drop (s.toNat * 512)).take 512)
theorem seenAt_hit {xs : List DSectorWrite} {s : Int} {k : Nat} (hk : k < xs.length) (h : xs[k].Sector = s) : seenAt xs s (k + 1) = some xs[k].Data := by
  simp [seenAt, hk, h]
theorem seenAt_miss {xs : List DSectorWrite} {s : Int} {k : Nat} (hk : k < xs.length) (h : xs[k].Sector ≠ s) : seenAt xs s (k + 1) = seenAt xs s k := by
  simp [seenAt, hk, h]
theorem seenAt_len {xs : List DSectorWrite} {s : Int} (n : Nat) (h : ∀ x ∈ xs, x.Data.length = 512) : ∀ k v, seenAt xs s k = some v → v.length = 512
  | 0, v, e => by simp [seenAt] at e
  | k + 1, v, e => by
    unfold seenAt at e
    split at e
    · rename_i x hx
      split at e
      · injection e with e; subst e; exact h x (List.mem_of_getElem? hx)
      · exact seenAt_len n h k v e
    · exact seenAt_len n h k v e
theorem seenL_len {d : DDisk} (hv : validDisk d = true) {s : Int} (h0 : 0 ≤ s) (h1 : s < (d.Durable.length / 512 : Nat)) : (seenL d s).length = 512 := by
  obtain ⟨v1, v2, v3, v4, v5⟩ := valid_facts hv
  unfold seenL
  cases hs : seenAt d.Pending s d.Pending.length with
  | none => simp; omega
  | some v => exact seenAt_len 0 (fun x hx => (okW_room (n := 0) (List.all_eq_true.1 v5 x hx)).1) _ _ hs
set_option maxRecDepth 100000 in
set_option maxHeartbeats 2000000 in
theorem seen_calls (n0 : Nat) (w : World) (A : Option Addr) (c : Nat) (Ap : Option Addr) (cp : Nat) (d : DDisk) (t : TypeId) (hrow : w.heap[n0]? = some (.cells #[.slice A d.Durable.length c, .slice Ap d.Pending.length cp] t (0, 0))) (F G : List Nat) (h1 : (Rep.int .u8).sl w A c d.Durable F) (h2 : Rep.SectorWrite.sl w Ap cp d.Pending G) (hv : validDisk d = true) (s : Nat) (hs : s < d.Durable.length / 512) :
    Calls Try.prog 78 #[.pointer (some ⟨n0, 0, none⟩), .int .i64 s] w fun e w' => w = w' ∧ ∃ A' c' F', e = .returned (.slice A' (seenL d s).length c') ∧ (Rep.int .u8).sl w A' c' (seenL d s) F' := by
  have hu := Try.underlying29
  have hu2 := Try.underlying64
  obtain ⟨v1, v2, v3, v4, v5⟩ := valid_facts hv
  have m0 := fun o => cell_of_row _ _ o _ _ _ hrow
  have hl := seenL_len hv (s := s) (by omega) (by omega)
  obtain ⟨R, hR⟩ : ∃ R, R = seenL d s := ⟨_, rfl⟩
  rw [← hR] at hl ⊢
  have HR := Lib.hid hR; have HL := Lib.hid hl; have H1 := Lib.hid h1; have H2 := Lib.hid h2
  clear hR hl h1 h2 hrow
  go_enter Try.func78, Try.ntmps78
  go_wp2
  go_loopg [5] (d.Pending.length) (fun m i wr => ∃ k : Nat, m = k ∧ k ≤ d.Pending.length ∧ i = .int .i64 ((k : Int) - 1) ∧ wr = w ∧ seenAt d.Pending s d.Pending.length = seenAt d.Pending s k)
  case atStart => exact ⟨d.Pending.length, rfl, Nat.le_refl _, by go_num, rfl, rfl⟩
  case round =>
    obtain ⟨k, hmk, hk, rfl, rfl, he⟩ := hrel
    have HE := Lib.hid he
    clear he
    rcases Nat.eq_zero_or_pos k with rfl | hkp
    · have hR0 : R = (d.Durable.drop (s * 512)).take 512 := by
        rw [HR.out, seenL, HE.out]; rfl
      have hne : d.Durable ≠ [] := by intro h; rw [h] at v2; simp at v2
      obtain ⟨g, off, rfl, -⟩ := Rep.sl_int H1.out 0 (by omega)
      have HS := Lib.hid (sl_sub H1.out hne (s * 512) 512 (by omega))
      have hcap := H1.out.1
      have hq0 : IntKind.i64.wrap ((s : Int) * 512) = (s : Int) * 512 := wrap_small _ (by omega) (by omega)
      have hq1 : ((s : Int) * 512).toNat = s * 512 := by omega
      have hq2 : IntKind.i64.wrap (((s : Int) + 1) * 512) = (s : Int) * 512 + 512 := by rw [wrap_small _ (by omega) (by omega)]; omega
      have hq3 : ((s : Int) * 512 + 512).toNat = s * 512 + 512 := by omega
      have hq4 : ¬ c = s * 512 := by omega
      have hq5 : (s : Int) * 512 + 512 ≤ (c : Int) := by omega
      have hq6 : (0 : Int) ≤ (s : Int) * 512 := by omega
      have HR0 := Lib.hid hR0
      clear hR0
      go_wp2
      go_ret
      refine ⟨rfl, some ⟨g, off + s * 512, none⟩, c - s * 512, F, ?_, ?_⟩
      · rw [HL.out]; rfl
      · rw [HR0.out]; exact HS.out
    · obtain ⟨j, rfl⟩ := Nat.exists_eq_succ_of_ne_zero (Nat.pos_iff_ne_zero.1 hkp)
      obtain ⟨g, off, Aj, cj, Fj, rfl, hg, hwf, t1, k0, k1⟩ := sl_SectorWrite H2.out j (by omega)
      have hjj : (((j + 1 : Nat) : Int) - 1) = (j : Int) := by omega
      rw [hjj]
      by_cases hm : d.Pending[j].Sector = (s : Int)
      · have hb : (d.Pending[j].Sector == (s : Int)) = true := by simp [hm]
        have HRj := Lib.hid (show R = d.Pending[j].Data by rw [HR.out, seenL, HE.out, seenAt_hit (by omega) hm]; rfl)
        have HT := Lib.hid t1
        generalize d.Pending[j] = x at *
        clear hm t1
        go_wp2
        go_ret
        refine ⟨rfl, Aj, cj, Fj, ?_, ?_⟩
        · rw [HRj.out]; rfl
        · rw [HRj.out]; exact HT.out
      · have hb : (d.Pending[j].Sector == (s : Int)) = false := by simp [hm]
        have HNe := Lib.hid (show seenAt d.Pending s d.Pending.length = seenAt d.Pending s j by rw [HE.out, seenAt_miss (by omega) hm])
        generalize d.Pending[j] = x at *
        clear hm
        go_wp2
        go_roundg j
        case measure => omega
        case rel => exact ⟨j, rfl, by omega, by go_num, rfl, HNe.out⟩
end Go.Proofs.Ytdjcfcgkldokgaa
