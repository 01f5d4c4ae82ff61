/- FnHolds: the calls it makes: RoomLeft, RoomFor, HoldFree, HoldTake, lwFits. -/
import Derived.Test.YtildfjlekplgjaaH0
import Derived.Test.YtildfjlekplgjaaR2
import Derived.Test.YtildfjlekplgjaaI0
namespace Go.Proofs.Ytildfjlekplgjaa
open Go.RowKit
set_option linter.unusedSimpArgs false
set_option linter.unusedVariables false
theorem len32OK {L : List Int} (h : L.length = 32) (hr : ∀ i, i < 32 → -1 ≤ L.getD i 0 ∧ L.getD i 0 ≤ 1000) : lenOK L = true := by
  simp only [lenOK, h, Bool.and_eq_true, decide_eq_true_eq, List.all_eq_true]
  refine ⟨⟨⟨by decide, by decide⟩, by decide⟩, fun x hx => ?_⟩
  obtain ⟨i, hi, rfl⟩ := List.getElem_of_mem hx
  have := hr i (by omega)
  rw [List.getD_eq_getElem?_getD, List.getElem?_eq_getElem hi] at this
  exact inR_iff.2 this
set_option maxRecDepth 100000 in
set_option maxHeartbeats 2000000 in
theorem implRoomLeft_calls (A : Option Addr) (c : Nat) (L : List Int) (F : List Nat) (w : World) (h : (Rep.int .i64).sl w A c L F) (A2 : Option Addr) (c2 : Nat) (H : List DHold) (F2 : List Nat) (h2 : Rep.Hold.sl w A2 c2 H F2)
    (h32 : L.length = 32) (hL : lenOK L = true) (hH : holdsFault H = 0) :
    Calls Try.prog 30 #[.slice A L.length c, .slice A2 H.length c2, .int .i64 0] w fun e w' => e = .returned (.int .i64 (roomL L H 0)) ∧ Ext w w' := by
  obtain ⟨rl, hrl⟩ : ∃ rl, rl = roomL L H 0 := ⟨_, rfl⟩
  rw [← hrl]
  have HS := Lib.hid h; have HS2 := Lib.hid h2; have HL := Lib.hid hL; have HH := Lib.hid hH; have HRL := Lib.hid hrl; have H32 := Lib.hid h32
  have q1 : (L.length : Int).tdiv 32 = 1 := by rw [h32]; rfl
  have q2 : IntKind.i64.wrap ((L.length : Int).tdiv 32) = 1 := by rw [q1]; rfl
  have q3 : inR 0 0 0 = true := rfl
  clear h h2 hL hH hrl h32
  go_enter Try.func30, Try.ntmps30
  go_wp2_with (first
    | (go_at_call 62; refine (implLengths_calls _ _ _ _ _ HS.out).mono ?_; rw [HL.out]; rintro e w1 ⟨rfl, hO⟩; have HE1 := Lib.hid hO; clear hO)
    | (go_at_call 34; refine (implHoldsFault_calls _ _ _ _ _ (Rep.sl_ext HS2.out HE1.out)).mono ?_; rw [HH.out]; rintro e w2 ⟨rfl, hO⟩; have HE2 := Lib.hid (HE1.out.ext hO); clear hO)
    | (go_at_call 43; refine (implIn_calls _ _ _ _).mono ?_; rintro e w9 ⟨rfl, rfl⟩)
    | (go_at_call 63; refine (roomLeft_calls _ _ _ _ _ (Rep.sl_ext HS.out HE2.out) _ _ _ _ (Rep.sl_ext HS2.out HE2.out) HL.out HH.out 0 0 rfl (by rw [H32.out]; decide)).mono ?_; rintro e w3 ⟨rfl, hO⟩; rw [← HRL.out]; have HE3 := Lib.hid (HE2.out.ext hO); clear hO))
  go_ret
  exact ⟨rfl, HE3.out⟩
set_option maxRecDepth 100000 in
set_option maxHeartbeats 2000000 in
theorem implRoomFor_calls (A : Option Addr) (c : Nat) (L : List Int) (F : List Nat) (w : World) (h : (Rep.int .i64).sl w A c L F) (A2 : Option Addr) (c2 : Nat) (H : List DHold) (F2 : List Nat) (h2 : Rep.Hold.sl w A2 c2 H F2)
    (h32 : L.length = 32) (hL : lenOK L = true) (hH : holdsFault H = 0) (id : Nat) (hi : id < 32) (len : Int) (hl0 : 0 ≤ len) (hl1 : len ≤ 1000) :
    Calls Try.prog 31 #[.slice A L.length c, .slice A2 H.length c2, .int .i64 id, .int .i64 len] w fun e w' => e = .returned (.bool (roomForB L H id len)) ∧ Ext w w' := by
  obtain ⟨rl, hrl⟩ : ∃ rl, rl = roomForB L H id len := ⟨_, rfl⟩
  rw [← hrl]
  have HS := Lib.hid h; have HS2 := Lib.hid h2; have HL := Lib.hid hL; have HH := Lib.hid hH; have HRL := Lib.hid hrl; have H32 := Lib.hid h32
  obtain ⟨m, hm⟩ : ∃ m : Int, m = (L.length : Int) - 1 := ⟨_, rfl⟩
  have q2 : IntKind.i64.wrap ((L.length : Int) - 1) = m := by rw [hm, h32]; rfl
  have q3 : inR (id : Int) 0 m = true := inR_iff.2 (by omega)
  have q4 : inR len 0 1000 = true := inR_iff.2 ⟨hl0, hl1⟩
  have HI := Lib.hid hi
  clear h h2 hL hH hrl h32 hm hi
  go_enter Try.func31, Try.ntmps31
  go_wp2_with (first
    | (go_at_call 62; refine (implLengths_calls _ _ _ _ _ HS.out).mono ?_; rw [HL.out]; rintro e w1 ⟨rfl, hO⟩; have HE1 := Lib.hid hO; clear hO)
    | (go_at_call 34; refine (implHoldsFault_calls _ _ _ _ _ (Rep.sl_ext HS2.out HE1.out)).mono ?_; rw [HH.out]; rintro e w2 ⟨rfl, hO⟩; have HE2 := Lib.hid (HE1.out.ext hO); clear hO)
    | (go_at_call 43; refine (implIn_calls _ _ _ _).mono ?_; rintro e w9 ⟨rfl, rfl⟩)
    | (go_at_call 64; refine (roomFor_calls _ _ _ _ _ (Rep.sl_ext HS.out HE2.out) _ _ _ _ (Rep.sl_ext HS2.out HE2.out) HL.out HH.out id (by omega) (by have := HI.out; have := H32.out; omega) len hl0 hl1).mono ?_; rintro e w3 ⟨rfl, hO⟩; rw [Int.toNat_natCast, ← HRL.out]; have HE3 := Lib.hid (HE2.out.ext hO); clear hO))
  go_ret
  exact ⟨rfl, HE3.out⟩
set_option maxRecDepth 100000 in
set_option maxHeartbeats 2000000 in
theorem lwFits_calls (A : Option Addr) (c : Nat) (L : List Int) (F : List Nat) (w : World) (h : (Rep.int .i64).sl w A c L F) (h32 : L.length = 32) (hr : ∀ i, i < 32 → -1 ≤ L.getD i 0 ∧ L.getD i 0 ≤ 1000) (hf : fitUp L 32 ≤ 3948) :
    Calls Try.prog 33 #[.slice A L.length c] w fun e w' => e = .returned (.bool true) ∧ Ext w w' := by
  have HS := Lib.hid h; have H32 := Lib.hid h32; have HF := Lib.hid hf
  obtain ⟨up, hup⟩ : ∃ up, up = fitUp L := ⟨_, rfl⟩
  have hb : ∀ k, k ≤ 32 → 0 ≤ up k ∧ up k ≤ 32000 := by
    rw [hup]
    have h0 := fun k => (fitUp_room L [] k).1
    intro k hk
    have h1 : fitUp L k ≤ 1000 * k := fitUp_le L (fun i => by
      rcases Nat.lt_or_ge i 32 with hi | hi
      · exact (hr i hi).2
      · rw [List.getD_eq_getElem?_getD, List.getElem?_eq_none (by omega)]; decide) k
    exact ⟨h0 k, by omega⟩
  have hnx : ∀ k, up (k + 1) = if 0 < L.getD k 0 then up k + L.getD k 0 else up k := fun k => by rw [hup]; rfl
  have h0 : up 0 = 0 := by rw [hup]; rfl
  rw [← hup] at HF
  have HB := Lib.hid hb; have HN := Lib.hid hnx; have HR := Lib.hid hr; have HZ := Lib.hid h0
  clear h h32 hf hup hb hnx hr h0
  go_enter Try.func33, Try.ntmps33
  go_wp2
  go_loopg [4, 3] 32 (fun m i n wr => ∃ k : Nat, m + k = 32 ∧ i = .int .i64 k ∧ n = .int .i64 (up k) ∧ Ext w wr)
  case atStart => exact ⟨0, by simp, rfl, by rw [HZ.out], Only.refl _ _⟩
  case round =>
    obtain ⟨k, hk, rfl, rfl, hE⟩ := hrel
    have HK := Lib.hid hk; have HE := Lib.hid hE
    clear hE
    by_cases hlt : k < 32
    · have hkl : k < L.length := by rw [H32.out]; exact hlt
      obtain ⟨g, off, rfl, hg, -, a0, -⟩ := Rep.sl_int HS.out k hkl
      have a1 := HE.out.ecell a0
      obtain ⟨v, hv⟩ : ∃ v, v = L[k] := ⟨_, rfl⟩
      have hgd : L.getD k 0 = v := by rw [List.getD_eq_getElem?_getD, List.getElem?_eq_getElem hkl, hv]; rfl
      rw [← hv] at a1
      have hvr := HR.out k hlt
      have hbk := HB.out k (by omega)
      have hn := HN.out k
      rw [hgd] at hn hvr
      obtain ⟨s, hs⟩ : ∃ s, s = up k := ⟨_, rfl⟩
      rw [← hs] at hbk hn ⊢
      obtain ⟨b1, b2⟩ := hbk; obtain ⟨v1, v2⟩ := hvr
      have q1 : IntKind.i64.wrap (s + v) = s + v := by rw [IntKind.wrap_i64] <;> omega
      have hki : (k : Int) < (L.length : Int) := by omega
      clear hk hv hgd a0 hs
      by_cases hp : 0 < v
      · rw [if_pos hp] at hn
        have HNX := Lib.hid hn
        clear hn
        go_wp2
        go_roundg (32 - (k + 1))
        case measure => have := HK.out; omega
        case rel => exact ⟨k + 1, by have := HK.out; omega, rfl, by rw [HNX.out], HE.out⟩
      · rw [if_neg hp] at hn
        have HNX := Lib.hid hn
        clear hn
        go_wp2
        go_roundg (32 - (k + 1))
        case measure => have := HK.out; omega
        case rel => exact ⟨k + 1, by have := HK.out; omega, rfl, by rw [HNX.out], HE.out⟩
    · obtain rfl : k = 32 := by omega
      have hle := HF.out
      have hb : decide (up 32 ≤ 3948) = true := by simp [hle]
      generalize up 32 = s at *
      clear hk hle
      go_wp2
      go_ret
      exact ⟨rfl, HE.out⟩
theorem freeIs2_calls (x : DHold) (w : World) (nb : Nat) (txn : Int) (h0 : w.cell? ⟨nb, 0, none⟩ = some (.int .i64 txn)) :
    Calls Try.prog 65 #[.agg #[.int .i64 x.Id, .int .i64 x.Txn, .int .i64 x.Most], .pointer (some ⟨nb, 0, none⟩)] w fun e w' => e = .returned (.bool (decide (x.Txn = txn))) ∧ Ext w w' := by
  have hu := Try.underlying75
  have hlt : nb < w.heap.size := World.block_lt_of_cell? w ⟨nb, 0, none⟩ h0
  have c0 := (alloc_ext w (.cells #[.int .i64 x.Id, .int .i64 x.Txn, .int .i64 x.Most] 75)).ecell h0
  have mo := fun o => cell_of_row _ _ o _ _ _ (heap_alloc_new w (.cells #[.int .i64 x.Id, .int .i64 x.Txn, .int .i64 x.Most] 75))
  have hE := alloc_ext w (.cells #[.int .i64 x.Id, .int .i64 x.Txn, .int .i64 x.Most] 75)
  have HE := Lib.hid hE
  clear hE
  go_enter Try.func65, Try.ntmps65
  by_cases hh : x.Txn = txn
  · have hb : (x.Txn == txn) = true := by simp [hh]
    have hd : decide (x.Txn = txn) = true := by simp [hh]
    rw [hd]
    clear hh hd
    go_wp2
    go_ret
    exact ⟨rfl, HE.out⟩
  · have hb : (x.Txn == txn) = false := by simp [hh]
    have hd : decide (x.Txn = txn) = false := by simp [hh]
    rw [hd]
    clear hh hd
    go_wp2
    go_ret
    exact ⟨rfl, HE.out⟩
set_option maxRecDepth 100000 in
set_option maxHeartbeats 2000000 in
theorem holdFree_calls (A : Option Addr) (c : Nat) (xs : List DHold) (F : List Nat) (w : World) (h : Rep.Hold.sl w A c xs F) (txn : Int) (hs : xs.length ≤ 1048576) (hok : holdsFault xs = 0) :
    Calls Try.prog 32 #[.slice A xs.length c, .int .i64 txn] w fun e w' => ∃ A' c' F' ys, e = .returned (.slice A' ys.length c') ∧ Hid (ys = xs.filter (fun l => !decide (l.Txn = txn))) ∧ Hid (Rep.Hold.sl w' A' c' ys F') ∧ Hid (∀ g ∈ F', w.heap.size ≤ g) ∧ Hid (Ext w w') := by
  have hu := Try.underlying75
  have hE0 : Ext w (w.alloc (.cells #[.int .i64 txn] 2)) := alloc_ext w _
  have ct : (w.alloc (.cells #[.int .i64 txn] 2)).cell? ⟨w.heap.size, 0, none⟩ = some (.int .i64 txn) := cell_of_row _ _ 0 _ _ _ (heap_alloc_new w _)
  have hsz0 : (w.alloc (.cells #[.int .i64 txn] 2)).heap.size = w.heap.size + 1 := by simp
  have H := Lib.hid (Rep.sl_ext h hE0); have HE0 := Lib.hid hE0; have HSZ0 := Lib.hid hsz0; have HCT := Lib.hid ct; have HOK := Lib.hid hok
  clear hE0 hsz0 h hok
  go_enter Try.func32, Try.ntmps32
  go_wp2_with fail
  generalize (w.alloc (.cells #[.int .i64 txn] 2)) = W0 at *
  refine (implHoldsFault_calls _ _ _ _ _ H.out).mono ?_
  rw [HOK.out]
  rintro e w3 ⟨rfl, hO⟩
  have HE3 := Lib.hid hO
  clear hO ct
  go_wp2_with fail
  refine (holdClone_calls A c xs F w3 (Rep.sl_ext H.out HE3.out) (by omega)).mono ?_
  rintro e w4 ⟨v4, rfl, hown4, hO4⟩
  have hf4 := hown4.form
  have HOWN4 := Lib.hid hown4; have HO4 := Lib.hid hO4
  clear hown4 hO4
  have hsw : w.heap.size + 1 ≤ w3.heap.size := by have h1 := HE3.out.size; have h2 := HSZ0.out; omega
  obtain ⟨F4, hF4⟩ : ∃ F4 : List Nat, F4 = v4.ownBlock.toList := ⟨_, rfl⟩
  have hF4m : ∀ g ∈ F4, w3.heap.size ≤ g ∧ g < w4.heap.size := by
    intro g hg
    rw [hF4] at hg
    exact (own_holds_inv HOWN4.out).2.lt g (by simpa using hg)
  have hdel := holdDelete_calls 65 #[.pointer (some ⟨w.heap.size, 0, none⟩)] (fun l => decide (l.Txn = txn)) (enters_of Try.func65 (by kernel_rfl) rfl) w4 w3.heap.size v4 xs HOWN4.out F4 (fun g hg => by rw [hF4, hg]; simp) (fun g hg => (hF4m g hg).2)
    (fun x W hW => freeIs2_calls x W w.heap.size txn (hW.cell (HO4.out.ecell (HE3.out.ecell HCT.out)) (fun hg => by have := (hF4m _ hg).1; dsimp only at this; omega)))
  have HDEL := Lib.hid hdel; have HF4M := Lib.hid hF4m
  clear hdel hF4 hF4m
  obtain ⟨A4, c4, rfl, -⟩ := hf4
  go_wp2_with fail
  refine HDEL.out.mono ?_
  rintro e w5 ⟨v5, rfl, hown5, hb5, hO5⟩
  have hE5 : Ext w3 w5 := HO4.out.then_ hO5 (fun g hg hlt => by have := (HF4M.out g hg).1; omega)
  obtain ⟨A5, c5, hv5, -⟩ := hown5.form
  obtain ⟨n5, hn5⟩ : ∃ n5, n5 = (xs.filter (fun l => !decide (l.Txn = txn))).length := ⟨_, rfl⟩
  rw [← hn5] at hv5
  subst hv5
  have HE5 := Lib.hid hE5; have HOWN5 := Lib.hid hown5; have HN5 := Lib.hid hn5
  clear HDEL hE5 hown5 hO5 hb5 hn5
  go_wp2
  go_ret
  obtain ⟨Fr, hV, hF⟩ := HOWN5.out.done
  obtain ⟨A', c', he, q⟩ := Rep.slice_V hV
  rw [← HN5.out] at he
  injection he with e1 e2 e3
  subst e1; subst e3
  exact ⟨A5, c5, Fr, _, by rw [← HN5.out]; rfl, Lib.hid rfl, Lib.hid q, Lib.hid (fun g hg => by have := hF.ge g hg; omega), Lib.hid (HE0.out.ext (HE3.out.ext HE5.out))⟩
theorem holdTakeLaw_calls (A : Option Addr) (c : Nat) (xs : List DHold) (F : List Nat) (w : World) (h : Rep.Hold.sl w A c xs F) (txn id b a : Int) (hs : xs.length ≤ 1048576) (ht : (Lit.int .i64 txn).wf = true) (hi : (Lit.int .i64 id).wf = true) (hb : (Lit.int .i64 b).wf = true) (ha : (Lit.int .i64 a).wf = true) :
    Calls Try.prog 20 #[.slice A xs.length c, .int .i64 txn, .int .i64 id, .int .i64 b, .int .i64 a] w fun e w' => ∃ A' c' F' ys, e = .returned (.slice A' ys.length c') ∧ Hid (ys = holdTake xs txn id b a) ∧ Hid (Rep.Hold.sl w' A' c' ys F') ∧ Hid (∀ g ∈ F', w.heap.size ≤ g) ∧ Hid (Ext w w') := by
  refine (implHoldTake_new w A c xs F h txn ht id hi b hb a ha hs).mono ?_
  rintro e w' ⟨v, F', rfl, hV, hN⟩
  obtain ⟨A', c', rfl, q⟩ := Rep.slice_V hV
  exact ⟨A', c', F', _, rfl, Lib.hid rfl, Lib.hid q, Lib.hid hN.new, Lib.hid hN.ext⟩
end Go.Proofs.Ytildfjlekplgjaa
