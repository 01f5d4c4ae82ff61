/- The reference's PutNumber. -/
import Derived.Test.YtghgjddiheebeaaDoorY4
namespace Go.Proofs.YtghgjddiheebeaaDoor
open Go.RowKit
set_option linter.unusedSimpArgs false
set_option linter.unusedVariables false
theorem beL_cons : ∀ (k v : Nat), beL (k + 1) v = ((v / 256 ^ k % 256 : Nat) : Int) :: beL k v
  | 0, v => by simp [beL]
  | k + 1, v => by
    have ih := beL_cons k (v / 256)
    rw [beL, ih]
    show _ = _ :: (beL k (v / 256) ++ [_])
    rw [List.cons_append, Nat.div_div_eq_div_mul, Nat.pow_succ, Nat.mul_comm 256]
theorem zeros_snoc (n : Nat) : zeros (n + 1) = zeros n ++ [0] := by
  rw [zeros, zeros, List.replicate_succ']
theorem bytes_new (w : World) (n : Nat) (hn : n ≤ maxLen) : Buf (w.alloc (.cells (Array.replicate n (.int .u8 0)) 5)) w.heap.size 0 n (zeros n) := by
  refine ⟨⟨by rw [zeros_len]; exact Nat.le_refl _, hn, .inr ⟨w.heap.size, 0, [], (zeros n).map (.int .u8), rfl, rfl, by simp, cells_ints _ ?_, fun j u hu => ?_⟩⟩, ?_⟩
  · intro x hx
    obtain ⟨_, rfl⟩ := List.mem_replicate.1 hx
    rfl
  · rw [Nat.zero_add, World.cell?_alloc_at _ _ _ _ rfl]
    rw [List.getElem?_map, zeros_at] at hu
    split at hu
    · rename_i hj
      simp at hu
      subst hu
      simp [hj]
    · simp at hu
  · intro b hb j
    simp only [List.mem_singleton] at hb
    subst hb
    exact World.frozen?_alloc_at _ _ _ _ rfl
theorem mk_bytes (w : World) (n : Nat) (hn : n ≤ 4096) : (Instr.makeSlice 22 (.int .i64 n) (.int .i64 n)).run Tryd.prog w = .ok (.slice (some ⟨w.heap.size, 0, none⟩) n n) (w.alloc (.cells (Array.replicate n (.int .u8 0)) 5)) := by
  obtain ⟨i0, hi, hz0, hz1, hz2⟩ := info_parts info5
  have h := run_make (P := Tryd.prog) w 22 5 i0 _ Tryd.underlying22 hi hz0 .i64 .i64 n n (by omega) (by omega) (by rw [hz2]; omega) (by omega)
  rw [hz1, made_one _ _ rfl] at h
  simpa using h
def numUp (n v k : Nat) : List Int := zeros (n - k) ++ beL k v
theorem numUp_succ (n v k : Nat) (hk : k < n) : numUp n v (k + 1) = splice (numUp n v k) (n - 1 - k) [((v / 256 ^ k % 256 : Nat) : Int)] := by
  have e : n - k = (n - 1 - k) + 1 := by omega
  rw [numUp, numUp, e, zeros_snoc, beL_cons, show n - (k + 1) = n - 1 - k by omega]
  generalize n - 1 - k = m
  rw [splice, List.append_assoc, List.take_append_of_le_length (by rw [zeros_len]; exact Nat.le_refl _), List.take_of_length_le (by rw [zeros_len]; exact Nat.le_refl _)]
  rw [List.drop_append, List.drop_of_length_le (by rw [zeros_len]; simp), zeros_len]
  simp
set_option maxRecDepth 100000 in
set_option maxHeartbeats 4000000 in
theorem putNumber_calls (w : World) (n v : Nat) (z nz : Int) (hz : z = v) (hnz : nz = n) (h1 : 1 ≤ n) (h8 : n ≤ 8) (hv : v < 256 ^ n) (hv2 : v < 4611686018427387904) :
    Calls Tryd.prog 54 #[.int .i64 z, .int .i64 nz] w fun e w' => ∃ B, e = .returned (.slice (some ⟨B, 0, none⟩) n n) ∧ w.heap.size ≤ B ∧ Buf w' B 0 n (beL n v) ∧ Ext w w' := by
  subst hz; subst hnz
  obtain ⟨up, hup⟩ : ∃ up : Nat → Nat, up = fun k => v / 256 ^ k := ⟨_, rfl⟩
  have HU0 := Lib.hid (show up 0 = v by rw [hup]; simp)
  have HUS := Lib.hid (show ∀ k, up (k + 1) = up k / 256 by rw [hup]; intro k; simp only; rw [Nat.pow_succ, Nat.div_div_eq_div_mul])
  have HUN := Lib.hid (show up n = 0 by rw [hup]; exact Nat.div_eq_of_lt hv)
  have HUB := Lib.hid (show ∀ k, up k < 4611686018427387904 by rw [hup]; intro k; exact Nat.lt_of_le_of_lt (Nat.div_le_self _ _) hv2)
  obtain ⟨L, hL⟩ : ∃ L, L = numUp n v := ⟨_, rfl⟩
  have HL0 := Lib.hid (show L 0 = zeros n by rw [hL, numUp]; simp [beL])
  have HLS := Lib.hid (show ∀ k, k < n → L (k + 1) = splice (L k) (n - 1 - k) [((up k % 256 : Nat) : Int)] by rw [hL, hup]; exact fun k hk => numUp_succ n v k hk)
  have HLN := Lib.hid (show L n = beL n v by rw [hL, numUp, Nat.sub_self]; rfl)
  have HLL := Lib.hid (show ∀ k, k ≤ n → (L k).length = n by rw [hL]; intro k hk; rw [numUp, List.length_append, zeros_len, beL_length]; omega)
  have HB0 := Lib.hid (bytes_new w n (by unfold maxLen; omega))
  have hmk := mk_bytes w n (by omega)
  have g1 : ¬ (n : Int) < 1 := by omega
  have g2 : ¬ 8 < (n : Int) := by omega
  have g2' : ¬ 8 < n := by omega
  have g3 : ¬ (v : Int) < 0 := by omega
  have g4 : IntKind.i64.wrap ((n : Int) - 1) = (n : Int) - 1 := by rw [IntKind.wrap_i64]; omega
  have HV := Lib.hid (show v = up 0 from HU0.out.symm)
  clear hup hL hv
  go_enter Tryd.func54, Tryd.ntmps54
  go_wp2
  clear hmk
  go_loopg [0, 6] n (fun m a i wr => ∃ k : Nat, m + k = n ∧ a = .int .i64 (up k) ∧ i = .int .i64 ((n : Int) - 1 - k) ∧ Hid (Buf wr w.heap.size 0 n (L k)) ∧ Ext w wr)
  case atStart => exact ⟨0, by simp, by rw [HU0.out], by simp, by rw [HL0.out]; exact HB0, alloc_ext _ _⟩
  case round =>
    obtain ⟨k, hmk, rfl, rfl, HBF, hE⟩ := hrel
    have HE := Lib.hid hE; have HMK := Lib.hid hmk
    clear hE hmk
    by_cases hlt : k < n
    · have hu := HUB.out k
      have hus := HUS.out k
      have hls := HLS.out k hlt
      have hll := HLL.out k (by omega)
      obtain ⟨i, hi⟩ : ∃ i : Nat, i = n - 1 - k := ⟨_, rfl⟩
      have e1 : (n : Int) - 1 - (k : Int) = (i : Int) := by omega
      rw [← hi] at hls
      rw [e1]
      have HNX := Lib.hid (show (i : Int) - 1 = (n : Int) - 1 - ((k + 1 : Nat) : Int) by omega)
      generalize up k = u at *
      obtain ⟨u', hu'⟩ : ∃ x, x = up (k + 1) := ⟨_, rfl⟩
      rw [← hu'] at hus
      have HUQ := Lib.hid hu'
      clear hu'
      have t1 : Int.tmod (u : Int) 256 = ((u % 256 : Nat) : Int) := by rw [Int.tmod_eq_emod_of_nonneg (by omega)]; first | done | rfl | omega
      have t2 : Int.tdiv (u : Int) 256 = (u' : Int) := by rw [Int.tdiv_eq_ediv_of_nonneg (by omega)]; omega
      have t3 : IntKind.u8.wrap ((u % 256 : Nat) : Int) = ((u % 256 : Nat) : Int) := by
        simp [IntKind.wrap, IntKind.min, IntKind.max, IntKind.signed, IntKind.bits]
      have t4 : IntKind.i64.wrap (u' : Int) = (u' : Int) := by rw [IntKind.wrap_i64]; omega
      have t5 : IntKind.i64.wrap ((i : Int) - 1) = (i : Int) - 1 := by rw [IntKind.wrap_i64]; omega
      have t6 : (0 : Int) ≤ (i : Int) := by omega
      have t7 : (i : Int) < (n : Int) := by omega
      have t8 : (i : Int).toNat = i := by omega
      generalize hr : u % 256 = r at *
      have hset := Buf.set HBF.out i (by rw [hll]; omega) (r : Int) (by
        have : r < 256 := by omega
        simp only [Lit.wf, IntKind.min, IntKind.max, IntKind.signed, IntKind.bits]; simp; omega)
      rw [Nat.zero_add] at hset
      have hc := sl_byte HBF.out.sl i (by rw [hll]; omega)
      rw [Nat.zero_add] at hc
      have hf := HBF.out.un w.heap.size (by simp) i
      have HST := Lib.hid hset; have HLS2 := Lib.hid hls
      have HU2 := Lib.hid hus
      clear hset hls hus hr hi e1 hu hll
      go_wp2
      go_roundg (n - (k + 1))
      case measure => have := HMK.out; omega
      case rel =>
        exact ⟨k + 1, by have := HMK.out; omega, by rw [HUQ.out], by rw [HNX.out], Lib.hid (by rw [HLS2.out]; exact HST.out), HE.out.setCell (fun h => absurd h (by simp)) _⟩
    · have hk : k = n := by have := HMK.out; omega
      subst hk
      have e0 := HUN.out
      have e2 : (k : Int) - 1 - (k : Int) = -1 := by omega
      rw [e2, e0]
      go_wp2
      go_ret
      exact ⟨w.heap.size, rfl, Nat.le_refl _, by rw [← HLN.out]; exact HBF.out, HE.out⟩
end Go.Proofs.YtghgjddiheebeaaDoor
