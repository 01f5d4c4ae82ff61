/- Lists of int64 marked. -/
import Derived.Test.YtdjcfcgkldokgaaI0
namespace Go.Proofs.Ytdjcfcgkldokgaa
open Go.RowKit
set_option maxRecDepth 100000
/-- What marking lays into bytes from the number k on. -/
def mkI (k : Int) (xs : List Int) : List Int := (List.range xs.length).map fun (i : Nat) => k + i
theorem mkI_len (k : Int) (xs : List Int) : (mkI k xs).length = xs.length := by simp [mkI]
theorem mkI_at (k : Int) (xs : List Int) (i : Nat) (h : i < (mkI k xs).length) : (mkI k xs)[i] = k + i := by simp [mkI]
theorem mkI_step (k : Int) (xs : List Int) (j : Nat) (h : j < xs.length) : ((mkI k xs).take j ++ xs.drop j).set j ((k + j)) = (mkI k xs).take (j + 1) ++ xs.drop (j + 1) := by
  have hl : ((mkI k xs).take j).length = j := by simp [mkI_len]; omega
  rw [List.set_append_right _ _ (by omega), hl, Nat.sub_self, List.drop_eq_getElem_cons h, List.set_cons_zero, List.take_succ_eq_append_getElem (by rw [mkI_len]; exact h), mkI_at]
  simp


theorem markInt64S_calls (A : Option Addr) (c : Nat) (xs : List Int) (F : List Nat) (k : Int) (w : World) (h : (Rep.int .i64).sl w A c xs F) (hn : F.Nodup) (hu : Unfr w F)
    (h0 : 0 ≤ k) (hk : k + xs.length ≤ 4611686018427387904) :
    Calls Try.prog 26 #[.slice A xs.length c, .int .i64 k] w (MarkPost (Rep.int .i64) A c (mkI k xs) F (k + xs.length) w) := by
  go_enter Try.func26, Try.ntmps26
  go_wp2
  go_loopg [5, 1] (xs.length) (fun m i q wr => ∃ j : Nat, m + j = xs.length ∧ i = .int .i64 j ∧ q = .int .i64 (k + j) ∧ Only F w wr ∧ Unfr wr F ∧ (Rep.int .i64).sl wr A c ((mkI k xs).take j ++ xs.drop j) F)
  case atStart => exact ⟨0, by simp, rfl, by simp, Only.refl _ _, hu, by simpa using h⟩
  case round =>
    obtain ⟨j, hj, rfl, rfl, hO, hU, hS⟩ := hrel
    have HO := Lib.hid hO; have HU := Lib.hid hU; have HS := Lib.hid hS; have HJ := Lib.hid hj
    clear hO hU hS hj
    have hlen : ((mkI k xs).take j ++ xs.drop j).length = xs.length := by simp [mkI_len]; have := HJ.out; omega
    by_cases hlt : j < xs.length
    · obtain ⟨g, off, u, rfl, hF, hg, hc, hf, hset⟩ := sl_int_set HS.out hn HU.out j (by rw [hlen]; exact hlt)
      have hw := hset (k + j) (by simp [Lit.wf, IntKind.min, IntKind.max, IntKind.signed, IntKind.bits]; omega)
      rw [mkI_step _ _ _ hlt] at hw
      have HW := Lib.hid hw
      have HF := Lib.hid hF
      clear hw hset hlen hF
      go_wp2
      go_roundg (xs.length - (j + 1))
      case measure => have := HJ.out; omega
      case rel => exact ⟨j + 1, by omega, by go_num, by go_num, HO.out.setCell (fun _ => HF.out) _, HW.out.2, HW.out.1⟩
    · have hj := HJ.out
      have hs := HS.out
      rw [List.take_of_length_le (by rw [mkI_len]; omega), List.drop_of_length_le (by omega), List.append_nil] at hs
      have hjl : (j : Int) = xs.length := by omega
      have HL := Lib.hid hjl
      clear hjl
      go_wp2
      go_ret
      exact ⟨ret_int (by rw [HL.out]), hs, HO.out, HU.out⟩

end Go.Proofs.Ytdjcfcgkldokgaa
