/- The reference's slots: the walk. -/
import Derived.Test.YtghgjddiheebeaaDoorX8
namespace Go.Proofs.YtghgjddiheebeaaDoor
open Go.RowKit
set_option linter.unusedSimpArgs false
set_option linter.unusedVariables false
theorem info73 : (Tryd.prog.info? 73).map (fun i => (i.zero, i.size, i.bytes)) = some (some (.agg #[.int .i64 0, .int .i64 0]), 2, 16) := by kernel_rfl
def slotsUp (p : List Int) (k : Nat) : List (Int × Int) := (List.range k).map (fun i => (slO p i, slN p i))
theorem slotsUp_succ (p : List Int) (k : Nat) : slotsUp p (k + 1) = slotsUp p k ++ [(slO p k, slN p k)] := by simp [slotsUp, List.range_succ]
set_option maxRecDepth 100000 in
set_option maxHeartbeats 4000000 in
theorem l3Slots_calls (w : World) (g off c : Nat) (p : List Int) (F : List Nat) (h : (Rep.int .u8).sl w (some ⟨g, off, none⟩) c p F) (hp : p.length = 4096) :
    Calls Tryd.prog 58 #[.slice (some ⟨g, off, none⟩) 4096 c] w fun e w' => ∃ v, e = .returned v ∧ Own Rep.Sl 73 w.heap.size w' v (slotsUp p 32) ∧ Ext w w' := by
  obtain ⟨i0, hi, hz0, hz1, hz2⟩ := info_parts info73
  have hw : ∀ z ∈ p, 0 ≤ z ∧ z ≤ 255 := fun z hz => Lib.byte_of_wf (sl_wf h z hz)
  have HS := Lib.hid h; have HP := Lib.hid hp; have HW := Lib.hid hw
  obtain ⟨up, hup⟩ : ∃ up, up = slotsUp p := ⟨_, rfl⟩
  have HU := Lib.hid (show ∀ k, up (k + 1) = up k ++ [(slO p k, slN p k)] by rw [hup]; exact slotsUp_succ p)
  have HU0 := Lib.hid (show up 0 = [] by rw [hup]; rfl)
  have HUL := Lib.hid (show ∀ k, (up k).length = k by rw [hup]; intro k; simp [slotsUp])
  rw [← hup]
  clear h hp hw hup
  go_enter Tryd.func58, Tryd.ntmps58
  go_wp2
  go_loopg [3, 4] 32 (fun m v i wr => ∃ k : Nat, m + k = 32 ∧ i = .int .i64 k ∧ Own Rep.Sl 73 w.heap.size wr v (up k) ∧ Ext w wr)
  case atStart => exact ⟨0, by simp, rfl, by rw [HU0.out]; exact Own.made (Nat.le_refl _) #[] 0 (by simp) (by simp), alloc_ext _ _⟩
  case round =>
    obtain ⟨k, hmk, rfl, hOWN, hE⟩ := hrel
    have HE := Lib.hid hE; have HMK := Lib.hid hmk; have HOWN := Lib.hid hOWN
    clear hE hmk hOWN
    by_cases hlt : (k : Int) < 32
    · have hk : k < 32 := by omega
      obtain ⟨a, ha⟩ : ∃ a : Int, a = 20 + 4 * (k : Int) := ⟨_, rfl⟩
      obtain ⟨b, hb⟩ : ∃ b : Int, b = a + 2 := ⟨_, rfl⟩
      have HC1 := Lib.hid (fun W (hW : Ext w W) => by
        have h := l3Number_calls W g off c p F (Rep.sl_ext HS.out hW) (20 + 4 * k) 2 (by decide) (by decide) (by have := HP.out; omega) a 2 (by omega) rfl (by have := HP.out; omega)
        rw [HP.out, numAt_short _ 2 (by decide), show beAt p (20 + 4 * k) 2 = slO p k from rfl] at h
        exact h)
      have HC2 := Lib.hid (fun W (hW : Ext w W) => by
        have h := l3Number_calls W g off c p F (Rep.sl_ext HS.out hW) (20 + 4 * k + 2) 2 (by decide) (by decide) (by have := HP.out; omega) b 2 (by omega) rfl (by have := HP.out; omega)
        rw [HP.out, numAt_short _ 2 (by decide), show beAt p (20 + 4 * k + 2) 2 = slN p k from rfl] at h
        exact h)
      have e1 : IntKind.i64.wrap (4 * (k : Int)) = 4 * (k : Int) := by rw [IntKind.wrap_i64]; omega
      have e2 : IntKind.i64.wrap (20 + 4 * (k : Int)) = a := by rw [IntKind.wrap_i64]; omega
      have e3 : IntKind.i64.wrap (a + 2) = b := by rw [IntKind.wrap_i64]; omega
      have e4 : wrap64 (20 + 4 * (k : Int)) = a := by unfold wrap64; omega
      have e5 : wrap64 (a + 2) = b := by unfold wrap64; omega
      have e6 : 20 + 4 * (k : Int) = a := ha.symm
      have e7 : a + 2 = b := hb.symm
      obtain ⟨Av, cv, hv, -⟩ := HOWN.out.form
      subst hv
      clear ha hb
      have HX := Lib.hid (show wfSl (slO p k, slN p k) from by
        have h1 := beAt_u16 HW.out (20 + 4 * k); have h2 := beAt_u16 HW.out (20 + 4 * k + 2)
        have e1 : IntKind.i64.min = -9223372036854775808 := rfl
        have e2 : IntKind.i64.max = 9223372036854775807 := rfl
        constructor <;> (simp only [Lit.wf, slO, slN, e1, e2, Bool.and_eq_true, decide_eq_true_eq]; omega))
      have hlk := HUL.out k
      go_wp2_with (first
        | (go_at_call_of 108 (Value.int .i64 a); refine (HC1.out _ HE.out).mono ?_; rintro e w1 ⟨rfl, hE1⟩; have HE1 := Lib.hid (HE.out.ext hE1); have HOW1 := Lib.hid (HOWN.out.ext hE1))
        | (go_at_call_of 108 (Value.int .i64 b); refine (HC2.out _ HE1.out).mono ?_; rintro e w2 ⟨rfl, hE2⟩; have HE2 := Lib.hid (HE1.out.ext hE2); obtain ⟨cs, ho, hle, happ⟩ := sl_push (HOW1.out.ext hE2) HX.out; rw [hlk] at ho happ; have HO1 := Lib.hid ho; have HAPP := Lib.hid happ; clear ho happ)
        | (at_builtin; (go_must (refine wpList_append_own_at _ rfl _ _ 74 rfl w.heap.size 73 i0 _ 2 16 Tryd.underlying74 hi hz0 hz1 hz2 rfl (by decide) _ _ _ rfl HO1.out ⟨w2.heap.size, 0, none⟩ 1 1 [.int .i64 (slO p k), .int .i64 (slN p k)] rfl rfl (cells_new' _ _ _ (by simp)) (by intro u hu; simp at hu; rcases hu with rfl | rfl <;> rfl) (by unfold maxLen; omega) (by omega) (by simp; omega) ?_)); intro v' w' hown hgrow hnil hat; obtain ⟨Av', cv', rfl⟩ := ownsRow_form hown))
      go_roundg (32 - (k + 1))
      case measure => have := HMK.out; omega
      case rel =>
        obtain ⟨r1, r2⟩ := HAPP.out _ w' hown hgrow hat
        exact ⟨k + 1, by have := HMK.out; omega, rfl, by rw [HU.out]; exact r1, r2 w HE2.out (Nat.le_refl _)⟩
    · have hk : k = 32 := by have := HMK.out; omega
      subst hk
      go_wp2
      go_ret
      exact ⟨_, rfl, HOWN.out, HE.out⟩
end Go.Proofs.YtghgjddiheebeaaDoor
