/- PageSet: what both packages use. -/
import Derived.Test.YtghgjddiheebeaaDoorY9
import Derived.Test.YtghgjddiheebeaaDoorFPageResult
import Derived.Test.YtghgjddiheebeaaDoorFPageRecord
namespace Go.Proofs.YtghgjddiheebeaaDoor
open Go.RowKit
set_option linter.unusedSimpArgs false
set_option linter.unusedVariables false
theorem sumN_le (p : List Int) (h : Wf p) (k : Nat) (hk : k ≤ 32) : sumN p k ≤ 3948 := by
  have h1 := sumN_room h.byte h.zero
  have h2 := sumN_mono p hk
  obtain ⟨_, _, _, _, h5, _⟩ := fault_zero h.zero
  omega
set_option maxRecDepth 100000 in
set_option maxHeartbeats 4000000 in
theorem usedOf_calls (w : World) (g off c : Nat) (p : List Int) (F : List Nat) (h : (Rep.int .u8).sl w (some ⟨g, off, none⟩) c p F) (hw : Wf p) :
    Calls Tryd.prog 62 #[.slice (some ⟨g, off, none⟩) 4096 c] w fun e w' => e = .returned (.int .i64 (sumN p 32 : Nat)) ∧ Ext w w' := by
  have HS := Lib.hid h; have HW := Lib.hid hw
  have HSS := Lib.hid (show ∀ k, k < 32 → ∃ nn : Nat, slN p k = nn ∧ sumN p (k + 1) = sumN p k + nn ∧ sumN p (k + 1) ≤ 3948 from fun k hk => by
    obtain ⟨nn, hnn⟩ := Int.eq_ofNat_of_zero_le (hw.slot k hk).2.1
    exact ⟨nn, hnn, by simp only [sumN, hnn]; omega, sumN_le p hw _ (by omega)⟩)
  obtain ⟨S, hS⟩ : ∃ S, S = sumN p := ⟨_, rfl⟩
  rw [← hS] at HSS ⊢
  have HS0 := Lib.hid (show S 0 = 0 by rw [hS]; rfl)
  clear h hw hS
  go_enter Tryd.func62, Tryd.ntmps62
  go_wp2
  go_loopg [3, 4] 32 (fun m a i wr => ∃ k : Nat, m + k = 32 ∧ a = .int .i64 (S k : Nat) ∧ i = .int .i64 k ∧ Ext w wr)
  case atStart => exact ⟨0, by simp, by rw [HS0.out]; rfl, rfl, Only.refl _ _⟩
  case round =>
    obtain ⟨k, hmk, rfl, rfl, hE⟩ := hrel
    have HE := Lib.hid hE; have HMK := Lib.hid hmk
    clear hE hmk
    by_cases hlt : (k : Int) < 32
    · have hk : k < 32 := by omega
      have HC := Lib.hid (slotOf_calls _ g off c p F (Rep.sl_ext HS.out HE.out) HW.out.len k hk)
      obtain ⟨nn, hnn, h1, h2⟩ := HSS.out k hk
      have HNN := Lib.hid hnn
      generalize S k = u at *
      have e1 : IntKind.i64.wrap ((u : Int) + (nn : Int)) = ((u + nn : Nat) : Int) := by rw [IntKind.wrap_i64]; omega
      have HH := Lib.hid h1
      clear hnn h1 h2
      go_wp2_with (go_at_call 61; refine HC.out.mono ?_; rintro e w5 ⟨rfl, hE⟩; simp only [HNN.out]; have HE6 := Lib.hid (HE.out.ext hE); clear hE)
      go_roundg (32 - (k + 1))
      case measure => have := HMK.out; omega
      case rel => exact ⟨k + 1, by have := HMK.out; omega, by rw [HH.out]; first | rfl | (congr 1; omega), rfl, HE6.out⟩
    · have hk : k = 32 := by have := HMK.out; omega
      subst hk
      go_wp2
      go_ret
      exact ⟨rfl, HE.out⟩
set_option maxRecDepth 100000 in
set_option maxHeartbeats 4000000 in
theorem pageUsed_calls (w : World) (g off c : Nat) (p : List Int) (F : List Nat) (h : (Rep.int .u8).sl w (some ⟨g, off, none⟩) c p F) (hw : Wf p) :
    Calls Tryd.prog 59 #[.slice (some ⟨g, off, none⟩) 4096 c] w fun e w' => e = .returned (.int .i64 (sumN p 32 : Nat)) ∧ Ext w w' := by
  have HOW := Lib.hid (fun W (hW : Ext w W) => by
    have h := l3Own_calls W _ c p F (Rep.sl_ext h hW)
    rw [hw.len, hw.well] at h
    exact h)
  have HSL := Lib.hid (fun W (hW : Ext w W) => l3Slots_cells W g off c p F (Rep.sl_ext h hW) hw.len)
  have HSS := Lib.hid (show ∀ k, k < 32 → ∃ nn : Nat, slN p k = nn ∧ sumN p (k + 1) = sumN p k + nn ∧ sumN p (k + 1) ≤ 3948 from fun k hk => by
    obtain ⟨nn, hnn⟩ := Int.eq_ofNat_of_zero_le (hw.slot k hk).2.1
    exact ⟨nn, hnn, by simp only [sumN, hnn]; omega, sumN_le p hw _ (by omega)⟩)
  obtain ⟨S, hS⟩ : ∃ S, S = sumN p := ⟨_, rfl⟩
  rw [← hS] at HSS ⊢
  have HS0 := Lib.hid (show S 0 = 0 by rw [hS]; rfl)
  clear h hw hS
  go_enter Tryd.func59, Tryd.ntmps59
  go_wp2_with (first
    | (go_at_call 50; refine (HOW.out _ (Only.refl _ _)).mono ?_; rintro e w1 ⟨rfl, hE⟩; have HE1 := Lib.hid hE; clear hE)
    | (go_at_call 58; refine (HSL.out _ HE1.out).mono ?_; rintro e w2 ⟨Bs, zs, cps, rfl, hB1, hB2, hcp, hcell, hE⟩; have HSC := Lib.hid hcell; have HE2 := Lib.hid (HE1.out.ext hE); clear hE hB1 hB2 hcell))
  go_loopg [3, 5] 32 (fun m a i wr => ∃ k : Nat, m + k = 32 ∧ a = .int .i64 (S k : Nat) ∧ i = .int .i64 k ∧ Ext w2 wr)
  case atStart => exact ⟨0, by simp, by rw [HS0.out]; rfl, rfl, Only.refl _ _⟩
  case round =>
    obtain ⟨k, hmk, rfl, rfl, hE⟩ := hrel
    have HE := Lib.hid hE; have HMK := Lib.hid hmk
    clear hE hmk
    by_cases hlt : (k : Int) < 32
    · have hk : k < 32 := by omega
      obtain ⟨nn, hnn, h1, h2⟩ := HSS.out k hk
      have d2 := HE.out.ecell (HSC.out k hk).2
      rw [hnn] at d2
      generalize S k = u at *
      have e1 : IntKind.i64.wrap ((u : Int) + (nn : Int)) = ((u + nn : Nat) : Int) := by rw [IntKind.wrap_i64]; omega
      have k4 : (0 : Int) ≤ (k : Int) := by omega
      have k5 : (k : Int).toNat = k := by omega
      have HH := Lib.hid h1
      clear hnn h1 h2
      go_wp2
      go_roundg (32 - (k + 1))
      case measure => have := HMK.out; omega
      case rel => exact ⟨k + 1, by have := HMK.out; omega, by rw [HH.out]; first | rfl | (congr 1; omega), rfl, HE.out⟩
    · have hk : k = 32 := by have := HMK.out; omega
      subst hk
      go_wp2
      go_ret
      exact ⟨rfl, HE2.out.ext HE.out⟩
/-- What PageSet answers. -/
def setBad (p : List Int) (sl : Int) (r : DPageRecord) (lsn : Int) : Prop := wellF p = false ∨ sl < 0 ∨ 32 ≤ sl ∨ lsn < 0 ∨ 1099511627776 < lsn ∨ 1000 < r.Data.length ∨ (r.Used = false ∧ 0 < r.Data.length)
open Classical in
noncomputable def pageSet (p : List Int) (sl : Int) (r : DPageRecord) (lsn : Int) : DPageResult :=
  if setBad p sl r lsn then ⟨1, []⟩ else if (3948 : Int) < (sumN p 32 : Int) - slN p sl.toNat + r.Data.length then ⟨2, []⟩
  else if (setPage p sl.toNat r.Used r.Data lsn.toNat).length = 4096 then ⟨0, setPage p sl.toNat r.Used r.Data lsn.toNat⟩ else ⟨3, []⟩
theorem pageSet_ct (p : List Int) (sl : Int) (r : DPageRecord) (lsn : Int) : ctTopPageResult (pageSet p sl r lsn) ≤ 1152921504606846976 := by
  have h1 := ctTopPageResult_wt (pageSet p sl r lsn)
  have h2 : (pageSet p sl r lsn).Page.length ≤ 4096 := by
    unfold pageSet
    split
    · simp
    · split
      · simp
      · split
        · rename_i h; exact Nat.le_of_eq h
        · simp
  simp only [wtPageResult] at h1
  omega
/-- The buffer at work, the call's box and its result's block. -/
structure PS (w0 w : World) (bx rs : Obj) (g off c : Nat) (xs : List Int) : Prop where
  buf : Buf w g off c xs
  ext : Ext w0 w
  new : w0.heap.size + 2 ≤ g
  box : w.heap[w0.heap.size]? = some bx
  res : w.heap[w0.heap.size + 1]? = some rs
section
variable {w0 w w' : World} {bx rs : Obj} {g off c : Nat} {xs ys : List Int}
theorem PS.more (h : PS w0 w bx rs g off c xs) (hE : Ext w w') : PS w0 w' bx rs g off c xs :=
  ⟨h.buf.ext hE, h.ext.ext hE, h.new, hE.heap h.box (by simp), hE.heap h.res (by simp)⟩
theorem PS.write (h : PS w0 w bx rs g off c xs) (hb : Buf w' g off c ys) (hO : Only [g] w w') : PS w0 w' bx rs g off c ys :=
  ⟨hb, h.ext.then_ hO (fun b hb hlt => by simp at hb; have := h.new; omega), h.new, hO.heap h.box (by have := h.new; simp; omega), hO.heap h.res (by have := h.new; simp; omega)⟩
theorem PS.swap {g' off' c' : Nat} (h : PS w0 w bx rs g off c xs) (hb : Buf w' g' off' c' ys) (hE : Ext w w') (hg : w.heap.size ≤ g') : PS w0 w' bx rs g' off' c' ys :=
  ⟨hb, h.ext.ext hE, by have := (Array.getElem?_eq_some_iff.1 h.res).1; omega, hE.heap h.box (by simp), hE.heap h.res (by simp)⟩
end
theorem psRes_code {c : Int} {w w' : World} (hc : (Lit.int .i64 c).wf = true) (hO : Ext w w') : NewPost Rep.PageResult ⟨c, []⟩ w (.returned (.agg #[.int .i64 c, .slice none 0 0])) w' :=
  ⟨_, [], rfl, ⟨_, ⟨none, 0, [], rfl, rfl, hc, Rep.sl_nil (by simp)⟩, rfl⟩, hO, by simp, by simp, by simp [Unfr]⟩
theorem psRes_new {w0 w w' : World} {bx rs : Obj} {g off c : Nat} {xs : List Int} (h : PS w0 w bx rs g off c xs) (hl : xs.length = 4096) (hO : Only [w0.heap.size + 1] w w') : NewPost Rep.PageResult ⟨0, xs⟩ w0 (.returned (.agg #[.int .i64 0, .slice (some ⟨g, off, none⟩) 4096 c])) w' := by
  have hn := h.new
  have hd : ∀ b ∈ [g], b ∉ [w0.heap.size + 1] := fun b hb hm => by simp at hb hm; omega
  rw [← hl]
  refine ⟨_, [g], rfl, ⟨_, ⟨_, c, [g], rfl, rfl, rfl, Rep.sl_only h.buf.sl hO hd⟩, rfl⟩, h.ext.then_ hO (fun b hb hlt => by simp at hb; omega), fun b hb => by simp at hb; omega, by simp, h.buf.un.only hO (fun b hb => Rep.sl_lt h.buf.sl b hb) hd⟩
end Go.Proofs.YtghgjddiheebeaaDoor
