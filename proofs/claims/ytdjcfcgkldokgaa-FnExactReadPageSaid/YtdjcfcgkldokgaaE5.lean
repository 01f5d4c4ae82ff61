/- The bytes of a page, sector by sector: both packages. -/
import Derived.Test.YtdjcfcgkldokgaaE4
namespace Go.Proofs.Ytdjcfcgkldokgaa
open Go.RowKit
set_option linter.unusedSimpArgs false
set_option linter.unusedVariables false
def pageUp (d : DDisk) (s : Nat) : Nat → List Int
  | 0 => []
  | k + 1 => pageUp d s k ++ seenL d ((s : Int) + (k : Int))
def readPage (d : DDisk) (g : DGeometry) (p : Int) : List Int := if fitsOK d g = true ∧ inR p 0 (g.Pages - 1) = true then pageUp d (pageSector g p).toNat 8 else []
theorem fits_facts {d : DDisk} {g : DGeometry} (h : fitsOK d g = true) : geoFault g = 0 ∧ validDisk d = true ∧ (d.Durable.length : Int) / 512 = diskSectors g := by
  simp only [fitsOK, Bool.and_eq_true, decide_eq_true_eq] at h
  exact ⟨h.1.1, h.1.2, h.2⟩
theorem fits_room {d : DDisk} {g : DGeometry} {p : Int} (h : fitsOK d g = true) (hp : inR p 0 (g.Pages - 1) = true) : ∃ s : Nat, pageSector g p = (s : Int) ∧ s + 8 ≤ d.Durable.length / 512 := by
  obtain ⟨h1, h2, h3⟩ := fits_facts h
  have hr := geoFault_room h1
  have hq := inR_iff.1 hp
  have e1 : pageSector g p = 2 + g.LogSectors + 8 * p := if_pos ⟨h1, hp⟩
  have e2 : diskSectors g = 2 + g.LogSectors + 8 * g.Pages := if_pos h1
  refine ⟨(2 + g.LogSectors + 8 * p).toNat, by rw [e1]; omega, ?_⟩
  rw [e2] at h3
  omega
theorem pageUp_len {d : DDisk} {s : Nat} (hv : validDisk d = true) : ∀ k, s + k ≤ d.Durable.length / 512 → (pageUp d s k).length = k * 512
  | 0, _ => rfl
  | k + 1, h => by
    rw [pageUp, List.length_append, pageUp_len hv k (by omega), seenL_len hv (by omega) (by omega)]
    omega
set_option maxRecDepth 100000 in
set_option maxHeartbeats 2000000 in
theorem page_calls (n0 : Nat) (w : World) (A : Option Addr) (c : Nat) (Ap : Option Addr) (cp : Nat) (d : DDisk) (t : TypeId) (hrow : w.heap[n0]? = some (.cells #[.slice A d.Durable.length c, .slice Ap d.Pending.length cp] t (0, 0))) (F G : List Nat) (h1 : (Rep.int .u8).sl w A c d.Durable F) (h2 : Rep.SectorWrite.sl w Ap cp d.Pending G) (hv : validDisk d = true) (g : DGeometry) (p : Int) (s : Nat) (hps : pageSector g p = s) (hs : s + 8 ≤ d.Durable.length / 512) :
    Calls Try.prog 90 #[.pointer (some ⟨n0, 0, none⟩), .agg #[.int .i64 g.Pages, .int .i64 g.Frames, .int .i64 g.LogSectors], .int .i64 p] w (NewPost (Rep.int .u8).slice (pageUp d s 8) w) := by
  have hu := Try.underlying75
  obtain ⟨i0, hi, hz0, hz1, hz2⟩ := info_parts info5
  obtain ⟨v1, v2, v3, v4, v5⟩ := valid_facts hv
  have hEA := alloc_ext w (.cells #[.int .i64 g.Pages, .int .i64 g.Frames, .int .i64 g.LogSectors] 75)
  have hb1 := heap_alloc_new w (.cells #[.int .i64 g.Pages, .int .i64 g.Frames, .int .i64 g.LogSectors] 75)
  have hz0' : (w.alloc (.cells #[.int .i64 g.Pages, .int .i64 g.Frames, .int .i64 g.LogSectors] 75)).heap.size = w.heap.size + 1 := by simp
  have HEA := Lib.hid hEA; have HB1 := Lib.hid hb1; have HV := Lib.hid hv; have H1 := Lib.hid h1; have H2 := Lib.hid h2; have HROW := Lib.hid hrow; have HPS := Lib.hid hps
  clear hEA hb1 hv h1 h2 hrow hps
  go_enter Try.func90, Try.ntmps90
  go_wp2
  generalize w.alloc (.cells #[.int .i64 g.Pages, .int .i64 g.Frames, .int .i64 g.LogSectors] 75) = W0 at *
  go_loopg [7, 9] 8 (fun m v i wr => ∃ k : Nat, m + k = 8 ∧ i = .int .i64 k ∧ wr.ownsRow (w.heap.size + 1) 5 1 v (k * 512) ((pageUp d s k).map (.int .u8)) ∧ Ext W0 wr ∧ ∀ x ∈ pageUp d s k, (Lit.int .u8 x).wf = true)
  case atStart => exact ⟨0, rfl, rfl, World.ownsRow_nil _ _ _ _, Only.refl _ _, by simp [pageUp]⟩
  case round =>
    obtain ⟨k, hk, rfl, hown, hE, hwf⟩ := hrel
    have HOWN := Lib.hid hown; have HE := Lib.hid hE; have HWF := Lib.hid hwf; have HK := Lib.hid hk
    have hbr := hE.heap HB1.out (by simp)
    have m1 := fun o => cell_of_row _ _ o _ _ _ hbr
    obtain ⟨Av, cv, rfl⟩ := ownsRow_form hown
    clear hown hE hwf hk hbr
    by_cases hlt : k < 8
    · go_wp2_with fail
      refine (implPageSector_calls g p _).mono ?_
      rw [HPS.out]
      rintro e w1 ⟨rfl, hO⟩
      have HE1 := Lib.hid (HE.out.ext hO)
      have HEw := Lib.hid (HEA.out.ext (HE.out.ext hO))
      have HO := Lib.hid hO
      clear hO
      have hsk : IntKind.i64.wrap ((s : Int) + (k : Int)) = (s : Int) + (k : Int) := wrap_small _ (by omega) (by omega)
      go_wp2_with fail
      have hsc := seen_calls n0 w1 A c Ap cp d _ (HEw.out.heap HROW.out (by simp)) _ _ (Rep.sl_ext H1.out HEw.out) (Rep.sl_ext H2.out HEw.out) HV.out (s + k) (by omega)
      rw [show ((s + k : Nat) : Int) = (s : Int) + (k : Int) by omega] at hsc
      refine hsc.mono ?_
      clear hsc
      rintro e w2 ⟨rfl, B, cb, Fb, rfl, hB⟩
      have hln : (seenL d ((s : Int) + (k : Int))).length = 512 := seenL_len HV.out (by omega) (by omega)
      obtain ⟨gB, oB, rfl, hgB, hcells⟩ := sl_ints hB (by intro h; rw [h] at hln; simp at hln)
      have HC := Lib.hid hcells; have HSW := Lib.hid (sl_wf hB)
      have HLN := Lib.hid hln
      have hown1 := ownsRow_only (H := []) HOWN.out HO.out (by simp)
      have HOWN1 := Lib.hid hown1
      have hzw := HE1.out.size
      rw [hln]
      clear hB hcells hln hown1
      go_wp2_with (at_builtin; go_must (refine wpList_append_own_at _ rfl _ _ 22 rfl (w.heap.size + 1) 5 i0 (.int .u8 0) 1 1 Try.underlying22 hi hz0 hz1 hz2 rfl (by decide) _ (k * 512) ((pageUp d s k).map (.int .u8)) rfl HOWN1.out ⟨gB, oB, none⟩ 512 cb ((seenL d ((s : Int) + (k : Int))).map (.int .u8)) rfl (by rw [List.length_map, HLN.out]) HC.out (ints_cells1 _) (by unfold maxLen; omega) (by omega) (by omega) ?_); intro v' w' hown hgrow hnil hat; obtain ⟨Av', cv', rfl⟩ := ownsRow_form hown)
      go_roundg (8 - (k + 1))
      case measure => have := HK.out; omega
      case rel =>
        refine ⟨k + 1, by have := HK.out; omega, by go_num, ?_, HE1.out.grown hgrow (fun q hq hl => by have := (HOWN1.out.lt q hq).1; omega), ?_⟩
        · rw [pageUp, List.map_append, show (k + 1) * 512 = k * 512 + 512 by omega]; exact hown
        · intro x hx
          rw [pageUp] at hx
          rcases List.mem_append.1 hx with hx | hx
          · exact HWF.out x hx
          · exact HSW.out x hx
    · have hk8 : k = 8 := by have := HK.out; omega
      subst hk8
      have hpl := pageUp_len (s := s) HV.out 8 hs
      have HPL := Lib.hid hpl
      have hzw := HE.out.size
      clear hpl
      go_wp2
      go_ret
      refine NewPost.ofOwn (e := 5) (n := w.heap.size + 1) (clone_done HWF.out ?_ (by omega)) (by omega) (HEA.out.ext HE.out)
      rw [HPL.out]
      exact HOWN.out
end Go.Proofs.Ytdjcfcgkldokgaa
