/- LastImage: both packages. -/
import Derived.Test.YtpobhdegfppdcaaC0
import Derived.Test.YtpobhdegfppdcaaFLogFrame
import Derived.Test.YtpobhdegfppdcaaFPageResult
namespace Go.Proofs.Ytpobhdegfppdcaa
open Go.RowKit
set_option linter.unusedSimpArgs false
set_option linter.unusedVariables false
def isImg (page : Int) (f : DLogFrame) : Bool := decide (f.Record.Kind = 8) && decide (f.Record.Page = page)
/-- The last of the first k frames that is an image of the page. -/
def lastUp (fs : List DLogFrame) (page : Int) : Nat → DPageResult
  | 0 => ⟨1, []⟩
  | k + 1 => match fs[k]? with
    | some f => if isImg page f = true then ⟨0, f.Record.Image⟩ else lastUp fs page k
    | none => lastUp fs page k
def lastImage (fs : List DLogFrame) (page : Int) : DPageResult := lastUp fs page fs.length
theorem lastUp_at (fs : List DLogFrame) (page : Int) (k : Nat) (hk : k < fs.length) : lastUp fs page (k + 1) = if isImg page fs[k] = true then ⟨0, fs[k].Record.Image⟩ else lastUp fs page k := by
  rw [lastUp, List.getElem?_eq_getElem hk]
theorem pageRes_code {c : Int} {w w' : World} (hc : (Lit.int .i64 c).wf = true) (hO : Ext w w') : NewPost Rep.PageResult ⟨c, []⟩ w (.returned (.agg #[.int .i64 c, .slice none 0 0])) w' :=
  ⟨_, [], rfl, ⟨_, ⟨none, 0, [], rfl, rfl, hc, Rep.sl_nil (by simp)⟩, rfl⟩, hO, by simp, by simp, by simp [Unfr]⟩
theorem pageRes_new {w w1 w2 w3 : World} {A : Option Addr} {k c : Nat} {bs : List Int} {F : List Nat} (hV : (Rep.int .u8).slice.V w2 (.slice A k c) bs F) (hN : New w1 w2 F) (hE : Ext w w1) (hb : w.heap.size < w1.heap.size) (hO : Only [w.heap.size] w2 w3) (hl : k = bs.length) : NewPost Rep.PageResult ⟨0, bs⟩ w (.returned (.agg #[.int .i64 0, .slice A k c])) w3 := by
  obtain ⟨_, ⟨A1, c1, rfl, hsl⟩, he⟩ := hV
  change Value.slice A k c = Value.slice A1 bs.length c1 at he
  injection he with e1 e2 e3
  subst e1; subst e3; subst hl
  have hd : ∀ b ∈ F, b ∉ [w.heap.size] := fun b hb' hm => by have := hN.new b hb'; simp at hm; omega
  refine ⟨_, F, rfl, ⟨_, ⟨A, c, F, rfl, rfl, rfl, Rep.sl_only hsl hO hd⟩, rfl⟩, ?_, fun g hg => Nat.le_trans hE.size (hN.new g hg), hN.nodup, hN.unfr.only hO (Rep.sl_lt hsl) hd⟩
  exact (hE.ext hN.ext).then_ hO (fun g hg hlt => by simp at hg; omega)
set_option maxRecDepth 100000 in
set_option maxHeartbeats 2000000 in
theorem specLastImage_new (w : World) (A : Option Addr) (c : Nat) (fs : List DLogFrame) (F : List Nat) (h : Rep.LogFrame.sl w A c fs F) (page : Int) (ep : (Lit.int .i64 page).wf = true) (hs : wtLogFrameS fs ≤ 1048576) :
    Calls Try.prog 6 #[.slice A fs.length c, .int .i64 page] w (NewPost Rep.PageResult (lastImage fs page) w) := by
  have hu := Try.underlying61
  have hu2 := Try.underlying59
  have hu3 := Try.underlying26
  have hm := Nat.le_trans h.1 h.2.1
  unfold maxLen at hm
  obtain ⟨R, hR⟩ : ∃ R, R = lastImage fs page := ⟨_, rfl⟩
  rw [← hR]
  obtain ⟨up, hup⟩ : ∃ up, up = lastUp fs page := ⟨_, rfl⟩
  have HU := Lib.hid hup; have HR := Lib.hid (show R = up fs.length by rw [hR, hup]; rfl)
  have hE0 := alloc_ext w (.cells #[.int .i64 0, .slice none 0 0] 26)
  have hB := heap_alloc_new w (.cells #[.int .i64 0, .slice none 0 0] 26)
  have hsz0 : (w.alloc (.cells #[.int .i64 0, .slice none 0 0] 26)).heap.size = w.heap.size + 1 := by simp
  have H := Lib.hid (Rep.sl_ext h hE0); have HE0 := Lib.hid hE0; have HB := Lib.hid hB; have HSZ := Lib.hid hsz0; have HW := Lib.hid hs
  clear hR hup h hE0 hB hsz0 hs
  go_enter Try.func6, Try.ntmps6
  go_wp2
  generalize w.alloc (.cells #[.int .i64 0, .slice none 0 0] 26) = W0 at *
  go_loopg [5] (fs.length) (fun m i wr => ∃ q : Nat, m = q ∧ q ≤ fs.length ∧ i = .int .i64 ((q : Int) - 1) ∧ Ext W0 wr ∧ R = up q)
  case atStart => exact ⟨fs.length, rfl, Nat.le_refl _, by go_num, Only.refl _ _, HR.out⟩
  case round =>
    obtain ⟨m0, hmq, hmk, rfl, hE, hup⟩ := hrel
    have HE := Lib.hid hE; have HUP := Lib.hid hup
    clear hE hup
    by_cases hlt : m0 = 0
    · subst hlt
      have HQ := Lib.hid (show R = ⟨1, []⟩ by rw [HUP.out, HU.out]; rfl)
      have m2 := fun o => cell_of_row _ _ o _ _ _ (HE.out.heap HB.out (by simp))
      have f2 := fun o => frozen_of_row _ _ o _ _ (HE.out.heap HB.out (by simp))
      go_wp2
      refine bodyPost_ret (v := .agg #[.int .i64 1, .slice none 0 0]) (by simp [results, Try.results6, go_sem, m2]) rfl ?_
      rw [HQ.out]
      exact pageRes_code (by rfl) (by repeat (first | with_reducible exact (HE0.out.ext HE.out) | ((with_reducible apply Only.set); · first | (simp; done) | exact fun hq => absurd hq (by dsimp only; omega))))
    obtain ⟨k, rfl⟩ : ∃ k, m0 = k + 1 := ⟨m0 - 1, by omega⟩
    have hkl : k < fs.length := by omega
    obtain ⟨g, off, A1, c1, F1, A2, c2, F2, A3, c3, F3, A4, c4, F4, A5, c5, F5, rfl, hg, hwf, s1, s2, s3, s4, s5, e0, e1, e2, e3, e4, e5, e6, e7, e8, e9, e10, e11, e12, e13, e14, e15⟩ := sl_LogFrame (Rep.sl_ext H.out HE.out) k hkl
    have hwl := mem_wtLogFrameS k hkl
    have hua := lastUp_at fs page k hkl
    rw [← HU.out, ← HUP.out] at hua
    have i0 : ((((k + 1 : Nat)) : Int) - 1) = (k : Int) := by omega
    rw [i0]
    have HWL := Lib.hid (show wtLogFrame fs[k] ≤ 1048576 from Nat.le_trans hwl HW.out)
    generalize fs[k] = x at *
    clear hwl hwf HUP
    have hil : x.Record.Image.length ≤ 1048576 := by
      have := HWL.out
      simp only [wtLogFrame, wtLogRecord] at this
      omega
    have hcs : ((x.Record.Kind == 8) = false ∧ R = up k) ∨ ((x.Record.Kind == 8) = true ∧ ((x.Record.Page == page) = false ∧ R = up k ∨ (x.Record.Page == page) = true ∧ R = ⟨0, x.Record.Image⟩)) := by
      rw [hua, HU.out]
      unfold isImg
      by_cases a : x.Record.Kind = 8
      · by_cases b : x.Record.Page = page
        · exact .inr ⟨by simp [a], .inr ⟨by simp [b], by simp [a, b]⟩⟩
        · exact .inr ⟨by simp [a], .inl ⟨by simp [b], by simp [b]⟩⟩
      · exact .inl ⟨by simp [a], by simp [a]⟩
    have HS5 := Lib.hid s5
    clear hua s1 s2 s3 s4 s5

    rcases hcs with ⟨y1, hq⟩ | ⟨y1, ⟨y2, hq⟩ | ⟨y2, hq⟩⟩
    iterate 2
      · have HQ := Lib.hid hq
        clear hq
        go_wp2
        go_roundg k
        case measure => omega
        case rel => exact ⟨k, rfl, by omega, by go_num, HE.out, HQ.out⟩
    have HQ := Lib.hid hq
    clear hq
    go_wp2_with fail
    refine (l1Copy_calls A5 c5 x.Record.Image F5 _ (Rep.sl_ext HS5.out (Only.refl [] _)) (by omega)).mono ?_
    rintro e w4 ⟨v, G, rfl, hV, hN⟩
    have hE4 : Ext W0 w4 := (HE.out).ext hN.ext
    have m2 := fun o => cell_of_row _ _ o _ _ _ (hE4.heap HB.out (by simp))
    have f2 := fun o => frozen_of_row _ _ o _ _ (hE4.heap HB.out (by simp))
    obtain ⟨A6, c6, rfl, -⟩ := Rep.slice_V hV
    have HV := Lib.hid hV; have HN := Lib.hid hN
    clear hV hN hE4
    go_wp2
    refine bodyPost_ret (v := .agg #[.int .i64 0, .slice A6 x.Record.Image.length c6]) (by simp [results, Try.results6, go_sem, m2]) rfl ?_
    rw [HQ.out]
    exact pageRes_new HV.out HN.out (HE0.out.ext (HE.out)) (by have h1 := (HE.out).size; have h2 := HSZ.out; omega) (by repeat (first | with_reducible exact Only.refl _ _ | ((with_reducible apply Only.set); · first | (simp; done) | exact fun hq => absurd hq (by dsimp only; omega)))) rfl
set_option maxRecDepth 100000 in
set_option maxHeartbeats 2000000 in
theorem implLastImage_new (w : World) (A : Option Addr) (c : Nat) (fs : List DLogFrame) (F : List Nat) (h : Rep.LogFrame.sl w A c fs F) (page : Int) (ep : (Lit.int .i64 page).wf = true) (hs : wtLogFrameS fs ≤ 1048576) :
    Calls Try.prog 8 #[.slice A fs.length c, .int .i64 page] w (NewPost Rep.PageResult (lastImage fs page) w) := by
  have hu := Try.underlying61
  have hu2 := Try.underlying59
  have hu3 := Try.underlying26
  have hm := Nat.le_trans h.1 h.2.1
  unfold maxLen at hm
  obtain ⟨R, hR⟩ : ∃ R, R = lastImage fs page := ⟨_, rfl⟩
  rw [← hR]
  obtain ⟨up, hup⟩ : ∃ up, up = lastUp fs page := ⟨_, rfl⟩
  have HU := Lib.hid hup; have HR := Lib.hid (show R = up fs.length by rw [hR, hup]; rfl)
  have hE0 := alloc_ext w (.cells #[.int .i64 0, .slice none 0 0] 26)
  have hB := heap_alloc_new w (.cells #[.int .i64 0, .slice none 0 0] 26)
  have hsz0 : (w.alloc (.cells #[.int .i64 0, .slice none 0 0] 26)).heap.size = w.heap.size + 1 := by simp
  have H := Lib.hid (Rep.sl_ext h hE0); have HE0 := Lib.hid hE0; have HB := Lib.hid hB; have HSZ := Lib.hid hsz0; have HW := Lib.hid hs
  clear hR hup h hE0 hB hsz0 hs
  go_enter Try.func8, Try.ntmps8
  go_wp2
  generalize w.alloc (.cells #[.int .i64 0, .slice none 0 0] 26) = W0 at *
  go_loopg [5] (fs.length) (fun m i wr => ∃ q : Nat, m = q ∧ q ≤ fs.length ∧ i = .int .i64 ((q : Int) - 1) ∧ Ext W0 wr ∧ R = up q)
  case atStart => exact ⟨fs.length, rfl, Nat.le_refl _, by go_num, Only.refl _ _, HR.out⟩
  case round =>
    obtain ⟨m0, hmq, hmk, rfl, hE, hup⟩ := hrel
    have HE := Lib.hid hE; have HUP := Lib.hid hup
    clear hE hup
    by_cases hlt : m0 = 0
    · subst hlt
      have HQ := Lib.hid (show R = ⟨1, []⟩ by rw [HUP.out, HU.out]; rfl)
      have m2 := fun o => cell_of_row _ _ o _ _ _ (HE.out.heap HB.out (by simp))
      have f2 := fun o => frozen_of_row _ _ o _ _ (HE.out.heap HB.out (by simp))
      go_wp2
      refine bodyPost_ret (v := .agg #[.int .i64 1, .slice none 0 0]) (by simp [results, Try.results8, go_sem, m2]) rfl ?_
      rw [HQ.out]
      exact pageRes_code (by rfl) (by repeat (first | with_reducible exact (HE0.out.ext HE.out) | ((with_reducible apply Only.set); · first | (simp; done) | exact fun hq => absurd hq (by dsimp only; omega))))
    obtain ⟨k, rfl⟩ : ∃ k, m0 = k + 1 := ⟨m0 - 1, by omega⟩
    have hkl : k < fs.length := by omega
    obtain ⟨g, off, A1, c1, F1, A2, c2, F2, A3, c3, F3, A4, c4, F4, A5, c5, F5, rfl, hg, hwf, s1, s2, s3, s4, s5, e0, e1, e2, e3, e4, e5, e6, e7, e8, e9, e10, e11, e12, e13, e14, e15⟩ := sl_LogFrame (Rep.sl_ext H.out HE.out) k hkl
    have hwl := mem_wtLogFrameS k hkl
    have hua := lastUp_at fs page k hkl
    rw [← HU.out, ← HUP.out] at hua
    have i0 : ((((k + 1 : Nat)) : Int) - 1) = (k : Int) := by omega
    rw [i0]
    have HWL := Lib.hid (show wtLogFrame fs[k] ≤ 1048576 from Nat.le_trans hwl HW.out)
    generalize fs[k] = x at *
    clear hwl hwf HUP
    have hil : x.Record.Image.length ≤ 1048576 := by
      have := HWL.out
      simp only [wtLogFrame, wtLogRecord] at this
      omega
    have hcs : ((x.Record.Kind == 8) = false ∧ R = up k) ∨ ((x.Record.Kind == 8) = true ∧ ((x.Record.Page == page) = false ∧ R = up k ∨ (x.Record.Page == page) = true ∧ R = ⟨0, x.Record.Image⟩)) := by
      rw [hua, HU.out]
      unfold isImg
      by_cases a : x.Record.Kind = 8
      · by_cases b : x.Record.Page = page
        · exact .inr ⟨by simp [a], .inr ⟨by simp [b], by simp [a, b]⟩⟩
        · exact .inr ⟨by simp [a], .inl ⟨by simp [b], by simp [b]⟩⟩
      · exact .inl ⟨by simp [a], by simp [a]⟩
    have HS5 := Lib.hid s5
    clear hua s1 s2 s3 s4 s5
    have hEA := alloc_ext wr (.cells #[.int .i64 x.Record.Kind, .int .i64 x.Record.Txn, .int .i64 x.Record.Prev, .int .i64 x.Record.Page, .int .i64 x.Record.Slot, .bool x.Record.Before.Used, .slice A1 x.Record.Before.Data.length c1, .bool x.Record.After.Used, .slice A2 x.Record.After.Data.length c2, .int .i64 x.Record.UndoNext, .int .i64 x.Record.NextTxn, .slice A3 x.Record.Txns.length c3, .slice A4 x.Record.Dirty.length c4, .slice A5 x.Record.Image.length c5] 59)
    have mo := fun o => cell_of_row _ _ o _ _ _ (heap_alloc_new wr (.cells #[.int .i64 x.Record.Kind, .int .i64 x.Record.Txn, .int .i64 x.Record.Prev, .int .i64 x.Record.Page, .int .i64 x.Record.Slot, .bool x.Record.Before.Used, .slice A1 x.Record.Before.Data.length c1, .bool x.Record.After.Used, .slice A2 x.Record.After.Data.length c2, .int .i64 x.Record.UndoNext, .int .i64 x.Record.NextTxn, .slice A3 x.Record.Txns.length c3, .slice A4 x.Record.Dirty.length c4, .slice A5 x.Record.Image.length c5] 59))
    have HEA := Lib.hid hEA
    clear hEA
    rcases hcs with ⟨y1, hq⟩ | ⟨y1, ⟨y2, hq⟩ | ⟨y2, hq⟩⟩
    iterate 2
      · have HQ := Lib.hid hq
        clear hq
        go_wp2
        go_roundg k
        case measure => omega
        case rel => exact ⟨k, rfl, by omega, by go_num, (HE.out.ext HEA.out), HQ.out⟩
    have HQ := Lib.hid hq
    clear hq
    go_wp2_with fail
    refine (Clone_calls A5 c5 x.Record.Image F5 _ (Rep.sl_ext HS5.out HEA.out) (by omega)).mono ?_
    rintro e w4 ⟨v, G, rfl, hV, hN⟩
    have hE4 : Ext W0 w4 := ((HE.out.ext HEA.out)).ext hN.ext
    have m2 := fun o => cell_of_row _ _ o _ _ _ (hE4.heap HB.out (by simp))
    have f2 := fun o => frozen_of_row _ _ o _ _ (hE4.heap HB.out (by simp))
    obtain ⟨A6, c6, rfl, -⟩ := Rep.slice_V hV
    have HV := Lib.hid hV; have HN := Lib.hid hN
    clear hV hN hE4
    go_wp2
    refine bodyPost_ret (v := .agg #[.int .i64 0, .slice A6 x.Record.Image.length c6]) (by simp [results, Try.results8, go_sem, m2]) rfl ?_
    rw [HQ.out]
    exact pageRes_new HV.out HN.out (HE0.out.ext ((HE.out.ext HEA.out))) (by have h1 := ((HE.out.ext HEA.out)).size; have h2 := HSZ.out; omega) (by repeat (first | with_reducible exact Only.refl _ _ | ((with_reducible apply Only.set); · first | (simp; done) | exact fun hq => absurd hq (by dsimp only; omega)))) rfl
theorem NewPost.weak {α : Type} {r : Rep α} {x : α} {w : World} {e : Ending} {w' : World} (h : NewPost r x w e w') : ∃ v F, e = .returned v ∧ r.V w' v x F ∧ Ext w w' := by
  obtain ⟨v, F, h1, h2, h3⟩ := h
  exact ⟨v, F, h1, h2, h3.ext⟩
theorem specLastImage_calls (w : World) (A : Option Addr) (c : Nat) (fs : List DLogFrame) (F : List Nat) (h : Rep.LogFrame.sl w A c fs F) (page : Int) (ep : (Lit.int .i64 page).wf = true) (hs : wtLogFrameS fs ≤ 1048576) :
    Calls Try.prog 6 #[.slice A fs.length c, .int .i64 page] w fun e w' => ∃ v F, e = .returned v ∧ Rep.PageResult.V w' v (lastImage fs page) F ∧ Ext w w' :=
  (specLastImage_new w A c fs F h page ep hs).mono fun _ _ h => h.weak
theorem lastUp_len (fs : List DLogFrame) (page : Int) (hs : wtLogFrameS fs ≤ 1048576) : ∀ k, k ≤ fs.length → (lastUp fs page k).Page.length ≤ 1048576
  | 0, _ => by simp [lastUp]
  | k + 1, hk => by
    rw [lastUp_at fs page k (by omega)]
    split
    · have h1 := mem_wtLogFrameS (xs := fs) k (by omega)
      simp only [wtLogFrame, wtLogRecord] at h1
      dsimp only
      omega
    · exact lastUp_len fs page hs k (by omega)
theorem lastImage_ct (fs : List DLogFrame) (page : Int) (hs : wtLogFrameS fs ≤ 1048576) : ctTopPageResult (lastImage fs page) ≤ 1152921504606846976 := by
  have h1 := ctTopPageResult_wt (lastImage fs page)
  have h2 := lastUp_len fs page hs fs.length (Nat.le_refl _)
  simp only [wtPageResult, lastImage] at h1 h2 ⊢
  omega
end Go.Proofs.Ytpobhdegfppdcaa
