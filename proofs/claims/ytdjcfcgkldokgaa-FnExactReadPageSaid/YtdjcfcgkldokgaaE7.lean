/- ReadPage in both packages. -/
import Derived.Test.YtdjcfcgkldokgaaE6
namespace Go.Proofs.Ytdjcfcgkldokgaa
open Go.RowKit
set_option linter.unusedSimpArgs false
set_option linter.unusedVariables false
set_option maxRecDepth 100000 in
set_option maxHeartbeats 1000000 in
theorem specReadPage_new (w : World) (v : Value) (d : DDisk) (F : List Nat) (h : Rep.Disk.V w v d F) (gv : Value) (g : DGeometry) (Fg : List Nat) (hg : Rep.Geometry.V w gv g Fg) (p : Int) (ep : (Lit.int .i64 p).wf = true) (hs : wtDisk d ≤ 1048576) :
    Calls Try.prog 49 #[v, gv, .int .i64 p] w (NewPost (Rep.int .u8).slice (readPage d g p) w) := by
  obtain ⟨_, ⟨A1, c1, F1, A2, c2, F2, rfl, rfl, hwd, s1, s2⟩, rfl⟩ := id h
  obtain ⟨_, ⟨rfl, rfl, hwg⟩, rfl⟩ := id hg
  have hu := Try.underlying29
  have hu2 := Try.underlying75
  show Calls _ _ #[.agg #[_, _], .agg #[_, _, _], _] _ _
  have hEA := (alloc_ext w (.cells #[.slice A1 d.Durable.length c1, .slice A2 d.Pending.length c2] 29)).alloc (.cells #[.int .i64 g.Pages, .int .i64 g.Frames, .int .i64 g.LogSectors] 75)
  have hb1 := heap_alloc2_old w (.cells #[.slice A1 d.Durable.length c1, .slice A2 d.Pending.length c2] 29) (.cells #[.int .i64 g.Pages, .int .i64 g.Frames, .int .i64 g.LogSectors] 75)
  have hb2 := heap_alloc2_new w (.cells #[.slice A1 d.Durable.length c1, .slice A2 d.Pending.length c2] 29) (.cells #[.int .i64 g.Pages, .int .i64 g.Frames, .int .i64 g.LogSectors] 75)
  have HS1 := Lib.hid s1; have HS2 := Lib.hid s2; have HEA := Lib.hid hEA; have HB1 := Lib.hid hb1; have HB2 := Lib.hid hb2
  clear hEA hb1 hb2 s1 s2
  obtain ⟨R, hR⟩ : ∃ R, R = readPage d g p := ⟨_, rfl⟩
  rw [← hR]
  have HR := Lib.hid hR
  clear hR
  go_enter Try.func49, Try.ntmps49
  have m1 := fun o => cell_of_row _ _ o _ _ _ HB1.out
  have m2 := fun o => cell_of_row _ _ o _ _ _ HB2.out
  go_wp2_with fail
  refine (specFits_calls _ _ d _ ⟨_, ⟨A1, c1, _, A2, c2, _, rfl, rfl, hwd, Rep.sl_ext HS1.out HEA.out, Rep.sl_ext HS2.out HEA.out⟩, rfl⟩ g).mono ?_
  obtain ⟨b, hb⟩ : ∃ b, b = fitsOK d g := ⟨_, rfl⟩
  rw [← hb]
  have HB := Lib.hid hb
  clear hb m1 m2
  rintro e w1 ⟨rfl, hO⟩
  have HC1 := Lib.hid (hO.heap HB1.out (by simp)); have HC2 := Lib.hid (hO.heap HB2.out (by simp))
  have HE1 := Lib.hid (HEA.out.ext hO)
  clear hO
  have m1 := fun o => cell_of_row _ _ o _ _ _ HC1.out
  have m2 := fun o => cell_of_row _ _ o _ _ _ HC2.out
  cases b
  · have HRb := Lib.hid (show R = [] by rw [HR.out, readPage, if_neg]; rw [← HB.out]; simp)
    go_wp2
    go_ret
    rw [HRb.out]
    exact NewPost.ofOwn (e := 5) (n := w1.heap.size) (Own.made (Nat.le_refl _) #[] 0 (by simp) (by simp)) (by have := (HE1.out).size; omega) ((HE1.out).alloc _)
  have hgf := (fits_facts HB.out.symm).1
  have hgr := geoFault_room hgf
  cases hp : inR p 0 (g.Pages - 1)
  · have HRb := Lib.hid (show R = [] by rw [HR.out, readPage, if_neg]; rw [hp]; simp)
    have hps : pageSector g p = -1 := if_neg (fun h => by rw [hp] at h; exact absurd h.2 (by simp))
    go_wp2_with fail
    refine (specPageSector_calls g p _).mono ?_
    rw [hps]
    rintro e w2 ⟨rfl, hO⟩
    have HE2 := Lib.hid (HE1.out.ext hO)
    have HD1 := Lib.hid (hO.heap HC1.out (by simp)); have HD2 := Lib.hid (hO.heap HC2.out (by simp))
    clear hO m1 m2
    have m1 := fun o => cell_of_row _ _ o _ _ _ HD1.out
    have m2 := fun o => cell_of_row _ _ o _ _ _ HD2.out
    go_wp2
    go_ret
    rw [HRb.out]
    exact NewPost.ofOwn (e := 5) (n := w2.heap.size) (Own.made (Nat.le_refl _) #[] 0 (by simp) (by simp)) (by have := (HE2.out).size; omega) ((HE2.out).alloc _)
  · obtain ⟨s, hps, hs8⟩ := fits_room HB.out.symm hp
    have HRg := Lib.hid (show R = pageUp d s 8 by rw [HR.out, readPage, if_pos ⟨HB.out.symm, hp⟩, hps]; rfl)
    have HPS := Lib.hid hps
    have HVD := Lib.hid (fits_facts HB.out.symm).2.1
    clear hps
    have hsn : decide ((s : Int) < 0) = false := by simp
    go_wp2_with fail
    refine (specPageSector_calls g p _).mono ?_
    rw [HPS.out]
    rintro e w2 ⟨rfl, hO⟩
    have HE2 := Lib.hid (HE1.out.ext hO)
    have HD1 := Lib.hid (hO.heap HC1.out (by simp)); have HD2 := Lib.hid (hO.heap HC2.out (by simp))
    clear hO m1 m2
    have m1 := fun o => cell_of_row _ _ o _ _ _ HD1.out
    have m2 := fun o => cell_of_row _ _ o _ _ _ HD2.out
    go_wp2_with fail
    refine (seePage_calls w2 A1 c1 A2 c2 d _ _ (Rep.sl_ext HS1.out HE2.out) (Rep.sl_ext HS2.out HE2.out) HVD.out g p s HPS.out hs8).mono ?_
    rw [← HRg.out]
    rintro e w5 ⟨v5, F5, rfl, hV5, hN5⟩
    have H5 := Lib.hid hV5; have HN := Lib.hid hN5
    clear hV5 hN5
    go_wp2
    go_ret
    exact ⟨v5, F5, rfl, H5.out, HE2.out.ext HN.out.ext, fun q hq => by have := HN.out.new q hq; have := HE2.out.size; omega, HN.out.nodup, HN.out.unfr⟩
set_option maxRecDepth 100000 in
set_option maxHeartbeats 1000000 in
theorem implReadPage_new (w : World) (v : Value) (d : DDisk) (F : List Nat) (h : Rep.Disk.V w v d F) (gv : Value) (g : DGeometry) (Fg : List Nat) (hg : Rep.Geometry.V w gv g Fg) (p : Int) (ep : (Lit.int .i64 p).wf = true) (hs : wtDisk d ≤ 1048576) :
    Calls Try.prog 51 #[v, gv, .int .i64 p] w (NewPost (Rep.int .u8).slice (readPage d g p) w) := by
  obtain ⟨_, ⟨A1, c1, F1, A2, c2, F2, rfl, rfl, hwd, s1, s2⟩, rfl⟩ := id h
  obtain ⟨_, ⟨rfl, rfl, hwg⟩, rfl⟩ := id hg
  have hu := Try.underlying29
  have hu2 := Try.underlying75
  show Calls _ _ #[.agg #[_, _], .agg #[_, _, _], _] _ _
  have hEA := (alloc_ext w (.cells #[.slice A1 d.Durable.length c1, .slice A2 d.Pending.length c2] 29)).alloc (.cells #[.int .i64 g.Pages, .int .i64 g.Frames, .int .i64 g.LogSectors] 75)
  have hb1 := heap_alloc2_old w (.cells #[.slice A1 d.Durable.length c1, .slice A2 d.Pending.length c2] 29) (.cells #[.int .i64 g.Pages, .int .i64 g.Frames, .int .i64 g.LogSectors] 75)
  have hb2 := heap_alloc2_new w (.cells #[.slice A1 d.Durable.length c1, .slice A2 d.Pending.length c2] 29) (.cells #[.int .i64 g.Pages, .int .i64 g.Frames, .int .i64 g.LogSectors] 75)
  have HS1 := Lib.hid s1; have HS2 := Lib.hid s2; have HEA := Lib.hid hEA; have HB1 := Lib.hid hb1; have HB2 := Lib.hid hb2
  clear hEA hb1 hb2 s1 s2
  obtain ⟨R, hR⟩ : ∃ R, R = readPage d g p := ⟨_, rfl⟩
  rw [← hR]
  have HR := Lib.hid hR
  clear hR
  go_enter Try.func51, Try.ntmps51
  have m1 := fun o => cell_of_row _ _ o _ _ _ HB1.out
  have m2 := fun o => cell_of_row _ _ o _ _ _ HB2.out
  go_wp2_with fail
  refine (implFits_calls _ _ d _ ⟨_, ⟨A1, c1, _, A2, c2, _, rfl, rfl, hwd, Rep.sl_ext HS1.out HEA.out, Rep.sl_ext HS2.out HEA.out⟩, rfl⟩ g).mono ?_
  obtain ⟨b, hb⟩ : ∃ b, b = fitsOK d g := ⟨_, rfl⟩
  rw [← hb]
  have HB := Lib.hid hb
  clear hb m1 m2
  rintro e w1 ⟨rfl, hO⟩
  have HC1 := Lib.hid (hO.heap HB1.out (by simp)); have HC2 := Lib.hid (hO.heap HB2.out (by simp))
  have HE1 := Lib.hid (HEA.out.ext hO)
  clear hO
  have m1 := fun o => cell_of_row _ _ o _ _ _ HC1.out
  have m2 := fun o => cell_of_row _ _ o _ _ _ HC2.out
  cases b
  · have HRb := Lib.hid (show R = [] by rw [HR.out, readPage, if_neg]; rw [← HB.out]; simp)
    go_wp2
    go_ret
    rw [HRb.out]
    exact NewPost.nil (HE1.out)
  have hgf := (fits_facts HB.out.symm).1
  have hgr := geoFault_room hgf
  cases hp : inR p 0 (g.Pages - 1)
  · have HRb := Lib.hid (show R = [] by rw [HR.out, readPage, if_neg]; rw [hp]; simp)
    go_wp2_with (go_at_call 84; refine (implIn_calls _ _ _ _).mono ?_; rintro e w3 ⟨rfl, rfl⟩)
    go_ret
    rw [HRb.out]
    exact NewPost.nil (HE1.out)
  · obtain ⟨s, hps, hs8⟩ := fits_room HB.out.symm hp
    have HRg := Lib.hid (show R = pageUp d s 8 by rw [HR.out, readPage, if_pos ⟨HB.out.symm, hp⟩, hps]; rfl)
    have HPS := Lib.hid hps
    have HVD := Lib.hid (fits_facts HB.out.symm).2.1
    clear hps
    go_wp2_with (first | (go_at_call 84; refine (implIn_calls _ _ _ _).mono ?_; rintro e w3 ⟨rfl, rfl⟩) | fail)
    refine (page_calls w.heap.size w1 A1 c1 A2 c2 d _ HC1.out _ _ (Rep.sl_ext HS1.out HE1.out) (Rep.sl_ext HS2.out HE1.out) HVD.out g p s HPS.out hs8).mono ?_
    rw [← HRg.out]
    rintro e w5 ⟨v5, F5, rfl, hV5, hN5⟩
    have H5 := Lib.hid hV5; have HN := Lib.hid hN5
    clear hV5 hN5
    go_wp2
    go_ret
    exact ⟨v5, F5, rfl, H5.out, HE1.out.ext HN.out.ext, fun q hq => by have := HN.out.new q hq; have := HE1.out.size; omega, HN.out.nodup, HN.out.unfr⟩
theorem specReadPage_calls (w : World) (v : Value) (d : DDisk) (F : List Nat) (h : Rep.Disk.V w v d F) (gv : Value) (g : DGeometry) (Fg : List Nat) (hg : Rep.Geometry.V w gv g Fg) (p : Int) (ep : (Lit.int .i64 p).wf = true) (hs : wtDisk d ≤ 1048576) :
    Calls Try.prog 49 #[v, gv, .int .i64 p] w fun e w' => ∃ v F, e = .returned v ∧ (Rep.int .u8).slice.V w' v (readPage d g p) F ∧ Ext w w' :=
  (specReadPage_new w v d F h gv g Fg hg p ep hs).mono fun _ _ h => by
    obtain ⟨v, F, h1, h2, h3⟩ := h
    exact ⟨v, F, h1, h2, h3.ext⟩
theorem readPage_len (d : DDisk) (g : DGeometry) (p : Int) : (readPage d g p).length ≤ 4096 := by
  unfold readPage
  split
  · rename_i h
    obtain ⟨s, e, hs⟩ := fits_room h.1 h.2
    rw [e, show ((s : Int)).toNat = s from rfl, pageUp_len (fits_facts h.1).2.1 8 hs]
    omega
  · simp
end Go.Proofs.Ytdjcfcgkldokgaa
