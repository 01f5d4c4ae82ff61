/- The draws: a disk. -/
import Derived.Test.YtdjcfcgkldokgaaG4
import Derived.Test.YtdjcfcgkldokgaaD18
import Derived.Deep.RegionHeld3
import Derived.Deep.DeepCutAuto
import Derived.Deep.CutRange
namespace Go.Proofs.Ytdjcfcgkldokgaa
open Go.RowKit
set_option linter.unusedSimpArgs false
set_option linter.unusedVariables false
theorem BB.lt {g : Nat} {xs : List Int} {w : World} (h : BB g xs w) : g < w.heap.size := (Array.getElem?_eq_some_iff.1 h.1).1
theorem BB.src {g : Nat} {xs : List Int} {w : World} (h : BB g xs w) : ∀ j v, (xs.map (Value.int .u8))[j]? = some v → w.cell? ((⟨g, 0, none⟩ : Addr).add j) = some v := by
  intro j v hj
  have e : (⟨g, 0, none⟩ : Addr).add j = ⟨g, j, none⟩ := by unfold Addr.add; split <;> simp_all
  rw [e, cell_of_row w g j _ _ _ h.1]
  simpa using hj
theorem BB.some {g : Nat} {xs : List Int} {w : World} (h : BB g xs w) {j : Nat} (hj : j < xs.length) : (w.cell? ⟨g, j, none⟩).isSome = true := by
  rw [h.cell (List.getElem?_eq_getElem hj)]; rfl
theorem ints_one (xs : List Int) : ∀ v ∈ xs.map (Value.int .u8), v.oneCell' = true := by
  intro v hv
  obtain ⟨x, -, rfl⟩ := List.mem_map.1 hv
  rfl
/-- The disk that is drawn lies in the box bx, its bytes in the block gd; wr: the answer's box. -/
structure DrD (w wr : World) (sb N bx gd L : Nat) (pv : Value) : Prop where
  box : wr.heap[bx]? = some (.cells #[.slice (some ⟨gd, 0, none⟩) L L, pv] 29 (0, 0))
  res : wr.heap[w.heap.size]? = some (.cells #[.slice none 0 0, .slice none 0 0] 29 (0, 0))
  src : Src sb N wr
  only : Only [sb] w wr
  bytes : ∃ xs, xs.length = L ∧ BB gd xs wr
  ge : w.heap.size < gd ∧ gd < bx ∧ sb < w.heap.size
theorem DrD.more {w wr w' : World} {sb N M bx gd L : Nat} {pv : Value} (h : DrD w wr sb N bx gd L pv) (hO : Only [sb] wr w') (hs : Src sb M w') : DrD w w' sb M bx gd L pv := by
  have hg := h.ge
  obtain ⟨xs, h1, h2⟩ := h.bytes
  exact ⟨hO.heap h.box (by simp; omega), hO.heap h.res (by simp; omega), hs, h.only.trans hO, ⟨xs, h1, h2.only hO (by simp; omega)⟩, hg⟩
theorem DrD.ext {w wr w' : World} {sb N bx gd L : Nat} {pv : Value} (h : DrD w wr sb N bx gd L pv) (hO : Ext wr w') : DrD w w' sb N bx gd L pv := h.more (hO.more (by simp)) (h.src.ext hO)
theorem DrD.copy {w wr : World} {sb N bx gd L o : Nat} {pv : Value} (h : DrD w wr sb N bx gd L pv) (ys : List Int) (hy : ∀ y ∈ ys, (Lit.int .u8 y).wf = true) : DrD w (wr.setCells gd o (ys.map (Value.int .u8))) sb N bx gd L pv := by
  have hg := h.ge
  obtain ⟨xs, h1, h2⟩ := h.bytes
  obtain ⟨zs, h3, h4⟩ := BB.setCells ys o xs wr h2 hy
  have hO : Only [gd] wr (wr.setCells gd o (ys.map (Value.int .u8))) := (Only.refl _ _).cells (fun _ => by simp) _ _
  exact ⟨hO.heap h.box (by simp; omega), hO.heap h.res (by simp; omega), h.src.only hO (by simp; omega), h.only.then_ hO (fun g hg' hl => by simp at hg'; omega), ⟨zs, by rw [h3, h1], h4⟩, hg⟩
theorem DrD.below {w wr w' : World} {sb N bx gd L nb : Nat} {pv : Value} (h : DrD w wr sb N bx gd L pv) (hb : Below nb wr w') (hn : bx < nb) : DrD w w' sb N bx gd L pv := by
  have hg := h.ge
  obtain ⟨xs, h1, h2⟩ := h.bytes
  refine ⟨(hb.block bx hn).trans h.box, (hb.block _ (by omega)).trans h.res, h.src.below hb (by omega), ⟨hb.os.trans h.only.os, hb.tape.trans h.only.tape, hb.output.trans h.only.output, Nat.le_trans h.only.size hb.size, fun k hk hq => (hb.block k (by omega)).trans (h.only.block k hk hq)⟩, ⟨xs, h1, ⟨(hb.block gd (by omega)).trans h2.1, h2.2⟩⟩, hg⟩
theorem DrD.setP {w wr : World} {sb N bx gd L : Nat} {pv : Value} (h : DrD w wr sb N bx gd L pv) (v : Value) : DrD w (wr.setCell ⟨bx, 1, none⟩ v) sb N bx gd L v := by
  have hg := h.ge
  obtain ⟨xs, h1, h2⟩ := h.bytes
  have hO : Only [bx] wr (wr.setCell ⟨bx, 1, none⟩ v) := (Only.refl _ _).setCell (fun _ => by simp) _
  exact ⟨heap_setCell_same wr bx 1 _ _ v h.box, hO.heap h.res (by simp; omega), h.src.only hO (by simp; omega), h.only.then_ hO (fun g hg' hl => by simp at hg'; omega), ⟨xs, h1, h2.only hO (by simp; omega)⟩, hg⟩
theorem infoSW : (Try.prog.info? 64).map (fun i => (i.zero, i.size, i.bytes)) = some (some (.agg #[.int .i64 0, .slice none 0 0]), 2, 32) := by kernel_rfl
theorem BB.tail {g : Nat} {xs : List Int} {w : World} (h : BB g xs w) (h1 : 1 ≤ xs.length) (hm : xs.length ≤ maxLen) : ∃ zs : List Int, zs.length = xs.length - 1 ∧ (Rep.int .u8).sl w (Option.some ⟨g, 1, none⟩) (xs.length - 1) zs [g] := by
  have hl : (xs.drop 1).length = xs.length - 1 := List.length_drop
  refine ⟨xs.drop 1, hl, ⟨Nat.le_of_eq hl, by omega, .inr ⟨g, 1, [], _, rfl, rfl, h.lt, bytes_cells w _ (fun x hx => h.2 x (List.mem_of_mem_drop hx)), fun j u hu => ?_⟩⟩⟩
  rw [cell_of_row w g _ _ _ _ h.1]
  rw [List.getElem?_map, List.getElem?_drop] at hu
  simpa using hu
/-- A write whose bytes are new. -/
theorem sw_new {W : World} {g n : Nat} {xs : List Int} (s : Int) (hs : (Lit.int .i64 s).wf = true) (h : BB g xs W) (hl : xs.length = n) (hn : n ≤ 1048576) : Rep.SectorWrite.R W ⟨s, xs⟩ [.int .i64 s, .slice (some ⟨g, 0, none⟩) n n] [g] := by
  subst hl
  exact ⟨_, _, [g], rfl, rfl, hs, h.sl (by unfold maxLen; omega)⟩
theorem BB.newIn {g m : Nat} {xs : List Int} {w : World} (h : BB g xs w) (hm : m ≤ g) : NewIn m w [g] := ⟨fun x hx => by simp at hx; omega, fun x hx => by simp at hx; subst hx; exact h.lt, by simp, h.unfr⟩
def DiskD (sb N : Nat) (w : World) (e : Ending) (w' : World) : Prop := ∃ (d : DDisk) (v : Value) (F : List Nat), e = .returned v ∧ Hid (Rep.Disk.V w' v d F) ∧ Hid (∀ g ∈ F, w.heap.size ≤ g) ∧ Hid (wtDisk d ≤ 100000) ∧ Hid (Src sb (N + 60) w') ∧ Hid (Only [sb] w w')
theorem wt_writes : ∀ (P : List DSectorWrite), (∀ x ∈ P, x.Data.length ≤ 512) → wtSectorWriteS P ≤ P.length * 513
  | [], _ => by simp [wtSectorWriteS]
  | x :: P, h => by
    have ih := wt_writes P (fun y hy => h y (by simp [hy]))
    have hx := h x (by simp)
    simp only [wtSectorWriteS, List.length_cons, List.map_cons, List.sum_cons, wtSectorWrite] at ih ⊢
    omega
theorem DiskD.close {w wz w' : World} {sb N M nb : Nat} {A Ap : Option Addr} {c cp n : Nat} {D : List Int} {P : List DSectorWrite} {F : List Nat} (hn : n = D.length) (hs : (Rep.int .u8).sl wz A c D F) (hF : ∀ g ∈ F, w.heap.size < g) (hP : Own Rep.SectorWrite 64 nb wz (.slice Ap P.length cp) P) (hnb : w.heap.size < nb)
    (hD : D.length ≤ 4000) (hl : P.length ≤ 8) (hPD : ∀ x ∈ P, x.Data.length ≤ 512) (hsrc : Src sb M wz) (hM : M ≤ N + 60) (hO : Only [sb] w wz) (hOz : Only [w.heap.size] wz w') (hsb : sb < w.heap.size) : DiskD sb N w (.returned (.agg #[.slice A n c, .slice Ap P.length cp])) w' := by
  subst hn
  obtain ⟨G, hV, hG⟩ := hP.done
  obtain ⟨A', c', he, hs2⟩ := Rep.slice_V hV
  injection he with e1 e2 e3
  subst e1; subst e3
  refine ⟨⟨D, P⟩, _, F ++ G, rfl, Lib.hid ⟨_, ⟨A, c, F, Ap, cp, G, rfl, rfl, trivial, Rep.sl_only hs hOz (fun b hb hb' => by have := hF b hb; simp at hb'; omega), Rep.sl_only hs2 hOz (fun b hb hb' => by have := hG.ge b hb; simp at hb'; omega)⟩, rfl⟩, Lib.hid ?_, Lib.hid ?_, Lib.hid ((hsrc.only hOz (by simp; exact hsb)).mono hM), Lib.hid (hO.then_ hOz (fun g hg hl' => by simp at hg; omega))⟩
  · intro g hg
    rcases List.mem_append.1 hg with hg | hg
    · exact Nat.le_of_lt (hF g hg)
    · have := hG.ge g hg; omega
  · have := wt_writes P hPD
    simp only [wtDisk]
    omega
set_option maxRecDepth 100000 in
set_option maxHeartbeats 8000000 in
theorem l1DrawDisk_calls (sb N : Nat) (w : World) (h : Src sb N w) (hN : N ≤ 100000) :
    Calls Try.prog 73 #[.pointer (some ⟨sb, 0, none⟩)] w (DiskD sb N w) := by
  have hu := Try.underlying29
  have hu2 := Try.underlying64
  have hlt := h.lt
  have H := Lib.hid (h.ext (alloc_ext w (.cells #[.slice none 0 0, .slice none 0 0] 29)))
  have HB := Lib.hid (heap_alloc_new w (.cells #[.slice none 0 0, .slice none 0 0] 29))
  have HE := Lib.hid (alloc_ext w (.cells #[.slice none 0 0, .slice none 0 0] 29))
  have hsz : (w.alloc (.cells #[.slice none 0 0, .slice none 0 0] 29)).heap.size = w.heap.size + 1 := by simp
  have HSZ := Lib.hid hsz
  clear h hsz
  go_enter Try.func73, Try.ntmps73
  go_wp2_with (go_at_call 74; refine (l1Next_calls sb N _ H.out (by omega) 5 (by decide)).mono ?_; rintro e w1 ⟨r, rfl, hr, HS1, HO1⟩; refine Hid.out ?_)
  refine Lib.hid ?_
  obtain ⟨n, hn⟩ : ∃ n : Nat, n = r + 1 := ⟨_, rfl⟩
  have e1 : IntKind.i64.wrap (1 + (r : Int)) = (n : Int) := by rw [IntKind.wrap_i64] <;> omega
  have hn1 : 1 ≤ n := by omega
  have hn5 : n ≤ 5 := by omega
  clear hr hn
  go_wp2_with (go_at_call 94; refine (newDisk_calls _ n hn1 (by omega)).mono ?_; rintro e w2 ⟨gd, L, rfl, HL, HG, HBB, HE2⟩; refine Hid.out ?_)
  refine Lib.hid ?_
  go_wp2_with fail
  have hLn := HL.out
  have hs1 := HO1.out.size
  have hs0 := HSZ.out
  have HD0 := Lib.hid (show DrD w (w2.alloc (.cells #[.slice (some ⟨gd, 0, none⟩) L L, .slice none 0 0] 29)) sb (N + 1 + 2 * 0) w2.heap.size gd L (.slice none 0 0) from by
    have hg := HG.out
    have hgl := HBB.out.lt
    have hE3 := alloc_ext w2 (.cells #[.slice (some ⟨gd, 0, none⟩) L L, .slice none 0 0] 29)
    exact ⟨heap_alloc_new _ _, hE3.heap (HE2.out.heap (HO1.out.heap HB.out (by simp; omega)) (by simp)) (by simp), (HS1.out.ext HE2.out).ext hE3, (((HE.out.more (by simp)).trans HO1.out).ext HE2.out).ext hE3, ⟨_, by simp, HBB.out.only hE3 (by simp)⟩, by omega⟩)
  generalize (w2.alloc (.cells #[.slice (some ⟨gd, 0, none⟩) L L, .slice none 0 0] 29)) = W0 at *
  generalize w2.heap.size = bx at *
  clear H HB HE HSZ HS1 HO1 HL HG HBB HE2 hs0 hs1 e1
  have HQ := Lib.hid (show (L : Int) / 512 = (n : Int) by omega)
  have HLN := Lib.hid hLn
  clear hLn
  obtain ⟨i0, hi, hz0, hz1, hz2⟩ := info_parts infoU8
  go_loopg [4] n (fun m i wr => ∃ k : Nat, m + k = n ∧ i = .int .i64 k ∧ Hid (DrD w wr sb (N + 1 + 2 * k) bx gd L (.slice none 0 0)))
  case atStart => exact ⟨0, by simp, rfl, HD0⟩
  case round =>
    obtain ⟨k, hk, rfl, HD⟩ := hrel
    have HK := Lib.hid hk
    have m := fun o => cell_of_row _ _ o _ _ _ HD.out.box
    have f := fun o => frozen_of_row _ _ o _ _ HD.out.box
    go_wp2_with (go_at_call 63; refine (l1Sectors_calls (some ⟨gd, 0, none⟩) none L 0 L 0 wr (by have := HLN.out; omega)).mono ?_; rintro e wa ⟨rfl, hwa⟩; rw [HQ.out]; subst hwa; refine Hid.out ?_)
    refine Lib.hid ?_
    have HDA := Lib.hid (HD.out.ext (alloc_ext wr (.cells #[.slice (some ⟨gd, 0, none⟩) L L, .slice none 0 0] 29)))
    generalize (wr.alloc (.cells #[.slice (some ⟨gd, 0, none⟩) L L, .slice none 0 0] 29)) = wA at *
    clear m f
    have m := fun o => cell_of_row _ _ o _ _ _ HDA.out.box
    have f := fun o => frozen_of_row _ _ o _ _ HDA.out.box
    by_cases hlt2 : k < n
    · have hki : (k : Int) < (n : Int) := by omega
      clear hk
      obtain ⟨o, ho⟩ : ∃ o : Nat, o = k * 512 := ⟨_, rfl⟩
      have a1 : IntKind.i64.wrap ((k : Int) * 512) = (o : Int) := by rw [ho, IntKind.wrap_i64] <;> omega
      have hoL : o + 512 ≤ L := by have := HLN.out; omega
      have a2 : ¬ L = o := by omega
      have a3 : o ≤ L := by omega
      have a4 : ¬ (o : Int) < 0 := by omega
      have HDQ := Lib.hid (HDA.out.ext ((Only.refl [] wA).drew))
      have HOL := Lib.hid hoL
      clear ho hoL m f
      have m := fun o => cell_of_row _ _ o _ _ _ HDQ.out.box
      have f := fun o => frozen_of_row _ _ o _ _ HDQ.out.box
      go_wp2_with fail
      refine wp_region_noPanic ?_
      refine wp_region_held_drew (S := (fun w' => True)) (by kernel_rfl) ?_ (fun hHeld => ?_)
      · exact True.intro
      refine wpAnyH_take (i := 0) (v := ?_) rfl (by kernel_rfl) (by kernel_rfl) (by kernel_rfl) (fun _ _ _ h => h) (Or.inl ⟨by rfl, ?_⟩) (by assumption) ?_
      rotate_left
      · intro w hSw; (try dsimp only at hSw); go_simp <;> with_reducible rfl
      try simp only [Act.put, List.setIfInBounds_toArray, List.set_cons_zero, List.set_cons_succ]
      refine wpAnyH_take (i := 2) (v := ?_) rfl (by kernel_rfl) (by kernel_rfl) (by kernel_rfl) (fun _ _ _ h => h) (Or.inl ⟨by rfl, ?_⟩) (by assumption) ?_
      rotate_left
      · intro w hSw; (try dsimp only at hSw); go_simp <;> with_reducible rfl
      try simp only [Act.put, List.setIfInBounds_toArray, List.set_cons_zero, List.set_cons_succ]
      refine wpAnyH_take (i := 3) (v := ?_) rfl (by kernel_rfl) (by kernel_rfl) (by kernel_rfl) (fun _ _ _ h => h) (Or.inl ⟨by rfl, ?_⟩) (by assumption) ?_
      rotate_left
      · intro w hSw; (try dsimp only at hSw); go_simp <;> with_reducible rfl
      try simp only [Act.put, List.setIfInBounds_toArray, List.set_cons_zero, List.set_cons_succ]
      refine wpAnyH_take (i := 5) (v := ?_) rfl (by kernel_rfl) (by kernel_rfl) (by kernel_rfl) (fun _ _ _ h => h) (Or.inl ⟨by rfl, ?_⟩) (by assumption) ?_
      rotate_left
      · intro w hSw; (try dsimp only at hSw); go_simp <;> with_reducible rfl
      try simp only [Act.put, List.setIfInBounds_toArray, List.set_cons_zero, List.set_cons_succ]
      refine wpAnyH_ready (rs := [1, 6]) (by kernel_rfl) (by simp) ?_
      refine AllReadyH.cons rfl (fun K hK => ?_) ?_
      · go_simp
        refine hK.out _ _ ?_ (fun hHeld => ?_)
        · exact True.intro
        clear hK K
        try simp only [Act.put, List.setIfInBounds_toArray, List.set_cons_zero, List.set_cons_succ]
        refine wpAnyH_take (i := 4) (v := ?_) rfl (by kernel_rfl) (by kernel_rfl) (by kernel_rfl) (fun _ _ _ h => h) (Or.inl ⟨by rfl, ?_⟩) (by assumption) ?_
        rotate_left
        · intro w hSw; (try dsimp only at hSw); go_simp <;> with_reducible rfl
        try simp only [Act.put, List.setIfInBounds_toArray, List.set_cons_zero, List.set_cons_succ]
        refine wpAnyH_ready (rs := [6]) (by kernel_rfl) (by simp) ?_
        refine AllReadyH.cons rfl (fun K hK => ?_) ?_
        · go_simp
          refine (l1Fill_calls sb (N + 1 + 2 * k) _ HDQ.out.src (by omega) 3 _ rfl (by decide)).mono ?_
          rintro e w4 ⟨ys, g3, rfl, HL3, HG3, HB3, HS4, HO4⟩
          have HD4 := Lib.hid (HDQ.out.more HO4.out (HS4.out.mono (show N + 1 + 2 * k + 2 ≤ N + 1 + 2 * (k + 1) by omega)))
          have m := fun o => cell_of_row _ _ o _ _ _ HD4.out.box
          have f := fun o => frozen_of_row _ _ o _ _ HD4.out.box
          go_wp2_with fail
          refine hK.out _ _ ?_ (fun hHeld => ?_)
          · exact True.intro
          clear hK K
          try simp only [Act.put, List.setIfInBounds_toArray, List.set_cons_zero, List.set_cons_succ]
          refine wpAnyH_ready (rs := [7]) (by kernel_rfl) (by simp) ?_
          refine AllReadyH.cons rfl (fun K hK => ?_) ?_
          · obtain ⟨xs, hxl, hxb⟩ := HD4.out.bytes
            refine step_copy_to rfl (.tmp 20) (.tmp 22) 22 22 rfl 5 Try.underlying22 (by rw [hi]; simp [hz1]) gd o (L - o) (L - o) ⟨g3, 0, none⟩ 3 3 rfl rfl (ys.map (.int .u8)) (by have h1 := HOL.out; have h2 := HL3.out; rw [List.length_map, h2]; exact (Nat.min_eq_left (by omega)).symm) HB3.out.src (fun j hj => hxb.some (by have h1 := HOL.out; have h2 := HL3.out; rw [List.length_map, h2] at hj; omega)) (fun j hj => hxb.frozen _) (ints_one ys) ?_
            have HD7 := Lib.hid (HD4.out.copy (o := o) ys HB3.out.2)
            refine hK.out _ _ ?_ (fun hHeld => ?_)
            · exact True.intro
            clear hK K
            try simp only [Act.put, List.setIfInBounds_toArray, List.set_cons_zero, List.set_cons_succ]
            refine wpAnyH_done (by kernel_rfl) ?_ _
            refine NoPanic.normal ?_
            go_wp2
            go_roundg (n - (k + 1))
            case measure => have := HK.out; omega
            case rel => exact ⟨k + 1, by have := HK.out; omega, by go_num, HD7⟩
          exact AllReadyH.nil
        exact AllReadyH.nil
      refine AllReadyH.cons rfl (fun K hK => ?_) ?_
      · go_simp
        refine (l1Fill_calls sb (N + 1 + 2 * k) _ HDQ.out.src (by omega) 3 _ rfl (by decide)).mono ?_
        rintro e w4 ⟨ys, g3, rfl, HL3, HG3, HB3, HS4, HO4⟩
        have HD4 := Lib.hid (HDQ.out.more HO4.out (HS4.out.mono (show N + 1 + 2 * k + 2 ≤ N + 1 + 2 * (k + 1) by omega)))
        have m := fun o => cell_of_row _ _ o _ _ _ HD4.out.box
        have f := fun o => frozen_of_row _ _ o _ _ HD4.out.box
        go_wp2_with fail
        refine hK.out _ _ ?_ (fun hHeld => ?_)
        · exact True.intro
        clear hK K
        try simp only [Act.put, List.setIfInBounds_toArray, List.set_cons_zero, List.set_cons_succ]
        refine wpAnyH_ready (rs := [1]) (by kernel_rfl) (by simp) ?_
        refine AllReadyH.cons rfl (fun K hK => ?_) ?_
        · go_simp
          refine hK.out _ _ ?_ (fun hHeld => ?_)
          · exact True.intro
          clear hK K
          try simp only [Act.put, List.setIfInBounds_toArray, List.set_cons_zero, List.set_cons_succ]
          refine wpAnyH_take (i := 4) (v := ?_) rfl (by kernel_rfl) (by kernel_rfl) (by kernel_rfl) (fun _ _ _ h => h) (Or.inl ⟨by rfl, ?_⟩) (by assumption) ?_
          rotate_left
          · intro w hSw; (try dsimp only at hSw); go_simp <;> with_reducible rfl
          try simp only [Act.put, List.setIfInBounds_toArray, List.set_cons_zero, List.set_cons_succ]
          refine wpAnyH_ready (rs := [7]) (by kernel_rfl) (by simp) ?_
          refine AllReadyH.cons rfl (fun K hK => ?_) ?_
          · obtain ⟨xs, hxl, hxb⟩ := HD4.out.bytes
            refine step_copy_to rfl (.tmp 20) (.tmp 22) 22 22 rfl 5 Try.underlying22 (by rw [hi]; simp [hz1]) gd o (L - o) (L - o) ⟨g3, 0, none⟩ 3 3 rfl rfl (ys.map (.int .u8)) (by have h1 := HOL.out; have h2 := HL3.out; rw [List.length_map, h2]; exact (Nat.min_eq_left (by omega)).symm) HB3.out.src (fun j hj => hxb.some (by have h1 := HOL.out; have h2 := HL3.out; rw [List.length_map, h2] at hj; omega)) (fun j hj => hxb.frozen _) (ints_one ys) ?_
            have HD7 := Lib.hid (HD4.out.copy (o := o) ys HB3.out.2)
            refine hK.out _ _ ?_ (fun hHeld => ?_)
            · exact True.intro
            clear hK K
            try simp only [Act.put, List.setIfInBounds_toArray, List.set_cons_zero, List.set_cons_succ]
            refine wpAnyH_done (by kernel_rfl) ?_ _
            refine NoPanic.normal ?_
            go_wp2
            go_roundg (n - (k + 1))
            case measure => have := HK.out; omega
            case rel => exact ⟨k + 1, by have := HK.out; omega, by go_num, HD7⟩
          exact AllReadyH.nil
        exact AllReadyH.nil
      exact AllReadyH.nil
    · obtain rfl : k = n := by omega
      clear hk hlt2 m f hi hz0 hz1 hz2
      go_wp2_with (go_at_call 74; refine (l1Next_calls sb _ _ HDA.out.src (by omega) 7 (by decide)).mono ?_; rintro e wB ⟨j0, rfl, hj0, HSB, HOB⟩; refine Hid.out ?_)
      refine Lib.hid ?_
      have HDB := Lib.hid (HDA.out.more HOB.out (HSB.out.mono (show N + 1 + 2 * k + 1 ≤ N + 12 by omega)))
      have hj6 : j0 ≤ 6 := by omega
      clear hj0 HSB HOB HDA HD
      have hbx := (Array.getElem?_eq_some_iff.1 HDB.out.box).1
      obtain ⟨nb, hnb⟩ : ∃ nb, nb = wB.heap.size := ⟨_, rfl⟩
      have HNB := Lib.hid hnb
      rw [← hnb] at hbx
      clear hnb
      obtain ⟨i0, hi, hz0, hz1, hz2⟩ := info_parts infoSW
      go_wp2_with fail
      go_loopg [5] j0 (fun m i wr => ∃ (M : Nat) (P : List DSectorWrite) (Ap : Option Addr) (cp : Nat), i = .int .i64 m ∧ Hid (M + 3 * m ≤ N + 12 + 18) ∧ Hid (P.length + m ≤ 6) ∧ Hid (∀ x ∈ P, x.Data.length ≤ 512) ∧ Hid (Own Rep.SectorWrite 64 nb wr (.slice Ap P.length cp) P) ∧ Hid (DrD w wr sb M bx gd L (.slice Ap P.length cp)))
      case atStart => exact ⟨N + 12, [], none, 0, rfl, Lib.hid (by omega), Lib.hid (by simp; omega), Lib.hid (by simp), Lib.hid (Own.nil (by rw [HNB.out]; exact Nat.le_refl _)), HDB⟩
      case round =>
        obtain ⟨M, P, Ap, cp, rfl, HM, HPL, HPD, HOP, HD⟩ := hrel
        by_cases hg0 : 0 < gk
        · obtain ⟨mq, rfl⟩ : ∃ m, gk = m + 1 := ⟨gk - 1, by omega⟩
          have hmq : mq ≤ 6 := by have := HPL.out; omega
          clear hg0
          have HDQ := Lib.hid (HD.out.ext ((Only.refl [] wr).drew))
          have m := fun o => cell_of_row _ _ o _ _ _ HDQ.out.box
          have f := fun o => frozen_of_row _ _ o _ _ HDQ.out.box
          go_wp2_with fail
          refine wp_region_noPanic ?_
          refine wp_region_held_drew (S := (fun w' => True)) (by kernel_rfl) ?_ (fun hHeld => ?_)
          · exact True.intro
          refine wpAnyH_take (i := 0) (v := ?_) rfl (by kernel_rfl) (by kernel_rfl) (by kernel_rfl) (fun _ _ _ h => h) (Or.inl ⟨by rfl, ?_⟩) (by assumption) ?_
          rotate_left
          · intro w hSw; (try dsimp only at hSw); go_simp <;> with_reducible rfl
          try simp only [Act.put, List.setIfInBounds_toArray, List.set_cons_zero, List.set_cons_succ]
          refine wpAnyH_take (i := 2) (v := ?_) rfl (by kernel_rfl) (by kernel_rfl) (by kernel_rfl) (fun _ _ _ h => h) (Or.inl ⟨by rfl, ?_⟩) (by assumption) ?_
          rotate_left
          · intro w hSw; (try dsimp only at hSw); go_simp <;> with_reducible rfl
          try simp only [Act.put, List.setIfInBounds_toArray, List.set_cons_zero, List.set_cons_succ]
          refine wpAnyH_take (i := 6) (v := ?_) rfl (by kernel_rfl) (by kernel_rfl) (by kernel_rfl) (fun _ _ _ h => h) (Or.inl ⟨by rfl, ?_⟩) (by assumption) ?_
          rotate_left
          · intro w hSw; (try dsimp only at hSw); go_simp <;> with_reducible rfl
          try simp only [Act.put, List.setIfInBounds_toArray, List.set_cons_zero, List.set_cons_succ]
          refine wpAnyH_ready (rs := [1, 3]) (by kernel_rfl) (by simp) ?_
          refine AllReadyH.cons rfl (fun K hK => ?_) ?_
          · go_simp
            refine hK.out _ _ ?_ (fun hHeld => ?_)
            · exact True.intro
            clear hK K
            try simp only [Act.put, List.setIfInBounds_toArray, List.set_cons_zero, List.set_cons_succ]
            refine wpAnyH_ready (rs := [3]) (by kernel_rfl) (by simp) ?_
            refine AllReadyH.cons rfl (fun K hK => ?_) ?_
            · go_simp
              refine hK.out _ _ ?_ (fun hHeld => ?_)
              · exact True.intro
              clear hK K
              try simp only [Act.put, List.setIfInBounds_toArray, List.set_cons_zero, List.set_cons_succ]
              refine wpAnyH_ready (rs := [4]) (by kernel_rfl) (by simp) ?_
              refine AllReadyH.cons rfl (fun K hK => ?_) ?_
              · go_simp
                refine (l1Sectors_calls (some ⟨gd, 0, none⟩) Ap L P.length L cp _ (by have := HLN.out; omega)).mono ?_
                rintro e wa ⟨rfl, hwa⟩
                rw [HQ.out]
                have HDa := Lib.hid (show DrD w wa sb M bx gd L (.slice Ap P.length cp) from hwa ▸ HDQ.out.ext (alloc_ext _ _))
                have HOa := Lib.hid (show Only [sb] wr wa from hwa ▸ ((Only.refl [sb] wr).drew.alloc _))
                clear hwa
                have m := fun o => cell_of_row _ _ o _ _ _ HDa.out.box
                have f := fun o => frozen_of_row _ _ o _ _ HDa.out.box
                go_wp2_with fail
                refine hK.out _ _ ?_ (fun hHeld => ?_)
                · exact True.intro
                clear hK K
                try simp only [Act.put, List.setIfInBounds_toArray, List.set_cons_zero, List.set_cons_succ]
                refine wpAnyH_ready (rs := [5]) (by kernel_rfl) (by simp) ?_
                refine AllReadyH.cons rfl (fun K hK => ?_) ?_
                · go_simp
                  refine (l1Next_calls sb M wa HDa.out.src (by have := HM.out; omega) k (by omega)).mono ?_
                  rintro e w5 ⟨r5, rfl, hr5, HS5, HO5⟩
                  have HD5 := Lib.hid (HDa.out.more HO5.out HS5.out)
                  have HOb := Lib.hid (HOa.out.trans HO5.out)
                  have m := fun o => cell_of_row _ _ o _ _ _ HD5.out.box
                  have f := fun o => frozen_of_row _ _ o _ _ HD5.out.box
                  go_wp2_with fail
                  refine hK.out _ _ ?_ (fun hHeld => ?_)
                  · exact True.intro
                  clear hK K
                  try simp only [Act.put, List.setIfInBounds_toArray, List.set_cons_zero, List.set_cons_succ]
                  refine wpAnyH_ready (rs := [7]) (by kernel_rfl) (by simp) ?_
                  refine AllReadyH.cons rfl (fun K hK => ?_) ?_
                  · go_simp
                    refine (l1Fill_calls sb (M + 1) w5 HD5.out.src (by have := HM.out; omega) 512 _ rfl (by decide)).mono ?_
                    rintro e w7 ⟨ys, g7, rfl, HL7, HG7, HB7, HS7, HO7⟩
                    have HD7 := Lib.hid (HD5.out.more HO7.out HS7.out)
                    have HOc := Lib.hid (HOb.out.trans HO7.out)
                    have hE8 := alloc_ext w7 (.cells #[.int .i64 (r5 : Int), .slice (some ⟨g7, 0, none⟩) 512 512] 64)
                    have HD8 := Lib.hid (HD7.out.ext hE8)
                    have HB8 := Lib.hid (HB7.out.only hE8 (by simp))
                    have hr6 : (r5 : Int) ≤ 1048576 := by omega
                    obtain ⟨cs, ho, hle, happ⟩ := Own.app HOP.out (HOc.out.alloc (.cells #[.int .i64 (r5 : Int), .slice (some ⟨g7, 0, none⟩) 512 512] 64)) (fun g hg => .inl (by have := HD.out.ge; simp at hg; omega)) (HB8.out.newIn (by have h1 := HG7.out; have h2 := HOb.out.size; omega)) (sw_new (r5 : Int) (small64 (by omega) hr6) HB8.out HL7.out (by decide))
                    have HAPP := Lib.hid happ
                    have HOWN := Lib.hid ho
                    clear hE8 happ ho
                    have m := fun o => cell_of_row _ _ o _ _ _ HD7.out.box
                    have f := fun o => frozen_of_row _ _ o _ _ HD7.out.box
                    have mk := fun o => cell_of_row _ _ o _ _ _ HD8.out.box
                    have fk := fun o => frozen_of_row _ _ o _ _ HD8.out.box
                    go_wp2_with fail
                    refine hK.out _ _ ?_ (fun hHeld => ?_)
                    · exact True.intro
                    clear hK K
                    try simp only [Act.put, List.setIfInBounds_toArray, List.set_cons_zero, List.set_cons_succ]
                    refine wpAnyH_take (i := 8) (v := ?_) rfl (by kernel_rfl) (by kernel_rfl) (by kernel_rfl) (fun _ _ _ h => h) (Or.inl ⟨by rfl, ?_⟩) (by assumption) ?_
                    rotate_left
                    · intro w hSw; (try dsimp only at hSw); go_simp <;> with_reducible rfl
                    try simp only [Act.put, List.setIfInBounds_toArray, List.set_cons_zero, List.set_cons_succ]
                    refine wpAnyH_ready (rs := [9]) (by kernel_rfl) (by simp) ?_
                    refine AllReadyH.cons rfl (fun K hK => ?_) ?_
                    · go_simp
                      refine hK.out _ _ ?_ (fun hHeld => ?_)
                      · exact True.intro
                      clear hK K
                      try simp only [Act.put, List.setIfInBounds_toArray, List.set_cons_zero, List.set_cons_succ]
                      refine wpAnyH_ready (rs := [10]) (by kernel_rfl) (by simp) ?_
                      refine AllReadyH.cons rfl (fun K hK => ?_) ?_
                      · refine step_append_own rfl _ _ 27 rfl nb 64 i0 (.agg #[.int .i64 0, .slice none 0 0]) 2 32 Try.underlying27 hi hz0 hz1 hz2 rfl (by decide) (.slice Ap P.length cp) P.length cs rfl HOWN.out ⟨w7.heap.size, 0, none⟩ 1 1 [.int .i64 (r5 : Int), .slice (some ⟨g7, 0, none⟩) 512 512] rfl rfl (cells_new' _ _ _ rfl) (by intro u hu; simp at hu; rcases hu with rfl | rfl <;> rfl) (by have := HPL.out; unfold maxLen; omega) (by have := HPL.out; omega) hle ?_
                        intro v' w' hown hgrow hnil hat
                        obtain ⟨Av, cv, rfl⟩ := ownsRow_form hown
                        have HDG := Lib.hid (HD8.out.below ((Below.refl nb _).grown hgrow hle (fun g hg => (HOWN.out.lt _ hg).1)) hbx)
                        have HR := Lib.hid (HAPP.out _ w' hown hgrow hat)
                        have m := fun o => cell_of_row _ _ o _ _ _ HDG.out.box
                        have f := fun o => frozen_of_row _ _ o _ _ HDG.out.box
                        clear hown hgrow hnil hat
                        refine hK.out _ _ ?_ (fun hHeld => ?_)
                        · exact True.intro
                        clear hK K
                        try simp only [Act.put, List.setIfInBounds_toArray, List.set_cons_zero, List.set_cons_succ]
                        refine wpAnyH_take (i := 11) (v := ?_) rfl (by kernel_rfl) (by kernel_rfl) (by kernel_rfl) (fun _ _ _ h => h) (Or.inl ⟨by rfl, ?_⟩) (by assumption) ?_
                        rotate_left
                        · intro w hSw; (try dsimp only at hSw); go_simp <;> with_reducible rfl
                        try simp only [Act.put, List.setIfInBounds_toArray, List.set_cons_zero, List.set_cons_succ]
                        refine wpAnyH_ready (rs := [12]) (by kernel_rfl) (by simp) ?_
                        refine AllReadyH.cons rfl (fun K hK => ?_) ?_
                        · go_simp
                          refine hK.out _ _ ?_ (fun hHeld => ?_)
                          · exact True.intro
                          clear hK K
                          try simp only [Act.put, List.setIfInBounds_toArray, List.set_cons_zero, List.set_cons_succ]
                          refine wpAnyH_done (by kernel_rfl) ?_ _
                          refine NoPanic.normal ?_
                          go_wp2
                          go_roundg mq
                          case measure => omega
                          case rel =>
                            have hl : (P ++ [(⟨(r5 : Int), ys⟩ : DSectorWrite)]).length = P.length + 1 := by simp
                            refine ⟨M + 1 + 2, P ++ [⟨(r5 : Int), ys⟩], Av, cv, by go_num, Lib.hid (by have := HM.out; omega), Lib.hid (by rw [hl]; have := HPL.out; omega), Lib.hid ?_, Lib.hid ?_, Lib.hid ?_⟩
                            · intro x hx
                              rcases List.mem_append.1 hx with hx | hx
                              · exact HPD.out x hx
                              · simp at hx; subst hx; have := HL7.out; dsimp only; omega
                            · rw [hl]; exact HR.out.1.keep ((Only.refl [bx] _).setCell (fun _ => by simp) _) (fun g hg => .inl (by simp at hg; omega))
                            · rw [hl]; exact HDG.out.setP _
                        exact AllReadyH.nil
                      exact AllReadyH.nil
                    exact AllReadyH.nil
                  exact AllReadyH.nil
                exact AllReadyH.nil
              exact AllReadyH.nil
            exact AllReadyH.nil
          refine AllReadyH.cons rfl (fun K hK => ?_) ?_
          · go_simp
            refine hK.out _ _ ?_ (fun hHeld => ?_)
            · exact True.intro
            clear hK K
            try simp only [Act.put, List.setIfInBounds_toArray, List.set_cons_zero, List.set_cons_succ]
            refine wpAnyH_ready (rs := [1, 4]) (by kernel_rfl) (by simp) ?_
            refine AllReadyH.cons rfl (fun K hK => ?_) ?_
            · go_simp
              refine hK.out _ _ ?_ (fun hHeld => ?_)
              · exact True.intro
              clear hK K
              try simp only [Act.put, List.setIfInBounds_toArray, List.set_cons_zero, List.set_cons_succ]
              refine wpAnyH_ready (rs := [4]) (by kernel_rfl) (by simp) ?_
              refine AllReadyH.cons rfl (fun K hK => ?_) ?_
              · go_simp
                refine (l1Sectors_calls (some ⟨gd, 0, none⟩) Ap L P.length L cp _ (by have := HLN.out; omega)).mono ?_
                rintro e wa ⟨rfl, hwa⟩
                rw [HQ.out]
                have HDa := Lib.hid (show DrD w wa sb M bx gd L (.slice Ap P.length cp) from hwa ▸ HDQ.out.ext (alloc_ext _ _))
                have HOa := Lib.hid (show Only [sb] wr wa from hwa ▸ ((Only.refl [sb] wr).drew.alloc _))
                clear hwa
                have m := fun o => cell_of_row _ _ o _ _ _ HDa.out.box
                have f := fun o => frozen_of_row _ _ o _ _ HDa.out.box
                go_wp2_with fail
                refine hK.out _ _ ?_ (fun hHeld => ?_)
                · exact True.intro
                clear hK K
                try simp only [Act.put, List.setIfInBounds_toArray, List.set_cons_zero, List.set_cons_succ]
                refine wpAnyH_ready (rs := [5]) (by kernel_rfl) (by simp) ?_
                refine AllReadyH.cons rfl (fun K hK => ?_) ?_
                · go_simp
                  refine (l1Next_calls sb M wa HDa.out.src (by have := HM.out; omega) k (by omega)).mono ?_
                  rintro e w5 ⟨r5, rfl, hr5, HS5, HO5⟩
                  have HD5 := Lib.hid (HDa.out.more HO5.out HS5.out)
                  have HOb := Lib.hid (HOa.out.trans HO5.out)
                  have m := fun o => cell_of_row _ _ o _ _ _ HD5.out.box
                  have f := fun o => frozen_of_row _ _ o _ _ HD5.out.box
                  go_wp2_with fail
                  refine hK.out _ _ ?_ (fun hHeld => ?_)
                  · exact True.intro
                  clear hK K
                  try simp only [Act.put, List.setIfInBounds_toArray, List.set_cons_zero, List.set_cons_succ]
                  refine wpAnyH_ready (rs := [7]) (by kernel_rfl) (by simp) ?_
                  refine AllReadyH.cons rfl (fun K hK => ?_) ?_
                  · go_simp
                    refine (l1Fill_calls sb (M + 1) w5 HD5.out.src (by have := HM.out; omega) 512 _ rfl (by decide)).mono ?_
                    rintro e w7 ⟨ys, g7, rfl, HL7, HG7, HB7, HS7, HO7⟩
                    have HD7 := Lib.hid (HD5.out.more HO7.out HS7.out)
                    have HOc := Lib.hid (HOb.out.trans HO7.out)
                    have hE8 := alloc_ext w7 (.cells #[.int .i64 (r5 : Int), .slice (some ⟨g7, 0, none⟩) 512 512] 64)
                    have HD8 := Lib.hid (HD7.out.ext hE8)
                    have HB8 := Lib.hid (HB7.out.only hE8 (by simp))
                    have hr6 : (r5 : Int) ≤ 1048576 := by omega
                    obtain ⟨cs, ho, hle, happ⟩ := Own.app HOP.out (HOc.out.alloc (.cells #[.int .i64 (r5 : Int), .slice (some ⟨g7, 0, none⟩) 512 512] 64)) (fun g hg => .inl (by have := HD.out.ge; simp at hg; omega)) (HB8.out.newIn (by have h1 := HG7.out; have h2 := HOb.out.size; omega)) (sw_new (r5 : Int) (small64 (by omega) hr6) HB8.out HL7.out (by decide))
                    have HAPP := Lib.hid happ
                    have HOWN := Lib.hid ho
                    clear hE8 happ ho
                    have m := fun o => cell_of_row _ _ o _ _ _ HD7.out.box
                    have f := fun o => frozen_of_row _ _ o _ _ HD7.out.box
                    have mk := fun o => cell_of_row _ _ o _ _ _ HD8.out.box
                    have fk := fun o => frozen_of_row _ _ o _ _ HD8.out.box
                    go_wp2_with fail
                    refine hK.out _ _ ?_ (fun hHeld => ?_)
                    · exact True.intro
                    clear hK K
                    try simp only [Act.put, List.setIfInBounds_toArray, List.set_cons_zero, List.set_cons_succ]
                    refine wpAnyH_take (i := 8) (v := ?_) rfl (by kernel_rfl) (by kernel_rfl) (by kernel_rfl) (fun _ _ _ h => h) (Or.inl ⟨by rfl, ?_⟩) (by assumption) ?_
                    rotate_left
                    · intro w hSw; (try dsimp only at hSw); go_simp <;> with_reducible rfl
                    try simp only [Act.put, List.setIfInBounds_toArray, List.set_cons_zero, List.set_cons_succ]
                    refine wpAnyH_ready (rs := [9]) (by kernel_rfl) (by simp) ?_
                    refine AllReadyH.cons rfl (fun K hK => ?_) ?_
                    · go_simp
                      refine hK.out _ _ ?_ (fun hHeld => ?_)
                      · exact True.intro
                      clear hK K
                      try simp only [Act.put, List.setIfInBounds_toArray, List.set_cons_zero, List.set_cons_succ]
                      refine wpAnyH_ready (rs := [10]) (by kernel_rfl) (by simp) ?_
                      refine AllReadyH.cons rfl (fun K hK => ?_) ?_
                      · refine step_append_own rfl _ _ 27 rfl nb 64 i0 (.agg #[.int .i64 0, .slice none 0 0]) 2 32 Try.underlying27 hi hz0 hz1 hz2 rfl (by decide) (.slice Ap P.length cp) P.length cs rfl HOWN.out ⟨w7.heap.size, 0, none⟩ 1 1 [.int .i64 (r5 : Int), .slice (some ⟨g7, 0, none⟩) 512 512] rfl rfl (cells_new' _ _ _ rfl) (by intro u hu; simp at hu; rcases hu with rfl | rfl <;> rfl) (by have := HPL.out; unfold maxLen; omega) (by have := HPL.out; omega) hle ?_
                        intro v' w' hown hgrow hnil hat
                        obtain ⟨Av, cv, rfl⟩ := ownsRow_form hown
                        have HDG := Lib.hid (HD8.out.below ((Below.refl nb _).grown hgrow hle (fun g hg => (HOWN.out.lt _ hg).1)) hbx)
                        have HR := Lib.hid (HAPP.out _ w' hown hgrow hat)
                        have m := fun o => cell_of_row _ _ o _ _ _ HDG.out.box
                        have f := fun o => frozen_of_row _ _ o _ _ HDG.out.box
                        clear hown hgrow hnil hat
                        refine hK.out _ _ ?_ (fun hHeld => ?_)
                        · exact True.intro
                        clear hK K
                        try simp only [Act.put, List.setIfInBounds_toArray, List.set_cons_zero, List.set_cons_succ]
                        refine wpAnyH_take (i := 11) (v := ?_) rfl (by kernel_rfl) (by kernel_rfl) (by kernel_rfl) (fun _ _ _ h => h) (Or.inl ⟨by rfl, ?_⟩) (by assumption) ?_
                        rotate_left
                        · intro w hSw; (try dsimp only at hSw); go_simp <;> with_reducible rfl
                        try simp only [Act.put, List.setIfInBounds_toArray, List.set_cons_zero, List.set_cons_succ]
                        refine wpAnyH_ready (rs := [12]) (by kernel_rfl) (by simp) ?_
                        refine AllReadyH.cons rfl (fun K hK => ?_) ?_
                        · go_simp
                          refine hK.out _ _ ?_ (fun hHeld => ?_)
                          · exact True.intro
                          clear hK K
                          try simp only [Act.put, List.setIfInBounds_toArray, List.set_cons_zero, List.set_cons_succ]
                          refine wpAnyH_done (by kernel_rfl) ?_ _
                          refine NoPanic.normal ?_
                          go_wp2
                          go_roundg mq
                          case measure => omega
                          case rel =>
                            have hl : (P ++ [(⟨(r5 : Int), ys⟩ : DSectorWrite)]).length = P.length + 1 := by simp
                            refine ⟨M + 1 + 2, P ++ [⟨(r5 : Int), ys⟩], Av, cv, by go_num, Lib.hid (by have := HM.out; omega), Lib.hid (by rw [hl]; have := HPL.out; omega), Lib.hid ?_, Lib.hid ?_, Lib.hid ?_⟩
                            · intro x hx
                              rcases List.mem_append.1 hx with hx | hx
                              · exact HPD.out x hx
                              · simp at hx; subst hx; have := HL7.out; dsimp only; omega
                            · rw [hl]; exact HR.out.1.keep ((Only.refl [bx] _).setCell (fun _ => by simp) _) (fun g hg => .inl (by simp at hg; omega))
                            · rw [hl]; exact HDG.out.setP _
                        exact AllReadyH.nil
                      exact AllReadyH.nil
                    exact AllReadyH.nil
                  exact AllReadyH.nil
                exact AllReadyH.nil
              exact AllReadyH.nil
            refine AllReadyH.cons rfl (fun K hK => ?_) ?_
            · go_simp
              refine (l1Sectors_calls (some ⟨gd, 0, none⟩) Ap L P.length L cp _ (by have := HLN.out; omega)).mono ?_
              rintro e wa ⟨rfl, hwa⟩
              rw [HQ.out]
              have HDa := Lib.hid (show DrD w wa sb M bx gd L (.slice Ap P.length cp) from hwa ▸ HDQ.out.ext (alloc_ext _ _))
              have HOa := Lib.hid (show Only [sb] wr wa from hwa ▸ ((Only.refl [sb] wr).drew.alloc _))
              clear hwa
              have m := fun o => cell_of_row _ _ o _ _ _ HDa.out.box
              have f := fun o => frozen_of_row _ _ o _ _ HDa.out.box
              go_wp2_with fail
              refine hK.out _ _ ?_ (fun hHeld => ?_)
              · exact True.intro
              clear hK K
              try simp only [Act.put, List.setIfInBounds_toArray, List.set_cons_zero, List.set_cons_succ]
              refine wpAnyH_ready (rs := [1, 5]) (by kernel_rfl) (by simp) ?_
              refine AllReadyH.cons rfl (fun K hK => ?_) ?_
              · go_simp
                refine hK.out _ _ ?_ (fun hHeld => ?_)
                · exact True.intro
                clear hK K
                try simp only [Act.put, List.setIfInBounds_toArray, List.set_cons_zero, List.set_cons_succ]
                refine wpAnyH_ready (rs := [5]) (by kernel_rfl) (by simp) ?_
                refine AllReadyH.cons rfl (fun K hK => ?_) ?_
                · go_simp
                  refine (l1Next_calls sb M wa HDa.out.src (by have := HM.out; omega) k (by omega)).mono ?_
                  rintro e w5 ⟨r5, rfl, hr5, HS5, HO5⟩
                  have HD5 := Lib.hid (HDa.out.more HO5.out HS5.out)
                  have HOb := Lib.hid (HOa.out.trans HO5.out)
                  have m := fun o => cell_of_row _ _ o _ _ _ HD5.out.box
                  have f := fun o => frozen_of_row _ _ o _ _ HD5.out.box
                  go_wp2_with fail
                  refine hK.out _ _ ?_ (fun hHeld => ?_)
                  · exact True.intro
                  clear hK K
                  try simp only [Act.put, List.setIfInBounds_toArray, List.set_cons_zero, List.set_cons_succ]
                  refine wpAnyH_ready (rs := [7]) (by kernel_rfl) (by simp) ?_
                  refine AllReadyH.cons rfl (fun K hK => ?_) ?_
                  · go_simp
                    refine (l1Fill_calls sb (M + 1) w5 HD5.out.src (by have := HM.out; omega) 512 _ rfl (by decide)).mono ?_
                    rintro e w7 ⟨ys, g7, rfl, HL7, HG7, HB7, HS7, HO7⟩
                    have HD7 := Lib.hid (HD5.out.more HO7.out HS7.out)
                    have HOc := Lib.hid (HOb.out.trans HO7.out)
                    have hE8 := alloc_ext w7 (.cells #[.int .i64 (r5 : Int), .slice (some ⟨g7, 0, none⟩) 512 512] 64)
                    have HD8 := Lib.hid (HD7.out.ext hE8)
                    have HB8 := Lib.hid (HB7.out.only hE8 (by simp))
                    have hr6 : (r5 : Int) ≤ 1048576 := by omega
                    obtain ⟨cs, ho, hle, happ⟩ := Own.app HOP.out (HOc.out.alloc (.cells #[.int .i64 (r5 : Int), .slice (some ⟨g7, 0, none⟩) 512 512] 64)) (fun g hg => .inl (by have := HD.out.ge; simp at hg; omega)) (HB8.out.newIn (by have h1 := HG7.out; have h2 := HOb.out.size; omega)) (sw_new (r5 : Int) (small64 (by omega) hr6) HB8.out HL7.out (by decide))
                    have HAPP := Lib.hid happ
                    have HOWN := Lib.hid ho
                    clear hE8 happ ho
                    have m := fun o => cell_of_row _ _ o _ _ _ HD7.out.box
                    have f := fun o => frozen_of_row _ _ o _ _ HD7.out.box
                    have mk := fun o => cell_of_row _ _ o _ _ _ HD8.out.box
                    have fk := fun o => frozen_of_row _ _ o _ _ HD8.out.box
                    go_wp2_with fail
                    refine hK.out _ _ ?_ (fun hHeld => ?_)
                    · exact True.intro
                    clear hK K
                    try simp only [Act.put, List.setIfInBounds_toArray, List.set_cons_zero, List.set_cons_succ]
                    refine wpAnyH_take (i := 8) (v := ?_) rfl (by kernel_rfl) (by kernel_rfl) (by kernel_rfl) (fun _ _ _ h => h) (Or.inl ⟨by rfl, ?_⟩) (by assumption) ?_
                    rotate_left
                    · intro w hSw; (try dsimp only at hSw); go_simp <;> with_reducible rfl
                    try simp only [Act.put, List.setIfInBounds_toArray, List.set_cons_zero, List.set_cons_succ]
                    refine wpAnyH_ready (rs := [9]) (by kernel_rfl) (by simp) ?_
                    refine AllReadyH.cons rfl (fun K hK => ?_) ?_
                    · go_simp
                      refine hK.out _ _ ?_ (fun hHeld => ?_)
                      · exact True.intro
                      clear hK K
                      try simp only [Act.put, List.setIfInBounds_toArray, List.set_cons_zero, List.set_cons_succ]
                      refine wpAnyH_ready (rs := [10]) (by kernel_rfl) (by simp) ?_
                      refine AllReadyH.cons rfl (fun K hK => ?_) ?_
                      · refine step_append_own rfl _ _ 27 rfl nb 64 i0 (.agg #[.int .i64 0, .slice none 0 0]) 2 32 Try.underlying27 hi hz0 hz1 hz2 rfl (by decide) (.slice Ap P.length cp) P.length cs rfl HOWN.out ⟨w7.heap.size, 0, none⟩ 1 1 [.int .i64 (r5 : Int), .slice (some ⟨g7, 0, none⟩) 512 512] rfl rfl (cells_new' _ _ _ rfl) (by intro u hu; simp at hu; rcases hu with rfl | rfl <;> rfl) (by have := HPL.out; unfold maxLen; omega) (by have := HPL.out; omega) hle ?_
                        intro v' w' hown hgrow hnil hat
                        obtain ⟨Av, cv, rfl⟩ := ownsRow_form hown
                        have HDG := Lib.hid (HD8.out.below ((Below.refl nb _).grown hgrow hle (fun g hg => (HOWN.out.lt _ hg).1)) hbx)
                        have HR := Lib.hid (HAPP.out _ w' hown hgrow hat)
                        have m := fun o => cell_of_row _ _ o _ _ _ HDG.out.box
                        have f := fun o => frozen_of_row _ _ o _ _ HDG.out.box
                        clear hown hgrow hnil hat
                        refine hK.out _ _ ?_ (fun hHeld => ?_)
                        · exact True.intro
                        clear hK K
                        try simp only [Act.put, List.setIfInBounds_toArray, List.set_cons_zero, List.set_cons_succ]
                        refine wpAnyH_take (i := 11) (v := ?_) rfl (by kernel_rfl) (by kernel_rfl) (by kernel_rfl) (fun _ _ _ h => h) (Or.inl ⟨by rfl, ?_⟩) (by assumption) ?_
                        rotate_left
                        · intro w hSw; (try dsimp only at hSw); go_simp <;> with_reducible rfl
                        try simp only [Act.put, List.setIfInBounds_toArray, List.set_cons_zero, List.set_cons_succ]
                        refine wpAnyH_ready (rs := [12]) (by kernel_rfl) (by simp) ?_
                        refine AllReadyH.cons rfl (fun K hK => ?_) ?_
                        · go_simp
                          refine hK.out _ _ ?_ (fun hHeld => ?_)
                          · exact True.intro
                          clear hK K
                          try simp only [Act.put, List.setIfInBounds_toArray, List.set_cons_zero, List.set_cons_succ]
                          refine wpAnyH_done (by kernel_rfl) ?_ _
                          refine NoPanic.normal ?_
                          go_wp2
                          go_roundg mq
                          case measure => omega
                          case rel =>
                            have hl : (P ++ [(⟨(r5 : Int), ys⟩ : DSectorWrite)]).length = P.length + 1 := by simp
                            refine ⟨M + 1 + 2, P ++ [⟨(r5 : Int), ys⟩], Av, cv, by go_num, Lib.hid (by have := HM.out; omega), Lib.hid (by rw [hl]; have := HPL.out; omega), Lib.hid ?_, Lib.hid ?_, Lib.hid ?_⟩
                            · intro x hx
                              rcases List.mem_append.1 hx with hx | hx
                              · exact HPD.out x hx
                              · simp at hx; subst hx; have := HL7.out; dsimp only; omega
                            · rw [hl]; exact HR.out.1.keep ((Only.refl [bx] _).setCell (fun _ => by simp) _) (fun g hg => .inl (by simp at hg; omega))
                            · rw [hl]; exact HDG.out.setP _
                        exact AllReadyH.nil
                      exact AllReadyH.nil
                    exact AllReadyH.nil
                  exact AllReadyH.nil
                exact AllReadyH.nil
              refine AllReadyH.cons rfl (fun K hK => ?_) ?_
              · go_simp
                refine (l1Next_calls sb M wa HDa.out.src (by have := HM.out; omega) k (by omega)).mono ?_
                rintro e w5 ⟨r5, rfl, hr5, HS5, HO5⟩
                have HD5 := Lib.hid (HDa.out.more HO5.out HS5.out)
                have HOb := Lib.hid (HOa.out.trans HO5.out)
                have m := fun o => cell_of_row _ _ o _ _ _ HD5.out.box
                have f := fun o => frozen_of_row _ _ o _ _ HD5.out.box
                go_wp2_with fail
                refine hK.out _ _ ?_ (fun hHeld => ?_)
                · exact True.intro
                clear hK K
                try simp only [Act.put, List.setIfInBounds_toArray, List.set_cons_zero, List.set_cons_succ]
                refine wpAnyH_ready (rs := [1, 7]) (by kernel_rfl) (by simp) ?_
                refine AllReadyH.cons rfl (fun K hK => ?_) ?_
                · go_simp
                  refine hK.out _ _ ?_ (fun hHeld => ?_)
                  · exact True.intro
                  clear hK K
                  try simp only [Act.put, List.setIfInBounds_toArray, List.set_cons_zero, List.set_cons_succ]
                  refine wpAnyH_ready (rs := [7]) (by kernel_rfl) (by simp) ?_
                  refine AllReadyH.cons rfl (fun K hK => ?_) ?_
                  · go_simp
                    refine (l1Fill_calls sb (M + 1) w5 HD5.out.src (by have := HM.out; omega) 512 _ rfl (by decide)).mono ?_
                    rintro e w7 ⟨ys, g7, rfl, HL7, HG7, HB7, HS7, HO7⟩
                    have HD7 := Lib.hid (HD5.out.more HO7.out HS7.out)
                    have HOc := Lib.hid (HOb.out.trans HO7.out)
                    have hE8 := alloc_ext w7 (.cells #[.int .i64 (r5 : Int), .slice (some ⟨g7, 0, none⟩) 512 512] 64)
                    have HD8 := Lib.hid (HD7.out.ext hE8)
                    have HB8 := Lib.hid (HB7.out.only hE8 (by simp))
                    have hr6 : (r5 : Int) ≤ 1048576 := by omega
                    obtain ⟨cs, ho, hle, happ⟩ := Own.app HOP.out (HOc.out.alloc (.cells #[.int .i64 (r5 : Int), .slice (some ⟨g7, 0, none⟩) 512 512] 64)) (fun g hg => .inl (by have := HD.out.ge; simp at hg; omega)) (HB8.out.newIn (by have h1 := HG7.out; have h2 := HOb.out.size; omega)) (sw_new (r5 : Int) (small64 (by omega) hr6) HB8.out HL7.out (by decide))
                    have HAPP := Lib.hid happ
                    have HOWN := Lib.hid ho
                    clear hE8 happ ho
                    have m := fun o => cell_of_row _ _ o _ _ _ HD7.out.box
                    have f := fun o => frozen_of_row _ _ o _ _ HD7.out.box
                    have mk := fun o => cell_of_row _ _ o _ _ _ HD8.out.box
                    have fk := fun o => frozen_of_row _ _ o _ _ HD8.out.box
                    go_wp2_with fail
                    refine hK.out _ _ ?_ (fun hHeld => ?_)
                    · exact True.intro
                    clear hK K
                    try simp only [Act.put, List.setIfInBounds_toArray, List.set_cons_zero, List.set_cons_succ]
                    refine wpAnyH_take (i := 8) (v := ?_) rfl (by kernel_rfl) (by kernel_rfl) (by kernel_rfl) (fun _ _ _ h => h) (Or.inl ⟨by rfl, ?_⟩) (by assumption) ?_
                    rotate_left
                    · intro w hSw; (try dsimp only at hSw); go_simp <;> with_reducible rfl
                    try simp only [Act.put, List.setIfInBounds_toArray, List.set_cons_zero, List.set_cons_succ]
                    refine wpAnyH_ready (rs := [9]) (by kernel_rfl) (by simp) ?_
                    refine AllReadyH.cons rfl (fun K hK => ?_) ?_
                    · go_simp
                      refine hK.out _ _ ?_ (fun hHeld => ?_)
                      · exact True.intro
                      clear hK K
                      try simp only [Act.put, List.setIfInBounds_toArray, List.set_cons_zero, List.set_cons_succ]
                      refine wpAnyH_ready (rs := [10]) (by kernel_rfl) (by simp) ?_
                      refine AllReadyH.cons rfl (fun K hK => ?_) ?_
                      · refine step_append_own rfl _ _ 27 rfl nb 64 i0 (.agg #[.int .i64 0, .slice none 0 0]) 2 32 Try.underlying27 hi hz0 hz1 hz2 rfl (by decide) (.slice Ap P.length cp) P.length cs rfl HOWN.out ⟨w7.heap.size, 0, none⟩ 1 1 [.int .i64 (r5 : Int), .slice (some ⟨g7, 0, none⟩) 512 512] rfl rfl (cells_new' _ _ _ rfl) (by intro u hu; simp at hu; rcases hu with rfl | rfl <;> rfl) (by have := HPL.out; unfold maxLen; omega) (by have := HPL.out; omega) hle ?_
                        intro v' w' hown hgrow hnil hat
                        obtain ⟨Av, cv, rfl⟩ := ownsRow_form hown
                        have HDG := Lib.hid (HD8.out.below ((Below.refl nb _).grown hgrow hle (fun g hg => (HOWN.out.lt _ hg).1)) hbx)
                        have HR := Lib.hid (HAPP.out _ w' hown hgrow hat)
                        have m := fun o => cell_of_row _ _ o _ _ _ HDG.out.box
                        have f := fun o => frozen_of_row _ _ o _ _ HDG.out.box
                        clear hown hgrow hnil hat
                        refine hK.out _ _ ?_ (fun hHeld => ?_)
                        · exact True.intro
                        clear hK K
                        try simp only [Act.put, List.setIfInBounds_toArray, List.set_cons_zero, List.set_cons_succ]
                        refine wpAnyH_take (i := 11) (v := ?_) rfl (by kernel_rfl) (by kernel_rfl) (by kernel_rfl) (fun _ _ _ h => h) (Or.inl ⟨by rfl, ?_⟩) (by assumption) ?_
                        rotate_left
                        · intro w hSw; (try dsimp only at hSw); go_simp <;> with_reducible rfl
                        try simp only [Act.put, List.setIfInBounds_toArray, List.set_cons_zero, List.set_cons_succ]
                        refine wpAnyH_ready (rs := [12]) (by kernel_rfl) (by simp) ?_
                        refine AllReadyH.cons rfl (fun K hK => ?_) ?_
                        · go_simp
                          refine hK.out _ _ ?_ (fun hHeld => ?_)
                          · exact True.intro
                          clear hK K
                          try simp only [Act.put, List.setIfInBounds_toArray, List.set_cons_zero, List.set_cons_succ]
                          refine wpAnyH_done (by kernel_rfl) ?_ _
                          refine NoPanic.normal ?_
                          go_wp2
                          go_roundg mq
                          case measure => omega
                          case rel =>
                            have hl : (P ++ [(⟨(r5 : Int), ys⟩ : DSectorWrite)]).length = P.length + 1 := by simp
                            refine ⟨M + 1 + 2, P ++ [⟨(r5 : Int), ys⟩], Av, cv, by go_num, Lib.hid (by have := HM.out; omega), Lib.hid (by rw [hl]; have := HPL.out; omega), Lib.hid ?_, Lib.hid ?_, Lib.hid ?_⟩
                            · intro x hx
                              rcases List.mem_append.1 hx with hx | hx
                              · exact HPD.out x hx
                              · simp at hx; subst hx; have := HL7.out; dsimp only; omega
                            · rw [hl]; exact HR.out.1.keep ((Only.refl [bx] _).setCell (fun _ => by simp) _) (fun g hg => .inl (by simp at hg; omega))
                            · rw [hl]; exact HDG.out.setP _
                        exact AllReadyH.nil
                      exact AllReadyH.nil
                    exact AllReadyH.nil
                  exact AllReadyH.nil
                refine AllReadyH.cons rfl (fun K hK => ?_) ?_
                · go_simp
                  refine (l1Fill_calls sb (M + 1) w5 HD5.out.src (by have := HM.out; omega) 512 _ rfl (by decide)).mono ?_
                  rintro e w7 ⟨ys, g7, rfl, HL7, HG7, HB7, HS7, HO7⟩
                  have HD7 := Lib.hid (HD5.out.more HO7.out HS7.out)
                  have HOc := Lib.hid (HOb.out.trans HO7.out)
                  have hE8 := alloc_ext w7 (.cells #[.int .i64 (r5 : Int), .slice (some ⟨g7, 0, none⟩) 512 512] 64)
                  have HD8 := Lib.hid (HD7.out.ext hE8)
                  have HB8 := Lib.hid (HB7.out.only hE8 (by simp))
                  have hr6 : (r5 : Int) ≤ 1048576 := by omega
                  obtain ⟨cs, ho, hle, happ⟩ := Own.app HOP.out (HOc.out.alloc (.cells #[.int .i64 (r5 : Int), .slice (some ⟨g7, 0, none⟩) 512 512] 64)) (fun g hg => .inl (by have := HD.out.ge; simp at hg; omega)) (HB8.out.newIn (by have h1 := HG7.out; have h2 := HOb.out.size; omega)) (sw_new (r5 : Int) (small64 (by omega) hr6) HB8.out HL7.out (by decide))
                  have HAPP := Lib.hid happ
                  have HOWN := Lib.hid ho
                  clear hE8 happ ho
                  have m := fun o => cell_of_row _ _ o _ _ _ HD7.out.box
                  have f := fun o => frozen_of_row _ _ o _ _ HD7.out.box
                  have mk := fun o => cell_of_row _ _ o _ _ _ HD8.out.box
                  have fk := fun o => frozen_of_row _ _ o _ _ HD8.out.box
                  go_wp2_with fail
                  refine hK.out _ _ ?_ (fun hHeld => ?_)
                  · exact True.intro
                  clear hK K
                  try simp only [Act.put, List.setIfInBounds_toArray, List.set_cons_zero, List.set_cons_succ]
                  refine wpAnyH_take (i := 8) (v := ?_) rfl (by kernel_rfl) (by kernel_rfl) (by kernel_rfl) (fun _ _ _ h => h) (Or.inl ⟨by rfl, ?_⟩) (by assumption) ?_
                  rotate_left
                  · intro w hSw; (try dsimp only at hSw); go_simp <;> with_reducible rfl
                  try simp only [Act.put, List.setIfInBounds_toArray, List.set_cons_zero, List.set_cons_succ]
                  refine wpAnyH_ready (rs := [1, 9]) (by kernel_rfl) (by simp) ?_
                  refine AllReadyH.cons rfl (fun K hK => ?_) ?_
                  · go_simp
                    refine hK.out _ _ ?_ (fun hHeld => ?_)
                    · exact True.intro
                    clear hK K
                    try simp only [Act.put, List.setIfInBounds_toArray, List.set_cons_zero, List.set_cons_succ]
                    refine wpAnyH_ready (rs := [9]) (by kernel_rfl) (by simp) ?_
                    refine AllReadyH.cons rfl (fun K hK => ?_) ?_
                    · go_simp
                      refine hK.out _ _ ?_ (fun hHeld => ?_)
                      · exact True.intro
                      clear hK K
                      try simp only [Act.put, List.setIfInBounds_toArray, List.set_cons_zero, List.set_cons_succ]
                      refine wpAnyH_ready (rs := [10]) (by kernel_rfl) (by simp) ?_
                      refine AllReadyH.cons rfl (fun K hK => ?_) ?_
                      · refine step_append_own rfl _ _ 27 rfl nb 64 i0 (.agg #[.int .i64 0, .slice none 0 0]) 2 32 Try.underlying27 hi hz0 hz1 hz2 rfl (by decide) (.slice Ap P.length cp) P.length cs rfl HOWN.out ⟨w7.heap.size, 0, none⟩ 1 1 [.int .i64 (r5 : Int), .slice (some ⟨g7, 0, none⟩) 512 512] rfl rfl (cells_new' _ _ _ rfl) (by intro u hu; simp at hu; rcases hu with rfl | rfl <;> rfl) (by have := HPL.out; unfold maxLen; omega) (by have := HPL.out; omega) hle ?_
                        intro v' w' hown hgrow hnil hat
                        obtain ⟨Av, cv, rfl⟩ := ownsRow_form hown
                        have HDG := Lib.hid (HD8.out.below ((Below.refl nb _).grown hgrow hle (fun g hg => (HOWN.out.lt _ hg).1)) hbx)
                        have HR := Lib.hid (HAPP.out _ w' hown hgrow hat)
                        have m := fun o => cell_of_row _ _ o _ _ _ HDG.out.box
                        have f := fun o => frozen_of_row _ _ o _ _ HDG.out.box
                        clear hown hgrow hnil hat
                        refine hK.out _ _ ?_ (fun hHeld => ?_)
                        · exact True.intro
                        clear hK K
                        try simp only [Act.put, List.setIfInBounds_toArray, List.set_cons_zero, List.set_cons_succ]
                        refine wpAnyH_take (i := 11) (v := ?_) rfl (by kernel_rfl) (by kernel_rfl) (by kernel_rfl) (fun _ _ _ h => h) (Or.inl ⟨by rfl, ?_⟩) (by assumption) ?_
                        rotate_left
                        · intro w hSw; (try dsimp only at hSw); go_simp <;> with_reducible rfl
                        try simp only [Act.put, List.setIfInBounds_toArray, List.set_cons_zero, List.set_cons_succ]
                        refine wpAnyH_ready (rs := [12]) (by kernel_rfl) (by simp) ?_
                        refine AllReadyH.cons rfl (fun K hK => ?_) ?_
                        · go_simp
                          refine hK.out _ _ ?_ (fun hHeld => ?_)
                          · exact True.intro
                          clear hK K
                          try simp only [Act.put, List.setIfInBounds_toArray, List.set_cons_zero, List.set_cons_succ]
                          refine wpAnyH_done (by kernel_rfl) ?_ _
                          refine NoPanic.normal ?_
                          go_wp2
                          go_roundg mq
                          case measure => omega
                          case rel =>
                            have hl : (P ++ [(⟨(r5 : Int), ys⟩ : DSectorWrite)]).length = P.length + 1 := by simp
                            refine ⟨M + 1 + 2, P ++ [⟨(r5 : Int), ys⟩], Av, cv, by go_num, Lib.hid (by have := HM.out; omega), Lib.hid (by rw [hl]; have := HPL.out; omega), Lib.hid ?_, Lib.hid ?_, Lib.hid ?_⟩
                            · intro x hx
                              rcases List.mem_append.1 hx with hx | hx
                              · exact HPD.out x hx
                              · simp at hx; subst hx; have := HL7.out; dsimp only; omega
                            · rw [hl]; exact HR.out.1.keep ((Only.refl [bx] _).setCell (fun _ => by simp) _) (fun g hg => .inl (by simp at hg; omega))
                            · rw [hl]; exact HDG.out.setP _
                        exact AllReadyH.nil
                      exact AllReadyH.nil
                    exact AllReadyH.nil
                  refine AllReadyH.cons rfl (fun K hK => ?_) ?_
                  · go_simp
                    refine hK.out _ _ ?_ (fun hHeld => ?_)
                    · exact True.intro
                    clear hK K
                    try simp only [Act.put, List.setIfInBounds_toArray, List.set_cons_zero, List.set_cons_succ]
                    refine wpAnyH_ready (rs := [1]) (by kernel_rfl) (by simp) ?_
                    refine AllReadyH.cons rfl (fun K hK => ?_) ?_
                    · go_simp
                      refine hK.out _ _ ?_ (fun hHeld => ?_)
                      · exact True.intro
                      clear hK K
                      try simp only [Act.put, List.setIfInBounds_toArray, List.set_cons_zero, List.set_cons_succ]
                      refine wpAnyH_ready (rs := [10]) (by kernel_rfl) (by simp) ?_
                      refine AllReadyH.cons rfl (fun K hK => ?_) ?_
                      · refine step_append_own rfl _ _ 27 rfl nb 64 i0 (.agg #[.int .i64 0, .slice none 0 0]) 2 32 Try.underlying27 hi hz0 hz1 hz2 rfl (by decide) (.slice Ap P.length cp) P.length cs rfl HOWN.out ⟨w7.heap.size, 0, none⟩ 1 1 [.int .i64 (r5 : Int), .slice (some ⟨g7, 0, none⟩) 512 512] rfl rfl (cells_new' _ _ _ rfl) (by intro u hu; simp at hu; rcases hu with rfl | rfl <;> rfl) (by have := HPL.out; unfold maxLen; omega) (by have := HPL.out; omega) hle ?_
                        intro v' w' hown hgrow hnil hat
                        obtain ⟨Av, cv, rfl⟩ := ownsRow_form hown
                        have HDG := Lib.hid (HD8.out.below ((Below.refl nb _).grown hgrow hle (fun g hg => (HOWN.out.lt _ hg).1)) hbx)
                        have HR := Lib.hid (HAPP.out _ w' hown hgrow hat)
                        have m := fun o => cell_of_row _ _ o _ _ _ HDG.out.box
                        have f := fun o => frozen_of_row _ _ o _ _ HDG.out.box
                        clear hown hgrow hnil hat
                        refine hK.out _ _ ?_ (fun hHeld => ?_)
                        · exact True.intro
                        clear hK K
                        try simp only [Act.put, List.setIfInBounds_toArray, List.set_cons_zero, List.set_cons_succ]
                        refine wpAnyH_take (i := 11) (v := ?_) rfl (by kernel_rfl) (by kernel_rfl) (by kernel_rfl) (fun _ _ _ h => h) (Or.inl ⟨by rfl, ?_⟩) (by assumption) ?_
                        rotate_left
                        · intro w hSw; (try dsimp only at hSw); go_simp <;> with_reducible rfl
                        try simp only [Act.put, List.setIfInBounds_toArray, List.set_cons_zero, List.set_cons_succ]
                        refine wpAnyH_ready (rs := [12]) (by kernel_rfl) (by simp) ?_
                        refine AllReadyH.cons rfl (fun K hK => ?_) ?_
                        · go_simp
                          refine hK.out _ _ ?_ (fun hHeld => ?_)
                          · exact True.intro
                          clear hK K
                          try simp only [Act.put, List.setIfInBounds_toArray, List.set_cons_zero, List.set_cons_succ]
                          refine wpAnyH_done (by kernel_rfl) ?_ _
                          refine NoPanic.normal ?_
                          go_wp2
                          go_roundg mq
                          case measure => omega
                          case rel =>
                            have hl : (P ++ [(⟨(r5 : Int), ys⟩ : DSectorWrite)]).length = P.length + 1 := by simp
                            refine ⟨M + 1 + 2, P ++ [⟨(r5 : Int), ys⟩], Av, cv, by go_num, Lib.hid (by have := HM.out; omega), Lib.hid (by rw [hl]; have := HPL.out; omega), Lib.hid ?_, Lib.hid ?_, Lib.hid ?_⟩
                            · intro x hx
                              rcases List.mem_append.1 hx with hx | hx
                              · exact HPD.out x hx
                              · simp at hx; subst hx; have := HL7.out; dsimp only; omega
                            · rw [hl]; exact HR.out.1.keep ((Only.refl [bx] _).setCell (fun _ => by simp) _) (fun g hg => .inl (by simp at hg; omega))
                            · rw [hl]; exact HDG.out.setP _
                        exact AllReadyH.nil
                      exact AllReadyH.nil
                    exact AllReadyH.nil
                  exact AllReadyH.nil
                exact AllReadyH.nil
              exact AllReadyH.nil
            exact AllReadyH.nil
          exact AllReadyH.nil
        · obtain rfl : gk = 0 := by omega
          clear hg0 hi hz0 hz1 hz2
          have hL3 : L ≤ 4000 := by have := HLN.out; omega
          have hgeo := HD.out.ge
          go_wp2_with (go_at_call 74; refine (l1Next_calls sb M _ HD.out.src (by have := HM.out; omega) 24 (by decide)).mono ?_; rintro e wC ⟨x, rfl, hx, HSC, HOC⟩; refine Hid.out ?_)
          refine Lib.hid ?_
          have HDC := Lib.hid (HD.out.more HOC.out HSC.out)
          have HOE := Lib.hid (HOP.out.keep HOC.out (fun g hg => .inl (by simp at hg; omega)))
          have m := fun o => cell_of_row _ _ o _ _ _ HDC.out.box
          have f := fun o => frozen_of_row _ _ o _ _ HDC.out.box
          have mr := fun o => cell_of_row _ _ o _ _ _ HDC.out.res
          have fr := fun o => frozen_of_row _ _ o _ _ HDC.out.res
          have hMN : M + 1 ≤ N + 60 := by have := HM.out; omega
          clear HD HOP HSC HOC
          obtain ⟨ys, hyl, hyb⟩ := HDC.out.bytes
          have HYL := Lib.hid hyl; have HYB := Lib.hid hyb
          clear hyl hyb hx
          by_cases h0 : x = 0
          · subst h0
            have d1 : ¬ L = 1 := by have := HLN.out; omega
            have d2 : 1 ≤ L := by have := HLN.out; omega
            have d3 : (1 : Int) ≤ (L : Int) := by omega
            go_wp2
            refine bodyPost_ret (v := .agg #[.slice (some ⟨gd, 1, none⟩) (L - 1) (L - 1), .slice Ap P.length cp]) (by simp [results, Try.results73, go_sem, m, mr]) rfl ?_
            have hbs := HYB.out.sl (by have := HYL.out; unfold maxLen; omega)
            have hO1 : Only [bx] wC (wC.setCell ⟨bx, 0, none⟩ (.slice (some ⟨gd, 1, none⟩) (L - 1) (L - 1))) := (Only.refl _ _).setCell (fun _ => by simp) _
            obtain ⟨zs, hzl, hzs⟩ := BB.tail HYB.out (by have := HYL.out; omega) (by have := HYL.out; unfold maxLen; omega)
            rw [HYL.out] at hzl hzs
            exact DiskD.close (wz := wC.setCell ⟨bx, 0, none⟩ (.slice (some ⟨gd, 1, none⟩) (L - 1) (L - 1))) (D := zs) hzl.symm (Rep.sl_only hzs hO1 (fun b hb hb' => by have e1 := List.mem_singleton.1 hb; have e2 := List.mem_singleton.1 hb'; omega)) (by simp; omega) (HOE.out.keep hO1 (fun g hg => .inl (by simp at hg; omega))) (by omega) (by omega) (by have := HPL.out; omega) HPD.out (HDC.out.src.only hO1 (by simp; omega)) hMN (HDC.out.only.then_ hO1 (fun g hg hl => by simp at hg; omega)) (by repeat (first | with_reducible exact Only.refl _ _ | ((with_reducible apply Only.set); · simp))) hlt
          have b0 : ((x : Int) == 0) = false := by simp; omega
          by_cases h1 : x = 1
          · subst h1
            have HDQ := Lib.hid (HDC.out.ext ((Only.refl [] wC).drew))
            clear m f mr fr
            have m := fun o => cell_of_row _ _ o _ _ _ HDQ.out.box
            have f := fun o => frozen_of_row _ _ o _ _ HDQ.out.box
            obtain ⟨i0, hi, hz0, hz1, hz2⟩ := info_parts infoSW
            go_wp2_with fail
            refine wp_region_noPanic ?_
            refine wp_region_held_drew (S := (fun w' => True)) (by kernel_rfl) ?_ (fun hHeld => ?_)
            · exact True.intro
            refine wpAnyH_take (i := 0) (v := ?_) rfl (by kernel_rfl) (by kernel_rfl) (by kernel_rfl) (fun _ _ _ h => h) (Or.inl ⟨by rfl, ?_⟩) (by assumption) ?_
            rotate_left
            · intro w hSw; (try dsimp only at hSw); go_simp <;> with_reducible rfl
            try simp only [Act.put, List.setIfInBounds_toArray, List.set_cons_zero, List.set_cons_succ]
            refine wpAnyH_take (i := 4) (v := ?_) rfl (by kernel_rfl) (by kernel_rfl) (by kernel_rfl) (fun _ _ _ h => h) (Or.inl ⟨by rfl, ?_⟩) (by assumption) ?_
            rotate_left
            · intro w hSw; (try dsimp only at hSw); go_simp <;> with_reducible rfl
            try simp only [Act.put, List.setIfInBounds_toArray, List.set_cons_zero, List.set_cons_succ]
            refine wpAnyH_ready (rs := [1, 2]) (by kernel_rfl) (by simp) ?_
            refine AllReadyH.cons rfl (fun K hK => ?_) ?_
            · go_simp
              refine hK.out _ _ ?_ (fun hHeld => ?_)
              · exact True.intro
              clear hK K
              try simp only [Act.put, List.setIfInBounds_toArray, List.set_cons_zero, List.set_cons_succ]
              refine wpAnyH_ready (rs := [2]) (by kernel_rfl) (by simp) ?_
              refine AllReadyH.cons rfl (fun K hK => ?_) ?_
              · go_simp
                refine hK.out _ _ ?_ (fun hHeld => ?_)
                · exact True.intro
                clear hK K
                try simp only [Act.put, List.setIfInBounds_toArray, List.set_cons_zero, List.set_cons_succ]
                refine wpAnyH_ready (rs := [3]) (by kernel_rfl) (by simp) ?_
                refine AllReadyH.cons rfl (fun K hK => ?_) ?_
                · go_simp
                  refine (l1Sectors_calls (some ⟨gd, 0, none⟩) Ap L P.length L cp _ (by have := HLN.out; omega)).mono ?_
                  rintro e wa ⟨rfl, hwa⟩
                  rw [HQ.out]
                  have HDa := Lib.hid (show DrD w wa sb (M + 1) bx gd L (.slice Ap P.length cp) from hwa ▸ HDQ.out.ext (alloc_ext _ _))
                  have HOa := Lib.hid (show Only [sb] wC wa from hwa ▸ ((Only.refl [sb] wC).drew.alloc _))
                  clear hwa
                  have m := fun o => cell_of_row _ _ o _ _ _ HDa.out.box
                  have f := fun o => frozen_of_row _ _ o _ _ HDa.out.box
                  go_wp2_with fail
                  refine hK.out _ _ ?_ (fun hHeld => ?_)
                  · exact True.intro
                  clear hK K
                  try simp only [Act.put, List.setIfInBounds_toArray, List.set_cons_zero, List.set_cons_succ]
                  refine wpAnyH_ready (rs := [5]) (by kernel_rfl) (by simp) ?_
                  refine AllReadyH.cons rfl (fun K hK => ?_) ?_
                  · go_simp
                    refine (l1Fill_calls sb (M + 1) wa HDa.out.src (by have := HM.out; omega) 512 _ rfl (by decide)).mono ?_
                    rintro e w7 ⟨y7, g7, rfl, HL7, HG7, HB7, HS7, HO7⟩
                    have HD7 := Lib.hid (HDa.out.more HO7.out HS7.out)
                    have HOc := Lib.hid (HOa.out.trans HO7.out)
                    have hE8 := alloc_ext w7 (.cells #[.int .i64 (k : Int), .slice (some ⟨g7, 0, none⟩) 512 512] 64)
                    have HD8 := Lib.hid (HD7.out.ext hE8)
                    have HB8 := Lib.hid (HB7.out.only hE8 (by simp))
                    obtain ⟨cs, ho, hle, happ⟩ := Own.app HOE.out (HOc.out.alloc (.cells #[.int .i64 (k : Int), .slice (some ⟨g7, 0, none⟩) 512 512] 64)) (fun g hg => .inl (by simp at hg; omega)) (HB8.out.newIn (by have h1 := HG7.out; have h2 := HOa.out.size; (try simp only [World.drew] at h1 h2); omega)) (sw_new (k : Int) (small64 (by omega) (by omega)) HB8.out HL7.out (by decide))
                    have HAPP := Lib.hid happ
                    have HOWN := Lib.hid ho
                    clear hE8 happ ho
                    have m := fun o => cell_of_row _ _ o _ _ _ HD7.out.box
                    have f := fun o => frozen_of_row _ _ o _ _ HD7.out.box
                    have mk := fun o => cell_of_row _ _ o _ _ _ HD8.out.box
                    have fk := fun o => frozen_of_row _ _ o _ _ HD8.out.box
                    go_wp2_with fail
                    refine hK.out _ _ ?_ (fun hHeld => ?_)
                    · exact True.intro
                    clear hK K
                    try simp only [Act.put, List.setIfInBounds_toArray, List.set_cons_zero, List.set_cons_succ]
                    refine wpAnyH_take (i := 6) (v := ?_) rfl (by kernel_rfl) (by kernel_rfl) (by kernel_rfl) (fun _ _ _ h => h) (Or.inl ⟨by rfl, ?_⟩) (by assumption) ?_
                    rotate_left
                    · intro w hSw; (try dsimp only at hSw); go_simp <;> with_reducible rfl
                    try simp only [Act.put, List.setIfInBounds_toArray, List.set_cons_zero, List.set_cons_succ]
                    refine wpAnyH_ready (rs := [7]) (by kernel_rfl) (by simp) ?_
                    refine AllReadyH.cons rfl (fun K hK => ?_) ?_
                    · go_simp
                      refine hK.out _ _ ?_ (fun hHeld => ?_)
                      · exact True.intro
                      clear hK K
                      try simp only [Act.put, List.setIfInBounds_toArray, List.set_cons_zero, List.set_cons_succ]
                      refine wpAnyH_ready (rs := [8]) (by kernel_rfl) (by simp) ?_
                      refine AllReadyH.cons rfl (fun K hK => ?_) ?_
                      · refine step_append_own rfl _ _ 27 rfl nb 64 i0 (.agg #[.int .i64 0, .slice none 0 0]) 2 32 Try.underlying27 hi hz0 hz1 hz2 rfl (by decide) (.slice Ap P.length cp) P.length cs rfl HOWN.out ⟨w7.heap.size, 0, none⟩ 1 1 [.int .i64 (k : Int), .slice (some ⟨g7, 0, none⟩) 512 512] rfl rfl (cells_new' _ _ _ rfl) (by intro u hu; simp at hu; rcases hu with rfl | rfl <;> rfl) (by have := HPL.out; unfold maxLen; omega) (by have := HPL.out; omega) hle ?_
                        intro v' w' hown hgrow hnil hat
                        obtain ⟨Av, cv, rfl⟩ := ownsRow_form hown
                        have HDG := Lib.hid (HD8.out.below ((Below.refl nb _).grown hgrow hle (fun g hg => (HOWN.out.lt _ hg).1)) hbx)
                        have HR := Lib.hid (HAPP.out _ w' hown hgrow hat)
                        have m := fun o => cell_of_row _ _ o _ _ _ HDG.out.box
                        have f := fun o => frozen_of_row _ _ o _ _ HDG.out.box
                        have mr := fun o => cell_of_row _ _ o _ _ _ HDG.out.res
                        have fr := fun o => frozen_of_row _ _ o _ _ HDG.out.res
                        clear hown hgrow hnil hat
                        refine hK.out _ _ ?_ (fun hHeld => ?_)
                        · exact True.intro
                        clear hK K
                        try simp only [Act.put, List.setIfInBounds_toArray, List.set_cons_zero, List.set_cons_succ]
                        refine wpAnyH_take (i := 9) (v := ?_) rfl (by kernel_rfl) (by kernel_rfl) (by kernel_rfl) (fun _ _ _ h => h) (Or.inl ⟨by rfl, ?_⟩) (by assumption) ?_
                        rotate_left
                        · intro w hSw; (try dsimp only at hSw); go_simp <;> with_reducible rfl
                        try simp only [Act.put, List.setIfInBounds_toArray, List.set_cons_zero, List.set_cons_succ]
                        refine wpAnyH_ready (rs := [10]) (by kernel_rfl) (by simp) ?_
                        refine AllReadyH.cons rfl (fun K hK => ?_) ?_
                        · go_simp
                          refine hK.out _ _ ?_ (fun hHeld => ?_)
                          · exact True.intro
                          clear hK K
                          try simp only [Act.put, List.setIfInBounds_toArray, List.set_cons_zero, List.set_cons_succ]
                          refine wpAnyH_done (by kernel_rfl) ?_ _
                          refine NoPanic.normal ?_
                          go_wp2
                          refine bodyPost_ret (v := .agg #[.slice (some ⟨gd, 0, none⟩) L L, .slice Av (P.length + 1) cv]) (by simp [results, Try.results73, go_sem, m, mr]) rfl ?_
                          have hl : (P ++ [(⟨(k : Int), y7⟩ : DSectorWrite)]).length = P.length + 1 := by simp
                          obtain ⟨zs, hzl, hzb⟩ := HDG.out.bytes
                          have hO1 : Only [bx] w' (w'.setCell ⟨bx, 1, none⟩ (.slice Av (P.length + 1) cv)) := (Only.refl _ _).setCell (fun _ => by simp) _
                          have hbs := (hzb.only hO1 (by simp; omega)).sl (by unfold maxLen; omega)
                          rw [hzl] at hbs
                          rw [← hl]
                          exact DiskD.close (wz := w'.setCell ⟨bx, 1, none⟩ (.slice Av (P.length + 1) cv)) hzl.symm hbs (by simp; omega) (by rw [hl]; exact HR.out.1.keep hO1 (fun g hg => .inl (by simp at hg; omega))) (by omega) (by rw [hzl]; exact hL3) (by rw [hl]; have := HPL.out; omega) (by intro x hx; rcases List.mem_append.1 hx with hx | hx; exact HPD.out x hx; simp at hx; subst hx; have := HL7.out; dsimp only; omega) (HDG.out.src.only hO1 (by simp; omega)) (by have := HM.out; omega) (HDG.out.only.then_ hO1 (fun g hg hl => by simp at hg; omega)) (by rw [hl]; repeat (first | with_reducible exact Only.refl _ _ | ((with_reducible apply Only.set); · simp))) hlt
                        exact AllReadyH.nil
                      exact AllReadyH.nil
                    exact AllReadyH.nil
                  exact AllReadyH.nil
                exact AllReadyH.nil
              exact AllReadyH.nil
            refine AllReadyH.cons rfl (fun K hK => ?_) ?_
            · go_simp
              refine hK.out _ _ ?_ (fun hHeld => ?_)
              · exact True.intro
              clear hK K
              try simp only [Act.put, List.setIfInBounds_toArray, List.set_cons_zero, List.set_cons_succ]
              refine wpAnyH_ready (rs := [1, 3]) (by kernel_rfl) (by simp) ?_
              refine AllReadyH.cons rfl (fun K hK => ?_) ?_
              · go_simp
                refine hK.out _ _ ?_ (fun hHeld => ?_)
                · exact True.intro
                clear hK K
                try simp only [Act.put, List.setIfInBounds_toArray, List.set_cons_zero, List.set_cons_succ]
                refine wpAnyH_ready (rs := [3]) (by kernel_rfl) (by simp) ?_
                refine AllReadyH.cons rfl (fun K hK => ?_) ?_
                · go_simp
                  refine (l1Sectors_calls (some ⟨gd, 0, none⟩) Ap L P.length L cp _ (by have := HLN.out; omega)).mono ?_
                  rintro e wa ⟨rfl, hwa⟩
                  rw [HQ.out]
                  have HDa := Lib.hid (show DrD w wa sb (M + 1) bx gd L (.slice Ap P.length cp) from hwa ▸ HDQ.out.ext (alloc_ext _ _))
                  have HOa := Lib.hid (show Only [sb] wC wa from hwa ▸ ((Only.refl [sb] wC).drew.alloc _))
                  clear hwa
                  have m := fun o => cell_of_row _ _ o _ _ _ HDa.out.box
                  have f := fun o => frozen_of_row _ _ o _ _ HDa.out.box
                  go_wp2_with fail
                  refine hK.out _ _ ?_ (fun hHeld => ?_)
                  · exact True.intro
                  clear hK K
                  try simp only [Act.put, List.setIfInBounds_toArray, List.set_cons_zero, List.set_cons_succ]
                  refine wpAnyH_ready (rs := [5]) (by kernel_rfl) (by simp) ?_
                  refine AllReadyH.cons rfl (fun K hK => ?_) ?_
                  · go_simp
                    refine (l1Fill_calls sb (M + 1) wa HDa.out.src (by have := HM.out; omega) 512 _ rfl (by decide)).mono ?_
                    rintro e w7 ⟨y7, g7, rfl, HL7, HG7, HB7, HS7, HO7⟩
                    have HD7 := Lib.hid (HDa.out.more HO7.out HS7.out)
                    have HOc := Lib.hid (HOa.out.trans HO7.out)
                    have hE8 := alloc_ext w7 (.cells #[.int .i64 (k : Int), .slice (some ⟨g7, 0, none⟩) 512 512] 64)
                    have HD8 := Lib.hid (HD7.out.ext hE8)
                    have HB8 := Lib.hid (HB7.out.only hE8 (by simp))
                    obtain ⟨cs, ho, hle, happ⟩ := Own.app HOE.out (HOc.out.alloc (.cells #[.int .i64 (k : Int), .slice (some ⟨g7, 0, none⟩) 512 512] 64)) (fun g hg => .inl (by simp at hg; omega)) (HB8.out.newIn (by have h1 := HG7.out; have h2 := HOa.out.size; (try simp only [World.drew] at h1 h2); omega)) (sw_new (k : Int) (small64 (by omega) (by omega)) HB8.out HL7.out (by decide))
                    have HAPP := Lib.hid happ
                    have HOWN := Lib.hid ho
                    clear hE8 happ ho
                    have m := fun o => cell_of_row _ _ o _ _ _ HD7.out.box
                    have f := fun o => frozen_of_row _ _ o _ _ HD7.out.box
                    have mk := fun o => cell_of_row _ _ o _ _ _ HD8.out.box
                    have fk := fun o => frozen_of_row _ _ o _ _ HD8.out.box
                    go_wp2_with fail
                    refine hK.out _ _ ?_ (fun hHeld => ?_)
                    · exact True.intro
                    clear hK K
                    try simp only [Act.put, List.setIfInBounds_toArray, List.set_cons_zero, List.set_cons_succ]
                    refine wpAnyH_take (i := 6) (v := ?_) rfl (by kernel_rfl) (by kernel_rfl) (by kernel_rfl) (fun _ _ _ h => h) (Or.inl ⟨by rfl, ?_⟩) (by assumption) ?_
                    rotate_left
                    · intro w hSw; (try dsimp only at hSw); go_simp <;> with_reducible rfl
                    try simp only [Act.put, List.setIfInBounds_toArray, List.set_cons_zero, List.set_cons_succ]
                    refine wpAnyH_ready (rs := [7]) (by kernel_rfl) (by simp) ?_
                    refine AllReadyH.cons rfl (fun K hK => ?_) ?_
                    · go_simp
                      refine hK.out _ _ ?_ (fun hHeld => ?_)
                      · exact True.intro
                      clear hK K
                      try simp only [Act.put, List.setIfInBounds_toArray, List.set_cons_zero, List.set_cons_succ]
                      refine wpAnyH_ready (rs := [8]) (by kernel_rfl) (by simp) ?_
                      refine AllReadyH.cons rfl (fun K hK => ?_) ?_
                      · refine step_append_own rfl _ _ 27 rfl nb 64 i0 (.agg #[.int .i64 0, .slice none 0 0]) 2 32 Try.underlying27 hi hz0 hz1 hz2 rfl (by decide) (.slice Ap P.length cp) P.length cs rfl HOWN.out ⟨w7.heap.size, 0, none⟩ 1 1 [.int .i64 (k : Int), .slice (some ⟨g7, 0, none⟩) 512 512] rfl rfl (cells_new' _ _ _ rfl) (by intro u hu; simp at hu; rcases hu with rfl | rfl <;> rfl) (by have := HPL.out; unfold maxLen; omega) (by have := HPL.out; omega) hle ?_
                        intro v' w' hown hgrow hnil hat
                        obtain ⟨Av, cv, rfl⟩ := ownsRow_form hown
                        have HDG := Lib.hid (HD8.out.below ((Below.refl nb _).grown hgrow hle (fun g hg => (HOWN.out.lt _ hg).1)) hbx)
                        have HR := Lib.hid (HAPP.out _ w' hown hgrow hat)
                        have m := fun o => cell_of_row _ _ o _ _ _ HDG.out.box
                        have f := fun o => frozen_of_row _ _ o _ _ HDG.out.box
                        have mr := fun o => cell_of_row _ _ o _ _ _ HDG.out.res
                        have fr := fun o => frozen_of_row _ _ o _ _ HDG.out.res
                        clear hown hgrow hnil hat
                        refine hK.out _ _ ?_ (fun hHeld => ?_)
                        · exact True.intro
                        clear hK K
                        try simp only [Act.put, List.setIfInBounds_toArray, List.set_cons_zero, List.set_cons_succ]
                        refine wpAnyH_take (i := 9) (v := ?_) rfl (by kernel_rfl) (by kernel_rfl) (by kernel_rfl) (fun _ _ _ h => h) (Or.inl ⟨by rfl, ?_⟩) (by assumption) ?_
                        rotate_left
                        · intro w hSw; (try dsimp only at hSw); go_simp <;> with_reducible rfl
                        try simp only [Act.put, List.setIfInBounds_toArray, List.set_cons_zero, List.set_cons_succ]
                        refine wpAnyH_ready (rs := [10]) (by kernel_rfl) (by simp) ?_
                        refine AllReadyH.cons rfl (fun K hK => ?_) ?_
                        · go_simp
                          refine hK.out _ _ ?_ (fun hHeld => ?_)
                          · exact True.intro
                          clear hK K
                          try simp only [Act.put, List.setIfInBounds_toArray, List.set_cons_zero, List.set_cons_succ]
                          refine wpAnyH_done (by kernel_rfl) ?_ _
                          refine NoPanic.normal ?_
                          go_wp2
                          refine bodyPost_ret (v := .agg #[.slice (some ⟨gd, 0, none⟩) L L, .slice Av (P.length + 1) cv]) (by simp [results, Try.results73, go_sem, m, mr]) rfl ?_
                          have hl : (P ++ [(⟨(k : Int), y7⟩ : DSectorWrite)]).length = P.length + 1 := by simp
                          obtain ⟨zs, hzl, hzb⟩ := HDG.out.bytes
                          have hO1 : Only [bx] w' (w'.setCell ⟨bx, 1, none⟩ (.slice Av (P.length + 1) cv)) := (Only.refl _ _).setCell (fun _ => by simp) _
                          have hbs := (hzb.only hO1 (by simp; omega)).sl (by unfold maxLen; omega)
                          rw [hzl] at hbs
                          rw [← hl]
                          exact DiskD.close (wz := w'.setCell ⟨bx, 1, none⟩ (.slice Av (P.length + 1) cv)) hzl.symm hbs (by simp; omega) (by rw [hl]; exact HR.out.1.keep hO1 (fun g hg => .inl (by simp at hg; omega))) (by omega) (by rw [hzl]; exact hL3) (by rw [hl]; have := HPL.out; omega) (by intro x hx; rcases List.mem_append.1 hx with hx | hx; exact HPD.out x hx; simp at hx; subst hx; have := HL7.out; dsimp only; omega) (HDG.out.src.only hO1 (by simp; omega)) (by have := HM.out; omega) (HDG.out.only.then_ hO1 (fun g hg hl => by simp at hg; omega)) (by rw [hl]; repeat (first | with_reducible exact Only.refl _ _ | ((with_reducible apply Only.set); · simp))) hlt
                        exact AllReadyH.nil
                      exact AllReadyH.nil
                    exact AllReadyH.nil
                  exact AllReadyH.nil
                exact AllReadyH.nil
              refine AllReadyH.cons rfl (fun K hK => ?_) ?_
              · go_simp
                refine (l1Sectors_calls (some ⟨gd, 0, none⟩) Ap L P.length L cp _ (by have := HLN.out; omega)).mono ?_
                rintro e wa ⟨rfl, hwa⟩
                rw [HQ.out]
                have HDa := Lib.hid (show DrD w wa sb (M + 1) bx gd L (.slice Ap P.length cp) from hwa ▸ HDQ.out.ext (alloc_ext _ _))
                have HOa := Lib.hid (show Only [sb] wC wa from hwa ▸ ((Only.refl [sb] wC).drew.alloc _))
                clear hwa
                have m := fun o => cell_of_row _ _ o _ _ _ HDa.out.box
                have f := fun o => frozen_of_row _ _ o _ _ HDa.out.box
                go_wp2_with fail
                refine hK.out _ _ ?_ (fun hHeld => ?_)
                · exact True.intro
                clear hK K
                try simp only [Act.put, List.setIfInBounds_toArray, List.set_cons_zero, List.set_cons_succ]
                refine wpAnyH_ready (rs := [1, 5]) (by kernel_rfl) (by simp) ?_
                refine AllReadyH.cons rfl (fun K hK => ?_) ?_
                · go_simp
                  refine hK.out _ _ ?_ (fun hHeld => ?_)
                  · exact True.intro
                  clear hK K
                  try simp only [Act.put, List.setIfInBounds_toArray, List.set_cons_zero, List.set_cons_succ]
                  refine wpAnyH_ready (rs := [5]) (by kernel_rfl) (by simp) ?_
                  refine AllReadyH.cons rfl (fun K hK => ?_) ?_
                  · go_simp
                    refine (l1Fill_calls sb (M + 1) wa HDa.out.src (by have := HM.out; omega) 512 _ rfl (by decide)).mono ?_
                    rintro e w7 ⟨y7, g7, rfl, HL7, HG7, HB7, HS7, HO7⟩
                    have HD7 := Lib.hid (HDa.out.more HO7.out HS7.out)
                    have HOc := Lib.hid (HOa.out.trans HO7.out)
                    have hE8 := alloc_ext w7 (.cells #[.int .i64 (k : Int), .slice (some ⟨g7, 0, none⟩) 512 512] 64)
                    have HD8 := Lib.hid (HD7.out.ext hE8)
                    have HB8 := Lib.hid (HB7.out.only hE8 (by simp))
                    obtain ⟨cs, ho, hle, happ⟩ := Own.app HOE.out (HOc.out.alloc (.cells #[.int .i64 (k : Int), .slice (some ⟨g7, 0, none⟩) 512 512] 64)) (fun g hg => .inl (by simp at hg; omega)) (HB8.out.newIn (by have h1 := HG7.out; have h2 := HOa.out.size; (try simp only [World.drew] at h1 h2); omega)) (sw_new (k : Int) (small64 (by omega) (by omega)) HB8.out HL7.out (by decide))
                    have HAPP := Lib.hid happ
                    have HOWN := Lib.hid ho
                    clear hE8 happ ho
                    have m := fun o => cell_of_row _ _ o _ _ _ HD7.out.box
                    have f := fun o => frozen_of_row _ _ o _ _ HD7.out.box
                    have mk := fun o => cell_of_row _ _ o _ _ _ HD8.out.box
                    have fk := fun o => frozen_of_row _ _ o _ _ HD8.out.box
                    go_wp2_with fail
                    refine hK.out _ _ ?_ (fun hHeld => ?_)
                    · exact True.intro
                    clear hK K
                    try simp only [Act.put, List.setIfInBounds_toArray, List.set_cons_zero, List.set_cons_succ]
                    refine wpAnyH_take (i := 6) (v := ?_) rfl (by kernel_rfl) (by kernel_rfl) (by kernel_rfl) (fun _ _ _ h => h) (Or.inl ⟨by rfl, ?_⟩) (by assumption) ?_
                    rotate_left
                    · intro w hSw; (try dsimp only at hSw); go_simp <;> with_reducible rfl
                    try simp only [Act.put, List.setIfInBounds_toArray, List.set_cons_zero, List.set_cons_succ]
                    refine wpAnyH_ready (rs := [7]) (by kernel_rfl) (by simp) ?_
                    refine AllReadyH.cons rfl (fun K hK => ?_) ?_
                    · go_simp
                      refine hK.out _ _ ?_ (fun hHeld => ?_)
                      · exact True.intro
                      clear hK K
                      try simp only [Act.put, List.setIfInBounds_toArray, List.set_cons_zero, List.set_cons_succ]
                      refine wpAnyH_ready (rs := [8]) (by kernel_rfl) (by simp) ?_
                      refine AllReadyH.cons rfl (fun K hK => ?_) ?_
                      · refine step_append_own rfl _ _ 27 rfl nb 64 i0 (.agg #[.int .i64 0, .slice none 0 0]) 2 32 Try.underlying27 hi hz0 hz1 hz2 rfl (by decide) (.slice Ap P.length cp) P.length cs rfl HOWN.out ⟨w7.heap.size, 0, none⟩ 1 1 [.int .i64 (k : Int), .slice (some ⟨g7, 0, none⟩) 512 512] rfl rfl (cells_new' _ _ _ rfl) (by intro u hu; simp at hu; rcases hu with rfl | rfl <;> rfl) (by have := HPL.out; unfold maxLen; omega) (by have := HPL.out; omega) hle ?_
                        intro v' w' hown hgrow hnil hat
                        obtain ⟨Av, cv, rfl⟩ := ownsRow_form hown
                        have HDG := Lib.hid (HD8.out.below ((Below.refl nb _).grown hgrow hle (fun g hg => (HOWN.out.lt _ hg).1)) hbx)
                        have HR := Lib.hid (HAPP.out _ w' hown hgrow hat)
                        have m := fun o => cell_of_row _ _ o _ _ _ HDG.out.box
                        have f := fun o => frozen_of_row _ _ o _ _ HDG.out.box
                        have mr := fun o => cell_of_row _ _ o _ _ _ HDG.out.res
                        have fr := fun o => frozen_of_row _ _ o _ _ HDG.out.res
                        clear hown hgrow hnil hat
                        refine hK.out _ _ ?_ (fun hHeld => ?_)
                        · exact True.intro
                        clear hK K
                        try simp only [Act.put, List.setIfInBounds_toArray, List.set_cons_zero, List.set_cons_succ]
                        refine wpAnyH_take (i := 9) (v := ?_) rfl (by kernel_rfl) (by kernel_rfl) (by kernel_rfl) (fun _ _ _ h => h) (Or.inl ⟨by rfl, ?_⟩) (by assumption) ?_
                        rotate_left
                        · intro w hSw; (try dsimp only at hSw); go_simp <;> with_reducible rfl
                        try simp only [Act.put, List.setIfInBounds_toArray, List.set_cons_zero, List.set_cons_succ]
                        refine wpAnyH_ready (rs := [10]) (by kernel_rfl) (by simp) ?_
                        refine AllReadyH.cons rfl (fun K hK => ?_) ?_
                        · go_simp
                          refine hK.out _ _ ?_ (fun hHeld => ?_)
                          · exact True.intro
                          clear hK K
                          try simp only [Act.put, List.setIfInBounds_toArray, List.set_cons_zero, List.set_cons_succ]
                          refine wpAnyH_done (by kernel_rfl) ?_ _
                          refine NoPanic.normal ?_
                          go_wp2
                          refine bodyPost_ret (v := .agg #[.slice (some ⟨gd, 0, none⟩) L L, .slice Av (P.length + 1) cv]) (by simp [results, Try.results73, go_sem, m, mr]) rfl ?_
                          have hl : (P ++ [(⟨(k : Int), y7⟩ : DSectorWrite)]).length = P.length + 1 := by simp
                          obtain ⟨zs, hzl, hzb⟩ := HDG.out.bytes
                          have hO1 : Only [bx] w' (w'.setCell ⟨bx, 1, none⟩ (.slice Av (P.length + 1) cv)) := (Only.refl _ _).setCell (fun _ => by simp) _
                          have hbs := (hzb.only hO1 (by simp; omega)).sl (by unfold maxLen; omega)
                          rw [hzl] at hbs
                          rw [← hl]
                          exact DiskD.close (wz := w'.setCell ⟨bx, 1, none⟩ (.slice Av (P.length + 1) cv)) hzl.symm hbs (by simp; omega) (by rw [hl]; exact HR.out.1.keep hO1 (fun g hg => .inl (by simp at hg; omega))) (by omega) (by rw [hzl]; exact hL3) (by rw [hl]; have := HPL.out; omega) (by intro x hx; rcases List.mem_append.1 hx with hx | hx; exact HPD.out x hx; simp at hx; subst hx; have := HL7.out; dsimp only; omega) (HDG.out.src.only hO1 (by simp; omega)) (by have := HM.out; omega) (HDG.out.only.then_ hO1 (fun g hg hl => by simp at hg; omega)) (by rw [hl]; repeat (first | with_reducible exact Only.refl _ _ | ((with_reducible apply Only.set); · simp))) hlt
                        exact AllReadyH.nil
                      exact AllReadyH.nil
                    exact AllReadyH.nil
                  exact AllReadyH.nil
                refine AllReadyH.cons rfl (fun K hK => ?_) ?_
                · go_simp
                  refine (l1Fill_calls sb (M + 1) wa HDa.out.src (by have := HM.out; omega) 512 _ rfl (by decide)).mono ?_
                  rintro e w7 ⟨y7, g7, rfl, HL7, HG7, HB7, HS7, HO7⟩
                  have HD7 := Lib.hid (HDa.out.more HO7.out HS7.out)
                  have HOc := Lib.hid (HOa.out.trans HO7.out)
                  have hE8 := alloc_ext w7 (.cells #[.int .i64 (k : Int), .slice (some ⟨g7, 0, none⟩) 512 512] 64)
                  have HD8 := Lib.hid (HD7.out.ext hE8)
                  have HB8 := Lib.hid (HB7.out.only hE8 (by simp))
                  obtain ⟨cs, ho, hle, happ⟩ := Own.app HOE.out (HOc.out.alloc (.cells #[.int .i64 (k : Int), .slice (some ⟨g7, 0, none⟩) 512 512] 64)) (fun g hg => .inl (by simp at hg; omega)) (HB8.out.newIn (by have h1 := HG7.out; have h2 := HOa.out.size; (try simp only [World.drew] at h1 h2); omega)) (sw_new (k : Int) (small64 (by omega) (by omega)) HB8.out HL7.out (by decide))
                  have HAPP := Lib.hid happ
                  have HOWN := Lib.hid ho
                  clear hE8 happ ho
                  have m := fun o => cell_of_row _ _ o _ _ _ HD7.out.box
                  have f := fun o => frozen_of_row _ _ o _ _ HD7.out.box
                  have mk := fun o => cell_of_row _ _ o _ _ _ HD8.out.box
                  have fk := fun o => frozen_of_row _ _ o _ _ HD8.out.box
                  go_wp2_with fail
                  refine hK.out _ _ ?_ (fun hHeld => ?_)
                  · exact True.intro
                  clear hK K
                  try simp only [Act.put, List.setIfInBounds_toArray, List.set_cons_zero, List.set_cons_succ]
                  refine wpAnyH_take (i := 6) (v := ?_) rfl (by kernel_rfl) (by kernel_rfl) (by kernel_rfl) (fun _ _ _ h => h) (Or.inl ⟨by rfl, ?_⟩) (by assumption) ?_
                  rotate_left
                  · intro w hSw; (try dsimp only at hSw); go_simp <;> with_reducible rfl
                  try simp only [Act.put, List.setIfInBounds_toArray, List.set_cons_zero, List.set_cons_succ]
                  refine wpAnyH_ready (rs := [1, 7]) (by kernel_rfl) (by simp) ?_
                  refine AllReadyH.cons rfl (fun K hK => ?_) ?_
                  · go_simp
                    refine hK.out _ _ ?_ (fun hHeld => ?_)
                    · exact True.intro
                    clear hK K
                    try simp only [Act.put, List.setIfInBounds_toArray, List.set_cons_zero, List.set_cons_succ]
                    refine wpAnyH_ready (rs := [7]) (by kernel_rfl) (by simp) ?_
                    refine AllReadyH.cons rfl (fun K hK => ?_) ?_
                    · go_simp
                      refine hK.out _ _ ?_ (fun hHeld => ?_)
                      · exact True.intro
                      clear hK K
                      try simp only [Act.put, List.setIfInBounds_toArray, List.set_cons_zero, List.set_cons_succ]
                      refine wpAnyH_ready (rs := [8]) (by kernel_rfl) (by simp) ?_
                      refine AllReadyH.cons rfl (fun K hK => ?_) ?_
                      · refine step_append_own rfl _ _ 27 rfl nb 64 i0 (.agg #[.int .i64 0, .slice none 0 0]) 2 32 Try.underlying27 hi hz0 hz1 hz2 rfl (by decide) (.slice Ap P.length cp) P.length cs rfl HOWN.out ⟨w7.heap.size, 0, none⟩ 1 1 [.int .i64 (k : Int), .slice (some ⟨g7, 0, none⟩) 512 512] rfl rfl (cells_new' _ _ _ rfl) (by intro u hu; simp at hu; rcases hu with rfl | rfl <;> rfl) (by have := HPL.out; unfold maxLen; omega) (by have := HPL.out; omega) hle ?_
                        intro v' w' hown hgrow hnil hat
                        obtain ⟨Av, cv, rfl⟩ := ownsRow_form hown
                        have HDG := Lib.hid (HD8.out.below ((Below.refl nb _).grown hgrow hle (fun g hg => (HOWN.out.lt _ hg).1)) hbx)
                        have HR := Lib.hid (HAPP.out _ w' hown hgrow hat)
                        have m := fun o => cell_of_row _ _ o _ _ _ HDG.out.box
                        have f := fun o => frozen_of_row _ _ o _ _ HDG.out.box
                        have mr := fun o => cell_of_row _ _ o _ _ _ HDG.out.res
                        have fr := fun o => frozen_of_row _ _ o _ _ HDG.out.res
                        clear hown hgrow hnil hat
                        refine hK.out _ _ ?_ (fun hHeld => ?_)
                        · exact True.intro
                        clear hK K
                        try simp only [Act.put, List.setIfInBounds_toArray, List.set_cons_zero, List.set_cons_succ]
                        refine wpAnyH_take (i := 9) (v := ?_) rfl (by kernel_rfl) (by kernel_rfl) (by kernel_rfl) (fun _ _ _ h => h) (Or.inl ⟨by rfl, ?_⟩) (by assumption) ?_
                        rotate_left
                        · intro w hSw; (try dsimp only at hSw); go_simp <;> with_reducible rfl
                        try simp only [Act.put, List.setIfInBounds_toArray, List.set_cons_zero, List.set_cons_succ]
                        refine wpAnyH_ready (rs := [10]) (by kernel_rfl) (by simp) ?_
                        refine AllReadyH.cons rfl (fun K hK => ?_) ?_
                        · go_simp
                          refine hK.out _ _ ?_ (fun hHeld => ?_)
                          · exact True.intro
                          clear hK K
                          try simp only [Act.put, List.setIfInBounds_toArray, List.set_cons_zero, List.set_cons_succ]
                          refine wpAnyH_done (by kernel_rfl) ?_ _
                          refine NoPanic.normal ?_
                          go_wp2
                          refine bodyPost_ret (v := .agg #[.slice (some ⟨gd, 0, none⟩) L L, .slice Av (P.length + 1) cv]) (by simp [results, Try.results73, go_sem, m, mr]) rfl ?_
                          have hl : (P ++ [(⟨(k : Int), y7⟩ : DSectorWrite)]).length = P.length + 1 := by simp
                          obtain ⟨zs, hzl, hzb⟩ := HDG.out.bytes
                          have hO1 : Only [bx] w' (w'.setCell ⟨bx, 1, none⟩ (.slice Av (P.length + 1) cv)) := (Only.refl _ _).setCell (fun _ => by simp) _
                          have hbs := (hzb.only hO1 (by simp; omega)).sl (by unfold maxLen; omega)
                          rw [hzl] at hbs
                          rw [← hl]
                          exact DiskD.close (wz := w'.setCell ⟨bx, 1, none⟩ (.slice Av (P.length + 1) cv)) hzl.symm hbs (by simp; omega) (by rw [hl]; exact HR.out.1.keep hO1 (fun g hg => .inl (by simp at hg; omega))) (by omega) (by rw [hzl]; exact hL3) (by rw [hl]; have := HPL.out; omega) (by intro x hx; rcases List.mem_append.1 hx with hx | hx; exact HPD.out x hx; simp at hx; subst hx; have := HL7.out; dsimp only; omega) (HDG.out.src.only hO1 (by simp; omega)) (by have := HM.out; omega) (HDG.out.only.then_ hO1 (fun g hg hl => by simp at hg; omega)) (by rw [hl]; repeat (first | with_reducible exact Only.refl _ _ | ((with_reducible apply Only.set); · simp))) hlt
                        exact AllReadyH.nil
                      exact AllReadyH.nil
                    exact AllReadyH.nil
                  refine AllReadyH.cons rfl (fun K hK => ?_) ?_
                  · go_simp
                    refine hK.out _ _ ?_ (fun hHeld => ?_)
                    · exact True.intro
                    clear hK K
                    try simp only [Act.put, List.setIfInBounds_toArray, List.set_cons_zero, List.set_cons_succ]
                    refine wpAnyH_ready (rs := [1]) (by kernel_rfl) (by simp) ?_
                    refine AllReadyH.cons rfl (fun K hK => ?_) ?_
                    · go_simp
                      refine hK.out _ _ ?_ (fun hHeld => ?_)
                      · exact True.intro
                      clear hK K
                      try simp only [Act.put, List.setIfInBounds_toArray, List.set_cons_zero, List.set_cons_succ]
                      refine wpAnyH_ready (rs := [8]) (by kernel_rfl) (by simp) ?_
                      refine AllReadyH.cons rfl (fun K hK => ?_) ?_
                      · refine step_append_own rfl _ _ 27 rfl nb 64 i0 (.agg #[.int .i64 0, .slice none 0 0]) 2 32 Try.underlying27 hi hz0 hz1 hz2 rfl (by decide) (.slice Ap P.length cp) P.length cs rfl HOWN.out ⟨w7.heap.size, 0, none⟩ 1 1 [.int .i64 (k : Int), .slice (some ⟨g7, 0, none⟩) 512 512] rfl rfl (cells_new' _ _ _ rfl) (by intro u hu; simp at hu; rcases hu with rfl | rfl <;> rfl) (by have := HPL.out; unfold maxLen; omega) (by have := HPL.out; omega) hle ?_
                        intro v' w' hown hgrow hnil hat
                        obtain ⟨Av, cv, rfl⟩ := ownsRow_form hown
                        have HDG := Lib.hid (HD8.out.below ((Below.refl nb _).grown hgrow hle (fun g hg => (HOWN.out.lt _ hg).1)) hbx)
                        have HR := Lib.hid (HAPP.out _ w' hown hgrow hat)
                        have m := fun o => cell_of_row _ _ o _ _ _ HDG.out.box
                        have f := fun o => frozen_of_row _ _ o _ _ HDG.out.box
                        have mr := fun o => cell_of_row _ _ o _ _ _ HDG.out.res
                        have fr := fun o => frozen_of_row _ _ o _ _ HDG.out.res
                        clear hown hgrow hnil hat
                        refine hK.out _ _ ?_ (fun hHeld => ?_)
                        · exact True.intro
                        clear hK K
                        try simp only [Act.put, List.setIfInBounds_toArray, List.set_cons_zero, List.set_cons_succ]
                        refine wpAnyH_take (i := 9) (v := ?_) rfl (by kernel_rfl) (by kernel_rfl) (by kernel_rfl) (fun _ _ _ h => h) (Or.inl ⟨by rfl, ?_⟩) (by assumption) ?_
                        rotate_left
                        · intro w hSw; (try dsimp only at hSw); go_simp <;> with_reducible rfl
                        try simp only [Act.put, List.setIfInBounds_toArray, List.set_cons_zero, List.set_cons_succ]
                        refine wpAnyH_ready (rs := [10]) (by kernel_rfl) (by simp) ?_
                        refine AllReadyH.cons rfl (fun K hK => ?_) ?_
                        · go_simp
                          refine hK.out _ _ ?_ (fun hHeld => ?_)
                          · exact True.intro
                          clear hK K
                          try simp only [Act.put, List.setIfInBounds_toArray, List.set_cons_zero, List.set_cons_succ]
                          refine wpAnyH_done (by kernel_rfl) ?_ _
                          refine NoPanic.normal ?_
                          go_wp2
                          refine bodyPost_ret (v := .agg #[.slice (some ⟨gd, 0, none⟩) L L, .slice Av (P.length + 1) cv]) (by simp [results, Try.results73, go_sem, m, mr]) rfl ?_
                          have hl : (P ++ [(⟨(k : Int), y7⟩ : DSectorWrite)]).length = P.length + 1 := by simp
                          obtain ⟨zs, hzl, hzb⟩ := HDG.out.bytes
                          have hO1 : Only [bx] w' (w'.setCell ⟨bx, 1, none⟩ (.slice Av (P.length + 1) cv)) := (Only.refl _ _).setCell (fun _ => by simp) _
                          have hbs := (hzb.only hO1 (by simp; omega)).sl (by unfold maxLen; omega)
                          rw [hzl] at hbs
                          rw [← hl]
                          exact DiskD.close (wz := w'.setCell ⟨bx, 1, none⟩ (.slice Av (P.length + 1) cv)) hzl.symm hbs (by simp; omega) (by rw [hl]; exact HR.out.1.keep hO1 (fun g hg => .inl (by simp at hg; omega))) (by omega) (by rw [hzl]; exact hL3) (by rw [hl]; have := HPL.out; omega) (by intro x hx; rcases List.mem_append.1 hx with hx | hx; exact HPD.out x hx; simp at hx; subst hx; have := HL7.out; dsimp only; omega) (HDG.out.src.only hO1 (by simp; omega)) (by have := HM.out; omega) (HDG.out.only.then_ hO1 (fun g hg hl => by simp at hg; omega)) (by rw [hl]; repeat (first | with_reducible exact Only.refl _ _ | ((with_reducible apply Only.set); · simp))) hlt
                        exact AllReadyH.nil
                      exact AllReadyH.nil
                    exact AllReadyH.nil
                  exact AllReadyH.nil
                exact AllReadyH.nil
              exact AllReadyH.nil
            exact AllReadyH.nil
          have b1 : ((x : Int) == 1) = false := by simp; omega
          by_cases h2 : x = 2
          · subst h2
            have HDQ := Lib.hid (HDC.out.ext ((Only.refl [] wC).drew))
            clear m f mr fr
            have m := fun o => cell_of_row _ _ o _ _ _ HDQ.out.box
            have f := fun o => frozen_of_row _ _ o _ _ HDQ.out.box
            obtain ⟨i0, hi, hz0, hz1, hz2⟩ := info_parts infoSW
            go_wp2_with fail
            have HOq := Lib.hid ((Only.refl [sb] wC).drew)
            refine wp_region_noPanic ?_
            refine wp_region_held_drew (S := (fun w' => True)) (by kernel_rfl) ?_ (fun hHeld => ?_)
            · exact True.intro
            refine wpAnyH_take (i := 0) (v := ?_) rfl (by kernel_rfl) (by kernel_rfl) (by kernel_rfl) (fun _ _ _ h => h) (Or.inl ⟨by rfl, ?_⟩) (by assumption) ?_
            rotate_left
            · intro w hSw; (try dsimp only at hSw); go_simp <;> with_reducible rfl
            try simp only [Act.put, List.setIfInBounds_toArray, List.set_cons_zero, List.set_cons_succ]
            refine wpAnyH_take (i := 2) (v := ?_) rfl (by kernel_rfl) (by kernel_rfl) (by kernel_rfl) (fun _ _ _ h => h) (Or.inl ⟨by rfl, ?_⟩) (by assumption) ?_
            rotate_left
            · intro w hSw; (try dsimp only at hSw); go_simp <;> with_reducible rfl
            try simp only [Act.put, List.setIfInBounds_toArray, List.set_cons_zero, List.set_cons_succ]
            refine wpAnyH_ready (rs := [1, 3]) (by kernel_rfl) (by simp) ?_
            refine AllReadyH.cons rfl (fun K hK => ?_) ?_
            · go_simp
              refine hK.out _ _ ?_ (fun hHeld => ?_)
              · exact True.intro
              clear hK K
              try simp only [Act.put, List.setIfInBounds_toArray, List.set_cons_zero, List.set_cons_succ]
              refine wpAnyH_ready (rs := [3]) (by kernel_rfl) (by simp) ?_
              refine AllReadyH.cons rfl (fun K hK => ?_) ?_
              · go_simp
                refine (l1Fill_calls sb (M + 1) _ HDQ.out.src (by have := HM.out; omega) 511 _ rfl (by decide)).mono ?_
                rintro e w7 ⟨y7, g7, rfl, HL7, HG7, HB7, HS7, HO7⟩
                have HD7 := Lib.hid (HDQ.out.more HO7.out HS7.out)
                have HOc := Lib.hid (HOq.out.trans HO7.out)
                have hE8 := alloc_ext w7 (.cells #[.int .i64 0, .slice (some ⟨g7, 0, none⟩) 511 511] 64)
                have HD8 := Lib.hid (HD7.out.ext hE8)
                have HB8 := Lib.hid (HB7.out.only hE8 (by simp))
                obtain ⟨cs, ho, hle, happ⟩ := Own.app HOE.out (HOc.out.alloc (.cells #[.int .i64 0, .slice (some ⟨g7, 0, none⟩) 511 511] 64)) (fun g hg => .inl (by simp at hg; omega)) (HB8.out.newIn (by have h1 := HG7.out; have h2 := HOq.out.size; (try simp only [World.drew] at h1 h2); omega)) (sw_new 0 rfl HB8.out HL7.out (by decide))
                have HAPP := Lib.hid happ
                have HOWN := Lib.hid ho
                clear hE8 happ ho
                have m := fun o => cell_of_row _ _ o _ _ _ HD7.out.box
                have f := fun o => frozen_of_row _ _ o _ _ HD7.out.box
                have mk := fun o => cell_of_row _ _ o _ _ _ HD8.out.box
                have fk := fun o => frozen_of_row _ _ o _ _ HD8.out.box
                go_wp2_with fail
                refine hK.out _ _ ?_ (fun hHeld => ?_)
                · exact True.intro
                clear hK K
                try simp only [Act.put, List.setIfInBounds_toArray, List.set_cons_zero, List.set_cons_succ]
                refine wpAnyH_take (i := 4) (v := ?_) rfl (by kernel_rfl) (by kernel_rfl) (by kernel_rfl) (fun _ _ _ h => h) (Or.inl ⟨by rfl, ?_⟩) (by assumption) ?_
                rotate_left
                · intro w hSw; (try dsimp only at hSw); go_simp <;> with_reducible rfl
                try simp only [Act.put, List.setIfInBounds_toArray, List.set_cons_zero, List.set_cons_succ]
                refine wpAnyH_ready (rs := [5]) (by kernel_rfl) (by simp) ?_
                refine AllReadyH.cons rfl (fun K hK => ?_) ?_
                · go_simp
                  refine hK.out _ _ ?_ (fun hHeld => ?_)
                  · exact True.intro
                  clear hK K
                  try simp only [Act.put, List.setIfInBounds_toArray, List.set_cons_zero, List.set_cons_succ]
                  refine wpAnyH_ready (rs := [6]) (by kernel_rfl) (by simp) ?_
                  refine AllReadyH.cons rfl (fun K hK => ?_) ?_
                  · refine step_append_own rfl _ _ 27 rfl nb 64 i0 (.agg #[.int .i64 0, .slice none 0 0]) 2 32 Try.underlying27 hi hz0 hz1 hz2 rfl (by decide) (.slice Ap P.length cp) P.length cs rfl HOWN.out ⟨w7.heap.size, 0, none⟩ 1 1 [.int .i64 0, .slice (some ⟨g7, 0, none⟩) 511 511] rfl rfl (cells_new' _ _ _ rfl) (by intro u hu; simp at hu; rcases hu with rfl | rfl <;> rfl) (by have := HPL.out; unfold maxLen; omega) (by have := HPL.out; omega) hle ?_
                    intro v' w' hown hgrow hnil hat
                    obtain ⟨Av, cv, rfl⟩ := ownsRow_form hown
                    have HDG := Lib.hid (HD8.out.below ((Below.refl nb _).grown hgrow hle (fun g hg => (HOWN.out.lt _ hg).1)) hbx)
                    have HR := Lib.hid (HAPP.out _ w' hown hgrow hat)
                    have m := fun o => cell_of_row _ _ o _ _ _ HDG.out.box
                    have f := fun o => frozen_of_row _ _ o _ _ HDG.out.box
                    have mr := fun o => cell_of_row _ _ o _ _ _ HDG.out.res
                    have fr := fun o => frozen_of_row _ _ o _ _ HDG.out.res
                    clear hown hgrow hnil hat
                    refine hK.out _ _ ?_ (fun hHeld => ?_)
                    · exact True.intro
                    clear hK K
                    try simp only [Act.put, List.setIfInBounds_toArray, List.set_cons_zero, List.set_cons_succ]
                    refine wpAnyH_take (i := 7) (v := ?_) rfl (by kernel_rfl) (by kernel_rfl) (by kernel_rfl) (fun _ _ _ h => h) (Or.inl ⟨by rfl, ?_⟩) (by assumption) ?_
                    rotate_left
                    · intro w hSw; (try dsimp only at hSw); go_simp <;> with_reducible rfl
                    try simp only [Act.put, List.setIfInBounds_toArray, List.set_cons_zero, List.set_cons_succ]
                    refine wpAnyH_ready (rs := [8]) (by kernel_rfl) (by simp) ?_
                    refine AllReadyH.cons rfl (fun K hK => ?_) ?_
                    · go_simp
                      refine hK.out _ _ ?_ (fun hHeld => ?_)
                      · exact True.intro
                      clear hK K
                      try simp only [Act.put, List.setIfInBounds_toArray, List.set_cons_zero, List.set_cons_succ]
                      refine wpAnyH_done (by kernel_rfl) ?_ _
                      refine NoPanic.normal ?_
                      go_wp2
                      refine bodyPost_ret (v := .agg #[.slice (some ⟨gd, 0, none⟩) L L, .slice Av (P.length + 1) cv]) (by simp [results, Try.results73, go_sem, m, mr]) rfl ?_
                      have hl : (P ++ [(⟨0, y7⟩ : DSectorWrite)]).length = P.length + 1 := by simp
                      obtain ⟨zs, hzl, hzb⟩ := HDG.out.bytes
                      have hO1 : Only [bx] w' (w'.setCell ⟨bx, 1, none⟩ (.slice Av (P.length + 1) cv)) := (Only.refl _ _).setCell (fun _ => by simp) _
                      have hbs := (hzb.only hO1 (by simp; omega)).sl (by unfold maxLen; omega)
                      rw [hzl] at hbs
                      rw [← hl]
                      exact DiskD.close (wz := w'.setCell ⟨bx, 1, none⟩ (.slice Av (P.length + 1) cv)) hzl.symm hbs (by simp; omega) (by rw [hl]; exact HR.out.1.keep hO1 (fun g hg => .inl (by simp at hg; omega))) (by omega) (by rw [hzl]; exact hL3) (by rw [hl]; have := HPL.out; omega) (by intro x hx; rcases List.mem_append.1 hx with hx | hx; exact HPD.out x hx; simp at hx; subst hx; have := HL7.out; dsimp only; omega) (HDG.out.src.only hO1 (by simp; omega)) (by have := HM.out; omega) (HDG.out.only.then_ hO1 (fun g hg hl => by simp at hg; omega)) (by rw [hl]; repeat (first | with_reducible exact Only.refl _ _ | ((with_reducible apply Only.set); · simp))) hlt
                    exact AllReadyH.nil
                  exact AllReadyH.nil
                exact AllReadyH.nil
              exact AllReadyH.nil
            refine AllReadyH.cons rfl (fun K hK => ?_) ?_
            · go_simp
              refine (l1Fill_calls sb (M + 1) _ HDQ.out.src (by have := HM.out; omega) 511 _ rfl (by decide)).mono ?_
              rintro e w7 ⟨y7, g7, rfl, HL7, HG7, HB7, HS7, HO7⟩
              have HD7 := Lib.hid (HDQ.out.more HO7.out HS7.out)
              have HOc := Lib.hid (HOq.out.trans HO7.out)
              have hE8 := alloc_ext w7 (.cells #[.int .i64 0, .slice (some ⟨g7, 0, none⟩) 511 511] 64)
              have HD8 := Lib.hid (HD7.out.ext hE8)
              have HB8 := Lib.hid (HB7.out.only hE8 (by simp))
              obtain ⟨cs, ho, hle, happ⟩ := Own.app HOE.out (HOc.out.alloc (.cells #[.int .i64 0, .slice (some ⟨g7, 0, none⟩) 511 511] 64)) (fun g hg => .inl (by simp at hg; omega)) (HB8.out.newIn (by have h1 := HG7.out; have h2 := HOq.out.size; (try simp only [World.drew] at h1 h2); omega)) (sw_new 0 rfl HB8.out HL7.out (by decide))
              have HAPP := Lib.hid happ
              have HOWN := Lib.hid ho
              clear hE8 happ ho
              have m := fun o => cell_of_row _ _ o _ _ _ HD7.out.box
              have f := fun o => frozen_of_row _ _ o _ _ HD7.out.box
              have mk := fun o => cell_of_row _ _ o _ _ _ HD8.out.box
              have fk := fun o => frozen_of_row _ _ o _ _ HD8.out.box
              go_wp2_with fail
              refine hK.out _ _ ?_ (fun hHeld => ?_)
              · exact True.intro
              clear hK K
              try simp only [Act.put, List.setIfInBounds_toArray, List.set_cons_zero, List.set_cons_succ]
              refine wpAnyH_take (i := 4) (v := ?_) rfl (by kernel_rfl) (by kernel_rfl) (by kernel_rfl) (fun _ _ _ h => h) (Or.inl ⟨by rfl, ?_⟩) (by assumption) ?_
              rotate_left
              · intro w hSw; (try dsimp only at hSw); go_simp <;> with_reducible rfl
              try simp only [Act.put, List.setIfInBounds_toArray, List.set_cons_zero, List.set_cons_succ]
              refine wpAnyH_ready (rs := [1, 5]) (by kernel_rfl) (by simp) ?_
              refine AllReadyH.cons rfl (fun K hK => ?_) ?_
              · go_simp
                refine hK.out _ _ ?_ (fun hHeld => ?_)
                · exact True.intro
                clear hK K
                try simp only [Act.put, List.setIfInBounds_toArray, List.set_cons_zero, List.set_cons_succ]
                refine wpAnyH_ready (rs := [5]) (by kernel_rfl) (by simp) ?_
                refine AllReadyH.cons rfl (fun K hK => ?_) ?_
                · go_simp
                  refine hK.out _ _ ?_ (fun hHeld => ?_)
                  · exact True.intro
                  clear hK K
                  try simp only [Act.put, List.setIfInBounds_toArray, List.set_cons_zero, List.set_cons_succ]
                  refine wpAnyH_ready (rs := [6]) (by kernel_rfl) (by simp) ?_
                  refine AllReadyH.cons rfl (fun K hK => ?_) ?_
                  · refine step_append_own rfl _ _ 27 rfl nb 64 i0 (.agg #[.int .i64 0, .slice none 0 0]) 2 32 Try.underlying27 hi hz0 hz1 hz2 rfl (by decide) (.slice Ap P.length cp) P.length cs rfl HOWN.out ⟨w7.heap.size, 0, none⟩ 1 1 [.int .i64 0, .slice (some ⟨g7, 0, none⟩) 511 511] rfl rfl (cells_new' _ _ _ rfl) (by intro u hu; simp at hu; rcases hu with rfl | rfl <;> rfl) (by have := HPL.out; unfold maxLen; omega) (by have := HPL.out; omega) hle ?_
                    intro v' w' hown hgrow hnil hat
                    obtain ⟨Av, cv, rfl⟩ := ownsRow_form hown
                    have HDG := Lib.hid (HD8.out.below ((Below.refl nb _).grown hgrow hle (fun g hg => (HOWN.out.lt _ hg).1)) hbx)
                    have HR := Lib.hid (HAPP.out _ w' hown hgrow hat)
                    have m := fun o => cell_of_row _ _ o _ _ _ HDG.out.box
                    have f := fun o => frozen_of_row _ _ o _ _ HDG.out.box
                    have mr := fun o => cell_of_row _ _ o _ _ _ HDG.out.res
                    have fr := fun o => frozen_of_row _ _ o _ _ HDG.out.res
                    clear hown hgrow hnil hat
                    refine hK.out _ _ ?_ (fun hHeld => ?_)
                    · exact True.intro
                    clear hK K
                    try simp only [Act.put, List.setIfInBounds_toArray, List.set_cons_zero, List.set_cons_succ]
                    refine wpAnyH_take (i := 7) (v := ?_) rfl (by kernel_rfl) (by kernel_rfl) (by kernel_rfl) (fun _ _ _ h => h) (Or.inl ⟨by rfl, ?_⟩) (by assumption) ?_
                    rotate_left
                    · intro w hSw; (try dsimp only at hSw); go_simp <;> with_reducible rfl
                    try simp only [Act.put, List.setIfInBounds_toArray, List.set_cons_zero, List.set_cons_succ]
                    refine wpAnyH_ready (rs := [8]) (by kernel_rfl) (by simp) ?_
                    refine AllReadyH.cons rfl (fun K hK => ?_) ?_
                    · go_simp
                      refine hK.out _ _ ?_ (fun hHeld => ?_)
                      · exact True.intro
                      clear hK K
                      try simp only [Act.put, List.setIfInBounds_toArray, List.set_cons_zero, List.set_cons_succ]
                      refine wpAnyH_done (by kernel_rfl) ?_ _
                      refine NoPanic.normal ?_
                      go_wp2
                      refine bodyPost_ret (v := .agg #[.slice (some ⟨gd, 0, none⟩) L L, .slice Av (P.length + 1) cv]) (by simp [results, Try.results73, go_sem, m, mr]) rfl ?_
                      have hl : (P ++ [(⟨0, y7⟩ : DSectorWrite)]).length = P.length + 1 := by simp
                      obtain ⟨zs, hzl, hzb⟩ := HDG.out.bytes
                      have hO1 : Only [bx] w' (w'.setCell ⟨bx, 1, none⟩ (.slice Av (P.length + 1) cv)) := (Only.refl _ _).setCell (fun _ => by simp) _
                      have hbs := (hzb.only hO1 (by simp; omega)).sl (by unfold maxLen; omega)
                      rw [hzl] at hbs
                      rw [← hl]
                      exact DiskD.close (wz := w'.setCell ⟨bx, 1, none⟩ (.slice Av (P.length + 1) cv)) hzl.symm hbs (by simp; omega) (by rw [hl]; exact HR.out.1.keep hO1 (fun g hg => .inl (by simp at hg; omega))) (by omega) (by rw [hzl]; exact hL3) (by rw [hl]; have := HPL.out; omega) (by intro x hx; rcases List.mem_append.1 hx with hx | hx; exact HPD.out x hx; simp at hx; subst hx; have := HL7.out; dsimp only; omega) (HDG.out.src.only hO1 (by simp; omega)) (by have := HM.out; omega) (HDG.out.only.then_ hO1 (fun g hg hl => by simp at hg; omega)) (by rw [hl]; repeat (first | with_reducible exact Only.refl _ _ | ((with_reducible apply Only.set); · simp))) hlt
                    exact AllReadyH.nil
                  exact AllReadyH.nil
                exact AllReadyH.nil
              refine AllReadyH.cons rfl (fun K hK => ?_) ?_
              · go_simp
                refine hK.out _ _ ?_ (fun hHeld => ?_)
                · exact True.intro
                clear hK K
                try simp only [Act.put, List.setIfInBounds_toArray, List.set_cons_zero, List.set_cons_succ]
                refine wpAnyH_ready (rs := [1]) (by kernel_rfl) (by simp) ?_
                refine AllReadyH.cons rfl (fun K hK => ?_) ?_
                · go_simp
                  refine hK.out _ _ ?_ (fun hHeld => ?_)
                  · exact True.intro
                  clear hK K
                  try simp only [Act.put, List.setIfInBounds_toArray, List.set_cons_zero, List.set_cons_succ]
                  refine wpAnyH_ready (rs := [6]) (by kernel_rfl) (by simp) ?_
                  refine AllReadyH.cons rfl (fun K hK => ?_) ?_
                  · refine step_append_own rfl _ _ 27 rfl nb 64 i0 (.agg #[.int .i64 0, .slice none 0 0]) 2 32 Try.underlying27 hi hz0 hz1 hz2 rfl (by decide) (.slice Ap P.length cp) P.length cs rfl HOWN.out ⟨w7.heap.size, 0, none⟩ 1 1 [.int .i64 0, .slice (some ⟨g7, 0, none⟩) 511 511] rfl rfl (cells_new' _ _ _ rfl) (by intro u hu; simp at hu; rcases hu with rfl | rfl <;> rfl) (by have := HPL.out; unfold maxLen; omega) (by have := HPL.out; omega) hle ?_
                    intro v' w' hown hgrow hnil hat
                    obtain ⟨Av, cv, rfl⟩ := ownsRow_form hown
                    have HDG := Lib.hid (HD8.out.below ((Below.refl nb _).grown hgrow hle (fun g hg => (HOWN.out.lt _ hg).1)) hbx)
                    have HR := Lib.hid (HAPP.out _ w' hown hgrow hat)
                    have m := fun o => cell_of_row _ _ o _ _ _ HDG.out.box
                    have f := fun o => frozen_of_row _ _ o _ _ HDG.out.box
                    have mr := fun o => cell_of_row _ _ o _ _ _ HDG.out.res
                    have fr := fun o => frozen_of_row _ _ o _ _ HDG.out.res
                    clear hown hgrow hnil hat
                    refine hK.out _ _ ?_ (fun hHeld => ?_)
                    · exact True.intro
                    clear hK K
                    try simp only [Act.put, List.setIfInBounds_toArray, List.set_cons_zero, List.set_cons_succ]
                    refine wpAnyH_take (i := 7) (v := ?_) rfl (by kernel_rfl) (by kernel_rfl) (by kernel_rfl) (fun _ _ _ h => h) (Or.inl ⟨by rfl, ?_⟩) (by assumption) ?_
                    rotate_left
                    · intro w hSw; (try dsimp only at hSw); go_simp <;> with_reducible rfl
                    try simp only [Act.put, List.setIfInBounds_toArray, List.set_cons_zero, List.set_cons_succ]
                    refine wpAnyH_ready (rs := [8]) (by kernel_rfl) (by simp) ?_
                    refine AllReadyH.cons rfl (fun K hK => ?_) ?_
                    · go_simp
                      refine hK.out _ _ ?_ (fun hHeld => ?_)
                      · exact True.intro
                      clear hK K
                      try simp only [Act.put, List.setIfInBounds_toArray, List.set_cons_zero, List.set_cons_succ]
                      refine wpAnyH_done (by kernel_rfl) ?_ _
                      refine NoPanic.normal ?_
                      go_wp2
                      refine bodyPost_ret (v := .agg #[.slice (some ⟨gd, 0, none⟩) L L, .slice Av (P.length + 1) cv]) (by simp [results, Try.results73, go_sem, m, mr]) rfl ?_
                      have hl : (P ++ [(⟨0, y7⟩ : DSectorWrite)]).length = P.length + 1 := by simp
                      obtain ⟨zs, hzl, hzb⟩ := HDG.out.bytes
                      have hO1 : Only [bx] w' (w'.setCell ⟨bx, 1, none⟩ (.slice Av (P.length + 1) cv)) := (Only.refl _ _).setCell (fun _ => by simp) _
                      have hbs := (hzb.only hO1 (by simp; omega)).sl (by unfold maxLen; omega)
                      rw [hzl] at hbs
                      rw [← hl]
                      exact DiskD.close (wz := w'.setCell ⟨bx, 1, none⟩ (.slice Av (P.length + 1) cv)) hzl.symm hbs (by simp; omega) (by rw [hl]; exact HR.out.1.keep hO1 (fun g hg => .inl (by simp at hg; omega))) (by omega) (by rw [hzl]; exact hL3) (by rw [hl]; have := HPL.out; omega) (by intro x hx; rcases List.mem_append.1 hx with hx | hx; exact HPD.out x hx; simp at hx; subst hx; have := HL7.out; dsimp only; omega) (HDG.out.src.only hO1 (by simp; omega)) (by have := HM.out; omega) (HDG.out.only.then_ hO1 (fun g hg hl => by simp at hg; omega)) (by rw [hl]; repeat (first | with_reducible exact Only.refl _ _ | ((with_reducible apply Only.set); · simp))) hlt
                    exact AllReadyH.nil
                  exact AllReadyH.nil
                exact AllReadyH.nil
              exact AllReadyH.nil
            exact AllReadyH.nil
          have b2 : ((x : Int) == 2) = false := by simp; omega
          by_cases h3 : x = 3
          · subst h3
            clear h0 h1 h2
            go_wp2
            refine bodyPost_ret (v := .agg #[.slice none 0 0, .slice Ap P.length cp]) (by simp [results, Try.results73, go_sem, m, mr]) rfl ?_
            have hO1 : Only [bx] wC (wC.setCell ⟨bx, 0, none⟩ (.slice none 0 0)) := (Only.refl _ _).setCell (fun _ => by simp) _
            exact DiskD.close (wz := wC.setCell ⟨bx, 0, none⟩ (.slice none 0 0)) (D := []) rfl (Rep.sl_nil (by simp)) (by simp) (HOE.out.keep hO1 (fun g hg => .inl (by simp at hg; omega))) (by omega) (by simp) (by have := HPL.out; omega) HPD.out (HDC.out.src.only hO1 (by simp; omega)) hMN (HDC.out.only.then_ hO1 (fun g hg hl => by simp at hg; omega)) (by repeat (first | with_reducible exact Only.refl _ _ | ((with_reducible apply Only.set); · simp))) hlt
          have b3 : ((x : Int) == 3) = false := by simp; omega
          clear h0 h1 h2 h3
          go_wp2
          refine bodyPost_ret (v := .agg #[.slice (some ⟨gd, 0, none⟩) L L, .slice Ap P.length cp]) (by simp [results, Try.results73, go_sem, m, mr]) rfl ?_
          have hbs := HYB.out.sl (by have := HYL.out; unfold maxLen; omega)
          rw [HYL.out] at hbs
          exact DiskD.close (wz := wC) HYL.out.symm hbs (by simp; omega) HOE.out (by omega) (by rw [HYL.out]; exact hL3) (by have := HPL.out; omega) HPD.out HDC.out.src hMN HDC.out.only (by repeat (first | with_reducible exact Only.refl _ _ | ((with_reducible apply Only.set); · simp))) hlt
end Go.Proofs.Ytdjcfcgkldokgaa
