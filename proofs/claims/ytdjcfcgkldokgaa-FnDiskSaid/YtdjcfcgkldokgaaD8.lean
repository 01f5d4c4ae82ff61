/- DiskCrash in both packages. -/
import Derived.Test.YtdjcfcgkldokgaaD7
import Derived.Test.YtdjcfcgkldokgaaI1
namespace Go.Proofs.Ytdjcfcgkldokgaa
open Go.RowKit
set_option linter.unusedSimpArgs false
set_option linter.unusedVariables false
def diskCrash (d : DDisk) (keep : List Int) : DDisk := if validDisk d then ⟨settleL d.Durable (kept (selOf false keep) d.Pending), []⟩ else d
/-- The durable bytes settled; the list of pending writes is nil; other blocks that are old stay. -/
def CrashPost (n o : Nat) (A : Option Addr) (c : Nat) (dur : List Int) (Fd : List Nat) (w : World) (e : Ending) (w' : World) : Prop :=
  e = .returned (.tuple #[]) ∧ Hid (∃ wm u, Only (n :: Fd) w wm ∧ (Rep.int .u8).sl wm A c dur Fd ∧ Unfr wm Fd ∧ (∀ cs t, w.heap[n]? = some (.cells cs t (0, 0)) → wm.heap[n]? = some (.cells (cs.setIfInBounds (o + 1) u) t (0, 0))) ∧ w' = wm.setCell ⟨n, o + 1, none⟩ (.slice none 0 0))
set_option maxRecDepth 100000 in
set_option maxHeartbeats 1000000 in
theorem specDiskCrash_post (w : World) (v : Value) (d : DDisk) (F : List Nat) (h : Rep.Disk.V w v d F) (K : Option Addr) (ck : Nat) (keep : List Int) (Fk : List Nat) (hk : (Rep.int .i64).sl w K ck keep Fk) (hs : wtDisk d ≤ 1048576) :
    Calls Try.prog 22 #[v, .slice K keep.length ck] w (DiskPost (diskCrash d keep) w) := by
  obtain ⟨_, ⟨A1, c1, F1, A2, c2, F2, rfl, rfl, hw, s1, s2⟩, rfl⟩ := id h
  have hu := Try.underlying29
  show Calls _ _ #[.agg #[_, _], _] _ _
  obtain ⟨R, hR⟩ : ∃ R, R = diskCrash d keep := ⟨_, rfl⟩
  rw [← hR]
  have HR := Lib.hid hR
  clear hR
  go_enter Try.func22, Try.ntmps22
  go_wp2_with fail
  refine (specValid_calls _ d _ _ ⟨_, ⟨A1, c1, _, A2, c2, _, rfl, rfl, hw, Rep.sl_ext s1 ((alloc_ext _ _).alloc _), Rep.sl_ext s2 ((alloc_ext _ _).alloc _)⟩, rfl⟩).mono ?_
  rintro e w1 ⟨rfl, hO⟩
  have HE1 := Lib.hid (Only.ext ((alloc_ext w _).alloc _) hO)
  have hb1 := Only.heap hO (heap_alloc2_old w _ _) (by simp)
  have hb2 := Only.heap hO (heap_alloc2_new w _ _) (by simp)
  have hz1 : w.heap.size + 2 ≤ w1.heap.size := by have := hO.size; simp at this; omega
  clear hO
  have m1 := fun o => cell_of_row _ _ o _ _ _ hb1
  have m2 := fun o => cell_of_row _ _ o _ _ _ hb2
  have f2 := fun o => frozen_of_row _ _ o _ _ hb2
  have HB2 := Lib.hid hb2
  clear hb1 hb2
  cases hvd : validDisk d
  · obtain rfl : R = d := by rw [HR.out, diskCrash, hvd]; rfl
    go_wp2_with fail
    refine (l1CopyDisk_calls _ R _ _ ⟨_, ⟨A1, c1, _, A2, c2, _, rfl, rfl, hw, Rep.sl_ext s1 HE1.out, Rep.sl_ext s2 HE1.out⟩, rfl⟩ hs).mono ?_
    rintro e w2 ⟨B, dd, pv, n, rfl, hD, hn, hE⟩
    obtain ⟨Ap, cp, rfl, -⟩ := hD.form
    have hb2 := hE.heap HB2.out (by simp)
    clear m1 m2 f2
    have m2 := fun o => cell_of_row _ _ o _ _ _ hb2
    have f2 := fun o => frozen_of_row _ _ o _ _ hb2
    have HE2 := Lib.hid (HE1.out.ext hE)
    have HD := Lib.hid hD
    clear hD hE hb2
    go_wp2
    refine bodyPost_ret (v := .agg #[.slice B R.Durable.length dd, .slice Ap R.Pending.length cp]) (by simp [results, Try.results22, go_sem, m2]) rfl ?_
    exact HD.out.handed (r := w.heap.size + 1) (((Only.refl _ _).setCell (by simp) _).setCell (by simp) _) (by omega) hn (by omega) ((HE2.out.setCell (by simp) _).setCell (by simp) _) rfl
  · have hRd : R = ⟨settleL d.Durable (kept (selOf false keep) d.Pending), []⟩ := by rw [HR.out, diskCrash, hvd]; rfl
    go_wp2_with fail
    refine (l1Settle_calls _ d _ _ ⟨_, ⟨A1, c1, _, A2, c2, _, rfl, rfl, hw, Rep.sl_ext s1 HE1.out, Rep.sl_ext s2 HE1.out⟩, rfl⟩ hvd false K ck keep _ (Rep.sl_ext hk HE1.out)).mono ?_
    rw [← hRd]
    clear hRd
    rintro e w2 ⟨B, dd, pv, n, rfl, hD, hn, hE⟩
    obtain ⟨Ap, cp, rfl, -⟩ := hD.form
    have hb2 := hE.heap HB2.out (by simp)
    clear m1 m2 f2
    have m2 := fun o => cell_of_row _ _ o _ _ _ hb2
    have f2 := fun o => frozen_of_row _ _ o _ _ hb2
    have HE2 := Lib.hid (HE1.out.ext hE)
    have HD := Lib.hid hD
    clear hD hE hb2
    go_wp2
    refine bodyPost_ret (v := .agg #[.slice B R.Durable.length dd, .slice Ap R.Pending.length cp]) (by simp [results, Try.results22, go_sem, m2]) rfl ?_
    exact HD.out.handed (r := w.heap.size + 1) (((Only.refl _ _).setCell (by simp) _).setCell (by simp) _) (by omega) hn (by omega) ((HE2.out.setCell (by simp) _).setCell (by simp) _) rfl
theorem ownsRow_sl {α : Type} {r : Rep α} {e : TypeId} {n : Nat} {w : World} {v : Value} {xs : List α} {cs : List Value} {G : List Nat} (h : w.ownsRow n e r.sz v xs.length cs) (hc : r.cells w xs cs G) : ∃ A c F, v = .slice A xs.length c ∧ r.sl w A c xs F ∧ ∀ b ∈ F, b ∈ G ∨ n ≤ b := by
  have h1 := h
  rcases h.2 with ⟨rfl, h0⟩ | ⟨g, cap, cur, rfl, hb, hgg, hn, hm, hsz, htake⟩
  · obtain rfl : xs = [] := List.eq_nil_of_length_eq_zero h0
    exact ⟨none, 0, [], rfl, Rep.sl_nil (by simp), by simp⟩
  · have hg := (Array.getElem?_eq_some_iff.1 hgg).1
    refine ⟨_, _, g :: G, rfl, ⟨hn, hm, .inr ⟨g, 0, G, cs, rfl, rfl, hg, hc, fun j u hu => ?_⟩⟩, fun b hb' => ?_⟩
    · have := h1.cells (g := g) rfl j u hu
      rwa [show (⟨g, 0, none⟩ : Addr).add j = ⟨g, 0 + j, none⟩ by unfold Addr.add; split <;> simp_all] at this
    · rcases List.mem_cons.1 hb' with rfl | hb'
      · exact .inr hb
      · exact .inl hb'
set_option maxRecDepth 100000 in
set_option maxHeartbeats 2000000 in
theorem crash_calls (n o : Nat) (A : Option Addr) (c : Nat) (dur : List Int) (Fd : List Nat) (Ap : Option Addr) (cp : Nat) (xs : List DSectorWrite) (G : List Nat) (w : World) (h0 : w.cell? ⟨n, o, none⟩ = some (.slice A dur.length c)) (h1 : w.cell? ⟨n, o + 1, none⟩ = some (.slice Ap xs.length cp)) (hf : ∀ j, w.frozen? ⟨n, j, none⟩ = false)
    (s1 : (Rep.int .u8).sl w A c dur Fd) (s2 : Rep.SectorWrite.sl w Ap cp xs G) (hU : Unfr w Fd) (hdis : ∀ b ∈ Fd, b ∉ G) (hn1 : n ∉ Fd) (hn2 : n ∉ G) (hall : xs.all (okW (dur.length / 512)) = true) (hh2 : 512 ≤ dur.length) (hh3 : dur.length ≤ 524288) (hh4 : xs.length ≤ 8192)
    (K : Option Addr) (ck : Nat) (keep : List Int) (Fk : List Nat) (hk : (Rep.int .i64).sl w K ck keep Fk) :
    Calls Try.prog 66 #[.pointer (some ⟨n, o, none⟩), .slice K keep.length ck] w (CrashPost n o A c (settleL dur (kept (selOf false keep) xs)) Fd w) := by
  have hu := Try.underlying29
  have hu2 := Try.underlying64
  obtain ⟨i0, hi, hz0, hz1, hz2⟩ := info_parts info64
  have hm2 := Nat.le_trans s2.1 s2.2.1
  have hmk := Nat.le_trans hk.1 hk.2.1
  unfold maxLen at hm2 hmk
  have HALL := Lib.hid hall
  have hnw : n < w.heap.size := World.block_lt_of_cell? _ _ h0
  have S1 := Lib.hid s1; have S2 := Lib.hid s2; have H0 := Lib.hid h0; have H1 := Lib.hid h1; have HK0 := Lib.hid hk; have HU := Lib.hid hU
  clear hall s1 s2 hk hU
  go_enter Try.func66, Try.ntmps66
  go_wp2
  go_loopg [12, 4] (xs.length) (fun m i l wr => ∃ (k : Nat) (cs : List Value) (Gk : List Nat), m + k = xs.length ∧ i = .int .i64 k ∧ Ext w wr ∧ wr.ownsRow w.heap.size 64 2 l (kept (selOf false keep) (xs.take k)).length cs ∧ Rep.SectorWrite.cells wr (kept (selOf false keep) (xs.take k)) cs Gk ∧ ∀ b ∈ Gk, b ∈ G)
  case atStart => exact ⟨0, [], [], by simp, rfl, Only.refl _ _, World.ownsRow_nil w w.heap.size 64 2, ⟨rfl, rfl⟩, by simp⟩
  case round =>
    obtain ⟨k, cs, Gk, hk, rfl, hO, hrow, hcells, hGk⟩ := hrel
    have HO := Lib.hid hO; have HK := Lib.hid hk; have HROW := Lib.hid hrow; have HC := Lib.hid hcells; have HGK := Lib.hid hGk
    have hzr := hO.size
    have hvf := hrow
    clear hO hk hrow hcells hGk
    have hkl0 : (kept (selOf false keep) (xs.take k)).length ≤ k := by
      unfold kept
      rw [List.length_map]
      refine Nat.le_trans (List.length_filter_le _ _) ?_
      simp; omega
    generalize hnk : (kept (selOf false keep) (xs.take k)).length = nk at *
    by_cases hlt : k < xs.length
    · obtain ⟨g, off, d, G1, hA, hg, hgG, hRx, hsub, hc⟩ := Rep.sl_at S2.out k hlt
      obtain ⟨A1, c1, F1, hd, hF1, hwf, t1⟩ := id hRx
      subst hA; subst hd; subst hF1
      have k0 := HO.out.ecell (hc 0 _ rfl)
      have k1 := HO.out.ecell (hc 1 _ rfl)
      simp only [show Rep.SectorWrite.sz = 2 from rfl, Nat.add_zero] at k0 k1
      rw [← Nat.add_assoc] at k1
      have hkt := kept_take (selOf false keep) xs k hlt
      have hRw := Rep.SectorWrite.keep hRx (fun b hb => HO.out.block b (Rep.sl_lt S2.out b (hsub b hb)) (by simp))
      clear hc hRx t1
      generalize hx : xs[k] = x at *
      have HX := Lib.hid hx; have HKT := Lib.hid hkt; have HRW := Lib.hid hRw
      clear hx hkt hRw
      have hcase : (selOf false keep k = true ∧ k < keep.length ∧ ∃ (gk ok : Nat) (y : Int), K = some ⟨gk, ok, none⟩ ∧ wr.cell? ⟨gk, ok + k, none⟩ = some (.int .i64 y) ∧ (y != 0) = true) ∨
          (selOf false keep k = false ∧ keep.length ≤ k) ∨ (selOf false keep k = false ∧ k < keep.length ∧ ∃ (gk ok : Nat) (y : Int), K = some ⟨gk, ok, none⟩ ∧ wr.cell? ⟨gk, ok + k, none⟩ = some (.int .i64 y) ∧ (y != 0) = false) := by
        by_cases hkl : k < keep.length
        · obtain ⟨gk, ok, e1, _, _, e3, _⟩ := Rep.sl_int (Rep.sl_ext HK0.out HO.out) k hkl
          have e4 : keep[k]?.getD 0 = keep[k] := by simp [hkl]
          by_cases hz : keep[k] = 0
          · exact .inr (.inr ⟨by simp [selOf, e4, hz], hkl, gk, ok, _, e1, e3, by simp [hz]⟩)
          · exact .inl ⟨by simp [selOf, e4, hz], hkl, gk, ok, _, e1, e3, by simp [hz]⟩
        · exact .inr (.inl ⟨by simp [selOf, List.getElem?_eq_none (Nat.le_of_not_lt hkl)], by omega⟩)
      rcases hcase with ⟨hsel, hkl, gk, ok, y, rfl, ky, hy⟩ | ⟨hsel, hkl⟩ | ⟨hsel, hkl, gk, ok, y, rfl, ky, hy⟩
      · have HSl := Lib.hid hsel
        have ky2 := (alloc_ext wr (.cells #[.int .i64 x.Sector, .slice A1 x.Data.length c1] 64)).ecell ky
        have HROW2 := Lib.hid (ownsRow_only HROW.out (((alloc_ext wr (.cells #[.int .i64 x.Sector, .slice A1 x.Data.length c1] 64)).alloc (.cells #[.int .i64 x.Sector, .slice A1 x.Data.length c1] 64))) (by simp))
        clear hsel
        go_wp2_with (at_builtin; go_must (refine wpList_append_own_at _ rfl _ _ 27 rfl w.heap.size 64 i0 _ 2 32 Try.underlying27 hi hz0 hz1 hz2 rfl (by decide) _ nk cs rfl HROW2.out ⟨wr.heap.size + 1, 0, none⟩ 1 1 [.int .i64 x.Sector, .slice A1 x.Data.length c1] rfl rfl (cells_new' _ _ _ (by simp)) (by intro u hu; simp at hu; rcases hu with rfl | rfl <;> rfl) (by unfold maxLen; omega) (by omega) (by simp; omega) ?_); intro v' w' hown hgrow hnil hat)
        go_roundg (xs.length - (k + 1))
        case measure => have := HK.out; omega
        case rel =>
          have hlt0 := HROW.out.lt
          have hOw' : Ext w w' := (HO.out.ext ((alloc_ext wr _).alloc _)).grown hgrow (fun g hg hlt => by have := (hlt0 g hg).1; omega)
          refine ⟨k + 1, cs ++ [.int .i64 x.Sector, .slice A1 x.Data.length c1], Gk ++ G1, by omega, by go_num, hOw', ?_, ?_, ?_⟩
          · rw [HKT.out, if_pos HSl.out, List.length_append, hnk]
            exact hown
          · rw [HKT.out, if_pos HSl.out]
            have hke : ∀ b, b < w.heap.size → w'.heap[b]? = wr.heap[b]? := fun b hb => (hOw'.block b hb (by simp)).trans (HO.out.block b hb (by simp)).symm
            exact Rep.cells_snoc (Rep.cells_keep HC.out fun b hb => hke b (Rep.sl_lt S2.out b (HGK.out b hb))) (Rep.SectorWrite.keep HRW.out fun b hb => hke b (Rep.sl_lt S2.out b (hsub b hb)))
          · intro b hb
            rcases List.mem_append.1 hb with hb | hb
            · exact HGK.out b hb
            · exact hsub b hb
      all_goals
        have HSl := Lib.hid hsel
        try have ky2 := (alloc_ext wr (.cells #[.int .i64 x.Sector, .slice A1 x.Data.length c1] 64)).ecell ky
        clear hsel
        go_wp2
        go_roundg (xs.length - (k + 1))
        case measure => have := HK.out; omega
        case rel =>
          have hE := alloc_ext wr (.cells #[.int .i64 x.Sector, .slice A1 x.Data.length c1] 64)
          refine ⟨k + 1, cs, Gk, by omega, by go_num, HO.out.ext hE, ?_, ?_, HGK.out⟩
          · rw [HKT.out, if_neg (by rw [HSl.out]; simp), List.append_nil, hnk]
            exact ownsRow_only HROW.out hE (by simp)
          · rw [HKT.out, if_neg (by rw [HSl.out]; simp), List.append_nil]
            exact Rep.cells_keep HC.out fun b hb => hE.block b (Rep.cells_lt HC.out b hb) (by simp)
    · have hk := HK.out
      have hrow := HROW.out; have hcl := HC.out
      have he : xs.take k = xs := List.take_of_length_le (by omega)
      rw [he] at hnk hcl
      rw [← hnk] at hrow
      obtain ⟨Al, cl, Fl, rfl, sl, hFl⟩ := ownsRow_sl hrow hcl
      have HSL := Lib.hid sl
      have hcn0 : wr.cell? ⟨n, o, none⟩ = some (.slice A dur.length c) := HO.out.ecell H0.out
      have hcn1 : wr.cell? ⟨n, o + 1, none⟩ = some (.slice Ap xs.length cp) := HO.out.ecell H1.out
      have hfn : ∀ j, wr.frozen? ⟨n, j, none⟩ = false := fun j => HO.out.efroz (p := ⟨n, j, none⟩) hnw (hf j)
      clear hrow hcl he
      generalize hkl : kept (selOf false keep) xs = ks at *
      have HKL := Lib.hid hkl
      clear hkl hnk
      go_wp2_with fail
      have hSt : Only [n] wr (wr.setCell ⟨n, o + 1, none⟩ (.slice Al ks.length cl)) := (Only.refl _ _).setCell (by simp) _
      have hg0 : (wr.setCell ⟨n, o + 1, none⟩ (.slice Al ks.length cl)).cell? ⟨n, o, none⟩ = some (.slice A dur.length c) := by
        rw [World.cell?_setCell_other _ _ _ _ (by intro e; injection e; omega)]; exact hcn0
      have hg1 : (wr.setCell ⟨n, o + 1, none⟩ (.slice Al ks.length cl)).cell? ⟨n, o + 1, none⟩ = some (.slice Al ks.length cl) := World.cell?_setCell_same _ _ _ hcn1
      have hgf : ∀ j, (wr.setCell ⟨n, o + 1, none⟩ (.slice Al ks.length cl)).frozen? ⟨n, j, none⟩ = false := fun j => by rw [World.frozen?_setCell]; exact hfn j
      have hok : ks.all (okW (dur.length / 512)) = true := by
        rw [← HKL.out, List.all_eq_true]
        exact fun x hx => List.all_eq_true.1 HALL.out x (kept_mem hx)
      have hFd : ∀ b ∈ Fd, b < w.heap.size := fun b hb => Rep.sl_lt S1.out b hb
      have hdF : ∀ b ∈ Fd, b ∉ Fl := fun b hb hb' => by
        rcases hFl b hb' with h | h
        · exact hdis b hb (HGK.out b h)
        · have := hFd b hb; omega
      have hnFl : n ∉ Fl := fun hb => by
        rcases hFl n hb with h | h
        · exact hn2 (HGK.out n h)
        · omega
      have hS1 := Rep.sl_only (Rep.sl_ext S1.out HO.out) hSt (fun b hb hb' => hn1 (by simp at hb'; exact hb' ▸ hb))
      have hU1 := Unfr.only (Unfr.ext HU.out HO.out hFd) hSt (fun b hb => by have := hFd b hb; omega) (fun b hb hb' => hn1 (by simp at hb'; exact hb' ▸ hb))
      have hSl := Rep.sl_only HSL.out hSt (fun b hb hb' => hnFl (by simp at hb'; exact hb' ▸ hb))
      refine (settle_calls n o A c dur Fd Al cl ks Fl _ hg0 hg1 hgf hS1 hSl hU1 hdF hn1 hok hh2 hh3).mono ?_
      rintro e w3 ⟨rfl, wm, hO3, q, hum, hw3⟩
      have HFIN : Hid (∃ wm u, Only (n :: Fd) w wm ∧ (Rep.int .u8).sl wm A c (settleL dur ks) Fd ∧ Unfr wm Fd ∧ (∀ cs t, w.heap[n]? = some (.cells cs t (0, 0)) → wm.heap[n]? = some (.cells (cs.setIfInBounds (o + 1) u) t (0, 0))) ∧ w3 = wm.setCell ⟨n, o + 1, none⟩ (.slice none 0 0)) :=
        ⟨wm, .slice Al ks.length cl, ((HO.out.more (G := n :: Fd) (by simp)).trans (hSt.more (fun b hb _ => by simp at hb; simp [hb]))).trans (hO3.more (fun b hb _ => by simp [hb])), q, hum, fun cs t hh => hO3.heap (heap_setCell_same _ _ (o + 1) _ _ _ (HO.out.heap hh (by simp))) hn1, hw3⟩
      clear hw3 hO3 q hum hSt hg0 hg1 hgf hS1 hU1 hSl
      go_wp2
      refine bodyPost_ret (v := .tuple #[]) (by simp [results, Try.results66, go_sem]) rfl ?_
      exact ⟨rfl, HFIN.out⟩
end Go.Proofs.Ytdjcfcgkldokgaa
