/- The reference's l3Set, PageGet. -/
import Derived.Test.YtghgjddiheebeaaDoorY5
import Derived.Deep.RegionHeld3
namespace Go.Proofs.YtghgjddiheebeaaDoor
open Go.RowKit
set_option linter.unusedSimpArgs false
set_option linter.unusedVariables false
theorem Wf.well {p : List Int} (h : Wf p) : wellF p = true := wellF_iff.2 h.zero
theorem Buf.of_new {w : World} {A : Option Addr} {c : Nat} {xs : List Int} {F : List Nat} (h : (Rep.int .u8).sl w A c xs F) (hu : Unfr w F) (h0 : 0 < xs.length) : ∃ g off, A = some ⟨g, off, none⟩ ∧ F = [g] ∧ Buf w g off c xs := by
  obtain ⟨g, off, rfl, rfl, -⟩ := sl_splice (ys := []) h hu 0 (by simp) h0 (by simp)
  exact ⟨g, off, rfl, rfl, h, hu⟩
/-- A number laid over the buffer: copy(out[p:], PutNumber(v, n)). -/
theorem sl_all {w : World} {g off c : Nat} {xs : List Int} {F : List Nat} (h : (Rep.int .u8).sl w (some ⟨g, off, none⟩) c xs F) :
    ∀ j v, (xs.map (Value.int .u8))[j]? = some v → w.cell? ((⟨g, off, none⟩ : Addr).add j) = some v := by
  have := sl_src h 0 xs.length
  simpa using this
theorem step_copy_buf {P : Program} {ops : Array Oper} {o : Oper} {a : Act} {w : World} {Kn : Act → World → Prop} {Q : Exit → Act → World → Prop} {E : Prop} (hgd : o.guard = none) (d s : Operand) (dT sT : TypeId)
    (ho : o.op = .call { callee := .builtin .copy, args := #[d, s], argTypes := #[dT, sT] }) (elem : TypeId) (hu : P.underlying dT = some (.slice elem)) (hsz : (P.info? elem).map (·.size) = some 1)
    (dp sp : Option Addr) (dLen dCap sLen sCap : Nat) (hd : a.eval d = .slice dp dLen dCap) (hs : a.eval s = .slice sp sLen sCap)
    {g off c : Nat} {xs ys : List Int} (h : Buf w g off c xs) (p : Nat) (hy : ∀ y ∈ ys, (Lit.int .u8 y).wf = true) (hp : p + ys.length ≤ xs.length) (hn : ys.length = Nat.min sLen dLen)
    (hpos : 0 < ys.length → dp = some ⟨g, off + p, none⟩ ∧ ∃ ad, sp = some ad ∧ ∀ j v, (ys.map (Value.int .u8))[j]? = some v → w.cell? (ad.add j) = some v)
    (K : ∀ w', Buf w' g off c (splice xs p ys) → Only [g] w w' → Kn (a.put o.dst (goInt ys.length)) w') : if Region.wanted o (yielded ops a.tmps) = true then Oper.wp P o a w Kn Q else E := by
  have hw : Region.wanted o (yielded ops a.tmps) = true := by simp [Region.wanted, hgd]
  by_cases h0 : ys.length = 0
  · obtain rfl : ys = [] := List.eq_nil_of_length_eq_zero h0
    rw [if_pos hw]
    have hrun := run_copy_none (P := P) w dT sT o.type elem dp sp dLen dCap sLen sCap hu hsz (by simpa using hn.symm)
    unfold Oper.wp
    simp [execOp, ho, resolve, invoke, builtin, hd, hs, hrun, Result.andThen]
    rw [splice_nil] at K
    exact K w h (Only.refl _ _)
  · obtain ⟨rfl, ad, rfl, hsrc⟩ := hpos (by omega)
    obtain ⟨g', off', e, -, -, hin, hfr, h1, h2⟩ := sl_splice (ys := ys) h.sl h.un p hp (by omega) hy
    injection e with e
    injection e with e1 e2
    subst e1; subst e2
    have := step_copy_to (P := P) (w := w) (ops := ops) (o := o) (a := a) (K := Kn) (Q := Q) (E := E) hgd d s dT sT ho elem hu hsz g (off + p) dLen dCap ad sLen sCap hd hs (ys.map (.int .u8)) (by rw [List.length_map]; exact hn) hsrc (fun j hj => hin j (by simpa using hj)) (fun j hj => hfr _) (ints_cells1 _)
    rw [List.length_map] at this
    exact this (K _ ⟨h1, h2⟩ ((Only.refl [g] w).cells (fun _ => by simp) _ _))
set_option maxRecDepth 100000 in
set_option maxHeartbeats 4000000 in
theorem l3Set_calls (w : World) (g off c : Nat) (xs : List Int) (h : Buf w g off c xs) (hl : xs.length = 4096) (i a n : Nat) (iz az nz : Int) (hiz : iz = i) (haz : az = a) (hnz : nz = n) (hi : i < 32) (ha : a < 65536) (hn : n < 65536) :
    Calls Tryd.prog 53 #[.slice (some ⟨g, off, none⟩) 4096 c, .int .i64 iz, .int .i64 az, .int .i64 nz] w fun e w' => e = .returned (.tuple #[]) ∧ Buf w' g off c (splice (splice xs (20 + 4 * i) (beL 2 a)) (20 + 4 * i + 2) (beL 2 n)) ∧ Only [g] w w' := by
  subst hiz; subst haz; subst hnz
  obtain ⟨i0, hi0, hz0, hz1, hz2⟩ := info_parts info5
  have HSZ := Lib.hid (show (Tryd.prog.info? 5).map (·.size) = some 1 by rw [hi0]; simp [hz1])
  have hc := h.sl.1
  rw [hl] at hc
  obtain ⟨a1, ha1⟩ : ∃ x : Nat, x = 20 + 4 * i := ⟨_, rfl⟩
  obtain ⟨a2, ha2⟩ : ∃ x : Nat, x = a1 + 2 := ⟨_, rfl⟩
  rw [← ha1, ← ha2]
  have HGL := Lib.hid h.lt
  have HBF := Lib.hid h; have HL := Lib.hid hl
  have g1 : IntKind.i64.wrap (4 * (i : Int)) = 4 * (i : Int) := by rw [IntKind.wrap_i64]; omega
  have g2 : IntKind.i64.wrap (20 + 4 * (i : Int)) = (a1 : Int) := by rw [IntKind.wrap_i64]; omega
  have g2' : IntKind.i64.wrap (4 * (i : Int) + 20) = (a1 : Int) := by rw [IntKind.wrap_i64]; omega
  have g3 : IntKind.i64.wrap ((a1 : Int) + 2) = (a2 : Int) := by rw [IntKind.wrap_i64]; omega
  have g4 : (a1 : Int) ≤ 4096 := by omega
  have g5 : (a2 : Int) ≤ 4096 := by omega
  have g6 : (4096 - (a1 : Int)).toNat = 4096 - a1 := by omega
  have g7 : (4096 - (a2 : Int)).toNat = 4096 - a2 := by omega
  have g8 : ¬ c = a1 := by omega
  have g9 : ¬ c = a2 := by omega
  have HA := Lib.hid (show a1 + 4 ≤ 4096 ∧ a2 = a1 + 2 from by omega)
  have HLT := Lib.hid (And.intro ha hn)
  have HL1 := Lib.hid (show (splice xs a1 (beL 2 a)).length = 4096 by rw [splice_len _ _ _ (by rw [beL_length]; omega), hl])
  clear hi0 hz0 hz1 hz2 i0 h hl ha1 ha2 ha hn
  go_enter Tryd.func53, Tryd.ntmps53
  go_wp2_with fail
  go_region_held3 (fun w' => True)
    (first | go_keep | exact trivial)
    (first
      | (go_at_call 54; refine (putNumber_calls _ 2 a _ _ rfl rfl (by decide) (by decide) (by have := HLT.out.1; omega) (by have := HLT.out.1; omega)).mono ?_; rintro e w2 ⟨B2, rfl, hB2, hb2, hE2⟩)
      | (refine step_copy_buf rfl (.tmp 12) (.tmp 14) 22 22 rfl 5 Tryd.underlying22 HSZ.out _ _ (4096 - a1) _ 2 2 rfl rfl (HBF.out.ext ((Only.refl [] w).drew.ext hE2)) a1 (ys := beL 2 a) (byte_wf (beL_byte 2 a)) (by rw [beL_length, HL.out]; have := HA.out; omega) (by rw [beL_length]; have := HA.out; exact (Nat.min_eq_left (by omega)).symm) (fun hpos => ⟨rfl, _, rfl, sl_all hb2.sl⟩) ?_; intro w3 hb3 hO3))
  have HB3 := Lib.hid hb3
  have HO3 := Lib.hid (show Only [g] w w3 from (((Only.refl [] w).drew.ext hE2).more (by simp)).trans hO3)
  clear hb3 hO3 hE2 hb2 hB2
  go_wp2_with fail
  go_region_held3 (fun w' => True)
    (first | go_keep | exact trivial)
    (first
      | (go_at_call 54; refine (putNumber_calls _ 2 n _ _ rfl rfl (by decide) (by decide) (by have := HLT.out.2; omega) (by have := HLT.out.2; omega)).mono ?_; rintro e w5 ⟨B5, rfl, hB5, hb5, hE5⟩)
      | (refine step_copy_buf rfl (.tmp 21) (.tmp 23) 22 22 rfl 5 Tryd.underlying22 HSZ.out _ _ (4096 - a2) _ 2 2 rfl rfl (HB3.out.ext ((Only.refl [] _).drew.ext hE5)) a2 (ys := beL 2 n) (byte_wf (beL_byte 2 n)) (by rw [beL_length, HL1.out]; have := HA.out; omega) (by rw [beL_length]; have := HA.out; exact (Nat.min_eq_left (by omega)).symm) (fun hpos => ⟨rfl, _, rfl, sl_all hb5.sl⟩) ?_; intro w6 hb6 hO6))
  have HB6 := Lib.hid hb6
  have HO6 := Lib.hid (show Only [g] w w6 from (HO3.out.ext ((Only.refl [] _).drew.ext hE5)).trans hO6)
  clear hb6 hO6 hE5 hb5 hB5
  go_wp2
  go_end0
  exact ⟨rfl, HB6.out, HO6.out⟩
set_option maxRecDepth 100000 in
set_option maxHeartbeats 4000000 in
theorem pageGet_none (w : World) (g off c : Nat) (p : List Int) (F : List Nat) (h : (Rep.int .u8).sl w (some ⟨g, off, none⟩) c p F) (hw : Wf p) (i : Nat) (hi : i < 32) (ho : slO p i = 0) :
    Calls Tryd.prog 52 #[.slice (some ⟨g, off, none⟩) 4096 c, .int .i64 i] w fun e w' => e = .returned (.agg #[.bool false, .slice none 0 0]) ∧ Ext w w' := by
  have hu := Tryd.underlying33
  have hu2 := Tryd.underlying73
  have HOW := Lib.hid (fun W (hW : Ext w W) => by
    have h := l3Own_calls W _ c p F (Rep.sl_ext h hW)
    rw [hw.len, hw.well] at h
    exact h)
  have HSL := Lib.hid (fun W (hW : Ext w W) => l3Slots_cells W g off c p F (Rep.sl_ext h hW) hw.len)
  have HB := Lib.hid (heap_alloc_new w (.cells #[.bool false, .slice none 0 0] 33))
  have HE0 := Lib.hid (alloc_ext w (.cells #[.bool false, .slice none 0 0] 33))
  have k1 : ¬ (i : Int) < 0 := by omega
  have k2 : ¬ (32 : Int) ≤ (i : Int) := by omega
  have k2' : ¬ 32 ≤ i := by omega
  have k3 : (i : Int) < 32 := by omega
  have k4 : (0 : Int) ≤ (i : Int) := by omega
  have k5 : (i : Int).toNat = i := by omega
  have HO := Lib.hid ho; have HI := Lib.hid hi
  clear h hw ho
  go_enter Tryd.func52, Tryd.ntmps52
  go_wp2_with (first
    | (go_at_call 50; refine (HOW.out _ HE0.out).mono ?_; rintro e w1 ⟨rfl, hE⟩; have HB1 := Lib.hid (hE.heap HB.out (by simp)); have HE1 := Lib.hid (HE0.out.ext hE); clear hE)
    | (go_at_call 58; refine (HSL.out _ HE1.out).mono ?_; rintro e w2 ⟨Bs, zs, cps, rfl, hB1, hB2, hcp, hcell, hE⟩; have hci := hcell i HI.out; have d1 := hci.1; have d2 := hci.2; rw [HO.out] at d1; clear hci hcell; have hb2 := hE.heap HB1.out (by simp); have hb3 := (alloc_ext w2 (.cells #[.int .i64 0, .int .i64 (slN p i)] 73)).heap hb2 (by simp); have m := fun o => cell_of_row _ _ o _ _ _ hb3; have f := fun o => frozen_of_row _ _ o _ _ hb3; have HB2 := Lib.hid hb2; have HE2 := Lib.hid (HE1.out.ext hE); clear hE hb2 hb3 hB1 hB2))
  refine bodyPost_ret (v := .agg #[.bool false, .slice none 0 0]) (by simp [results, Tryd.results52, go_sem, m]) rfl ?_
  exact ⟨rfl, by repeat (first | with_reducible exact HE2.out | ((with_reducible apply Only.set); · first | (simp; done) | exact fun hq => absurd hq (by dsimp only; omega)) | (with_reducible apply Only.alloc))⟩
set_option maxRecDepth 100000 in
set_option maxHeartbeats 4000000 in
theorem pageGet_some (w : World) (g off c : Nat) (p : List Int) (F : List Nat) (h : (Rep.int .u8).sl w (some ⟨g, off, none⟩) c p F) (hw : Wf p) (i : Nat) (hi : i < 32) (ho : slO p i ≠ 0) (nn : Nat) (hnn : slN p i = nn) :
    Calls Tryd.prog 52 #[.slice (some ⟨g, off, none⟩) 4096 c, .int .i64 i] w fun e w' => ∃ A5 c5 F5, e = .returned (.agg #[.bool true, .slice A5 nn c5]) ∧ (Rep.int .u8).sl w' A5 c5 (cDat p i) F5 ∧ Ext w w' := by
  have hu := Tryd.underlying33
  have hu2 := Tryd.underlying73
  have hpc := h.1
  rw [hw.len] at hpc
  obtain ⟨q1, q2, q3, q4, q5, q6, q7⟩ := hw.slot i hi
  obtain ⟨oo, hoo⟩ := Int.eq_ofNat_of_zero_le q1
  have HOW := Lib.hid (fun W (hW : Ext w W) => by
    have h := l3Own_calls W _ c p F (Rep.sl_ext h hW)
    rw [hw.len, hw.well] at h
    exact h)
  have HSL := Lib.hid (fun W (hW : Ext w W) => l3Slots_cells W g off c p F (Rep.sl_ext h hW) hw.len)
  have HB := Lib.hid (heap_alloc_new w (.cells #[.bool false, .slice none 0 0] 33))
  have HE0 := Lib.hid (alloc_ext w (.cells #[.bool false, .slice none 0 0] 33))
  have hdl := hw.dat i hi
  rw [hnn] at hdl
  simp only [Int.toNat_natCast] at hdl
  have hdat : cDat p i = (p.drop oo).take nn := by rw [cDat, hoo, hnn]; rfl
  have HCP : Hid (∀ W, Ext w W → ∀ A', (A' = if c = oo then some (⟨g, off, none⟩ : Addr) else some ⟨g, off + oo, none⟩) → Calls Tryd.prog 51 #[.slice A' nn (c - oo)] W (NewPost (Rep.int .u8).slice (cDat p i) W)) := by
    intro W hW A' hA'
    have hs : ∃ F', (Rep.int .u8).sl W A' (c - oo) (cDat p i) F' := by
      by_cases hco : c = oo
      · have hn0 : nn = 0 := by omega
        have : cDat p i = [] := List.eq_nil_of_length_eq_zero (by omega)
        rw [this]
        exact ⟨[], Rep.sl_nil (by have := h.2.1; omega)⟩
      · rw [hA', if_neg hco, hdat]
        exact ⟨F, sl_sub (Rep.sl_ext h hW) (by intro e; have := hw.len; rw [e] at this; simp at this) oo nn (by have := hw.len; omega)⟩
    obtain ⟨F', hs⟩ := hs
    have := l1Copy_calls A' (c - oo) (cDat p i) F' W hs (by omega)
    rw [hdl] at this
    exact this
  have HC0 : Hid (c = oo → ∀ W A' cc, cc ≤ maxLen → Calls Tryd.prog 51 #[.slice A' nn cc] W (NewPost (Rep.int .u8).slice (cDat p i) W)) := by
    intro hco W A' cc hcc
    have hn0 : nn = 0 := by omega
    have e : cDat p i = [] := List.eq_nil_of_length_eq_zero (by omega)
    rw [e, hn0]
    exact l1Copy_calls A' cc [] [] W (Rep.sl_nil hcc) (by simp)
  have HMX := Lib.hid (show c ≤ maxLen from h.2.1)
  have k1 : ¬ (i : Int) < 0 := by omega
  have k2 : ¬ (32 : Int) ≤ (i : Int) := by omega
  have k2' : ¬ 32 ≤ i := by omega
  have k3 : (i : Int) < 32 := by omega
  have k4 : (0 : Int) ≤ (i : Int) := by omega
  have k5 : (i : Int).toNat = i := by omega
  have o1 : ((oo : Int) == 0) = false := by simp; omega
  have o1' : (oo == 0) = false := by simp; omega
  have o1n : ¬ oo = 0 := by omega
  have e2 : IntKind.i64.wrap ((oo : Int) + (nn : Int)) = (oo : Int) + (nn : Int) := by rw [IntKind.wrap_i64]; omega
  have e3 : ((oo : Int) + (nn : Int)).toNat = oo + nn := by omega
  have e4 : ((oo : Int) + (nn : Int) - (oo : Int)).toNat = nn := by omega
  have e5 : (oo : Int) ≤ (oo : Int) + (nn : Int) := by omega
  have e6 : (oo : Int) + (nn : Int) ≤ (c : Int) := by omega
  have e9 : oo + nn - oo = nn := by omega
  have HO := Lib.hid hoo; have HI := Lib.hid hi; have HNN := Lib.hid hnn; have HDL := Lib.hid hdl
  by_cases hco : c = oo
  rotate_left
  · have HA' := Lib.hid hco
    clear h hw ho q1 q2 q3 q4 q5 q6 q7 hoo hnn hdl hdat HC0
    go_enter Tryd.func52, Tryd.ntmps52
    go_wp2_with (first
      | (go_at_call 50; refine (HOW.out _ HE0.out).mono ?_; rintro e w1 ⟨rfl, hE⟩; have HB1 := Lib.hid (hE.heap HB.out (by simp)); have HE1 := Lib.hid (HE0.out.ext hE); clear hE)
      | (go_at_call 58; refine (HSL.out _ HE1.out).mono ?_; rintro e w2 ⟨Bs, zs, cps, rfl, hB1, hB2, hcp, hcell, hE⟩; have hci := hcell i HI.out; have d1 := hci.1; have d2 := hci.2; rw [HO.out] at d1; rw [HNN.out] at d2; clear hci hcell; have hb2 := hE.heap HB1.out (by simp); have HB2 := Lib.hid hb2; have HE2 := Lib.hid (HE1.out.ext hE); have HB2L := Lib.hid hB2; clear hE hb2 hB1 hB2)
      | (go_at_call 51; refine (HCP.out _ (HE2.out.alloc _) _ (if_neg HA'.out).symm).mono ?_; rintro e w3 ⟨v5, G5, rfl, hV5, hN5⟩; obtain ⟨A5, c5, rfl, q5⟩ := Rep.slice_V hV5; rw [HDL.out]; have hb3 := hN5.ext.heap ((alloc_ext _ _).heap HB2.out (by simp)) (by simp); have m := fun o => cell_of_row _ _ o _ _ _ hb3; have f := fun o => frozen_of_row _ _ o _ _ hb3; have HN := Lib.hid hN5; have HQ := Lib.hid q5; have HE3 := Lib.hid ((HE2.out.alloc _).ext hN5.ext); clear hV5 hN5 q5 hb3))
    refine bodyPost_ret (v := .agg #[.bool true, .slice A5 nn c5]) (by simp [results, Tryd.results52, go_sem, m]) rfl ?_
    have hO : Only [w.heap.size] w3 ((w3.setCell ⟨w.heap.size, 0, none⟩ (.bool true)).setCell ⟨w.heap.size, 1, none⟩ (.slice A5 nn c5)) := by repeat (first | with_reducible exact Only.refl _ _ | ((with_reducible apply Only.set); · first | (simp; done) | exact fun hq => absurd hq (by dsimp only; omega)))
    have hz0 : w.heap.size + 1 ≤ w2.heap.size := by have h1 := (Array.getElem?_eq_some_iff.1 HB2.out).1; omega
    have hd : ∀ b ∈ G5, b ∉ [w.heap.size] := fun b hb' hm => by have := HN.out.new b hb'; simp at hm this; omega
    exact ⟨A5, c5, G5, rfl, Rep.sl_only HQ.out hO hd, HE3.out.then_ hO (fun g hg hlt => by simp at hg; omega)⟩
  · have HC1 := Lib.hid (HC0.out hco)
    clear h hw ho q1 q2 q3 q4 q5 q6 q7 hoo hnn hdl hdat HC0 HCP
    subst hco
    go_enter Tryd.func52, Tryd.ntmps52
    go_wp2_with (first
      | (go_at_call 50; refine (HOW.out _ HE0.out).mono ?_; rintro e w1 ⟨rfl, hE⟩; have HB1 := Lib.hid (hE.heap HB.out (by simp)); have HE1 := Lib.hid (HE0.out.ext hE); clear hE)
      | (go_at_call 58; refine (HSL.out _ HE1.out).mono ?_; rintro e w2 ⟨Bs, zs, cps, rfl, hB1, hB2, hcp, hcell, hE⟩; have hci := hcell i HI.out; have d1 := hci.1; have d2 := hci.2; rw [HO.out] at d1; rw [HNN.out] at d2; clear hci hcell; have hb2 := hE.heap HB1.out (by simp); have HB2 := Lib.hid hb2; have HE2 := Lib.hid (HE1.out.ext hE); have HB2L := Lib.hid hB2; clear hE hb2 hB1 hB2)
      | (go_at_call 51; refine (HC1.out _ _ _ (by have := HMX.out; omega)).mono ?_; rintro e w3 ⟨v5, G5, rfl, hV5, hN5⟩; obtain ⟨A5, c5, rfl, q5⟩ := Rep.slice_V hV5; rw [HDL.out]; have hb3 := hN5.ext.heap ((alloc_ext _ _).heap HB2.out (by simp)) (by simp); have m := fun o => cell_of_row _ _ o _ _ _ hb3; have f := fun o => frozen_of_row _ _ o _ _ hb3; have HN := Lib.hid hN5; have HQ := Lib.hid q5; have HE3 := Lib.hid ((HE2.out.alloc _).ext hN5.ext); clear hV5 hN5 q5 hb3))
    refine bodyPost_ret (v := .agg #[.bool true, .slice A5 nn c5]) (by simp [results, Tryd.results52, go_sem, m]) rfl ?_
    have hO : Only [w.heap.size] w3 ((w3.setCell ⟨w.heap.size, 0, none⟩ (.bool true)).setCell ⟨w.heap.size, 1, none⟩ (.slice A5 nn c5)) := by repeat (first | with_reducible exact Only.refl _ _ | ((with_reducible apply Only.set); · first | (simp; done) | exact fun hq => absurd hq (by dsimp only; omega)))
    have hz0 : w.heap.size + 1 ≤ w2.heap.size := by have h1 := (Array.getElem?_eq_some_iff.1 HB2.out).1; omega
    have hd : ∀ b ∈ G5, b ∉ [w.heap.size] := fun b hb' hm => by have := HN.out.new b hb'; simp at hm this; omega
    exact ⟨A5, c5, G5, rfl, Rep.sl_only HQ.out hO hd, HE3.out.then_ hO (fun g hg hlt => by simp at hg; omega)⟩
end Go.Proofs.YtghgjddiheebeaaDoor
