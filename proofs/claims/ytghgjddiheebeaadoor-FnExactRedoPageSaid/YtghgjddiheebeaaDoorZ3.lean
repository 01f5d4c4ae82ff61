/- PageSet: the program's, a good change. -/
import Derived.Test.YtghgjddiheebeaaDoorZ2
namespace Go.Proofs.YtghgjddiheebeaaDoor
open Go.RowKit
set_option linter.unusedSimpArgs false
set_option linter.unusedVariables false
set_option maxRecDepth 100000 in
set_option maxHeartbeats 16000000 in
theorem implSet_good (w : World) (g0 off0 cp : Nat) (p : List Int) (F : List Nat) (h : (Rep.int .u8).sl w (some ⟨g0, off0, none⟩) cp p F) (hw : Wf p) (s l : Nat) (u : Bool) (A : Option Addr) (cA : Nat) (d : List Int) (FA : List Nat) (hd : (Rep.int .u8).sl w A cA d FA)
    (hs : s < 32) (hl : l ≤ 1099511627776) (hn : d.length ≤ 1000) (hu : u = true ∨ d.length = 0) :
    Calls Tryd.prog 20 #[.slice (some ⟨g0, off0, none⟩) 4096 cp, .int .i64 s, .agg #[.bool u, .slice A d.length cA], .int .i64 l] w (NewPost Rep.PageResult (if (3948 : Int) < (sumN p 32 : Int) - slN p s + d.length then ⟨2, []⟩ else ⟨0, setPage p s u d l⟩) w) := by
  have hun := Tryd.underlying33
  have hun2 := Tryd.underlying31
  have HE0 := Lib.hid ((alloc_ext w (.cells #[.bool u, .slice A d.length cA] 33)).ext (alloc_ext _ (.cells #[.int .i64 0, .slice none 0 0] 31)))
  have HB1 := Lib.hid ((alloc_ext (w.alloc (.cells #[.bool u, .slice A d.length cA] 33)) (.cells #[.int .i64 0, .slice none 0 0] 31)).heap (heap_alloc_new w (.cells #[.bool u, .slice A d.length cA] 33)) (by simp))
  have HB2 := Lib.hid (heap_at (w.alloc (.cells #[.bool u, .slice A d.length cA] 33)) (.cells #[.int .i64 0, .slice none 0 0] 31) (k := w.heap.size + 1) (by simp))
  have a1 : ¬ (s : Int) < 0 := by omega
  have a2 : ¬ 32 ≤ (s : Int) := by omega
  have a2' : ¬ 32 ≤ s := by omega
  have a3 : ¬ (l : Int) < 0 := by omega
  have a4 : ¬ 1099511627776 < (l : Int) := by omega
  have a4' : ¬ 1099511627776 < l := by omega
  have a5 : ¬ (1000 : Int) < (d.length : Int) := by omega
  have a5' : ¬ 1000 < d.length := by omega
  have HWF := Lib.hid (fun W (hW : Ext w W) => by
    have h := wellFormed_calls W _ cp p F (Rep.sl_ext h hW)
    rw [hw.len, hw.well] at h
    exact h)
  obtain ⟨q1, q2, q3, q4, q5, q6, q7⟩ := hw.slot s hs
  obtain ⟨nn, hnn⟩ := Int.eq_ofNat_of_zero_le q2
  obtain ⟨oo, hoo⟩ := Int.eq_ofNat_of_zero_le q1
  have HSO := Lib.hid (fun W (hW : Ext w W) => by
    have h := slotOf_calls W g0 off0 cp p F (Rep.sl_ext h hW) hw.len s hs
    rw [hnn, hoo] at h
    exact h)
  have HUO := Lib.hid (fun W (hW : Ext w W) => usedOf_calls W g0 off0 cp p F (Rep.sl_ext h hW) hw)
  have HCL := Lib.hid (fun W (hW : Ext w W) => by
    have h := Clone_calls (some ⟨g0, off0, none⟩) cp p F W (Rep.sl_ext h hW) (by rw [hw.len]; omega)
    rw [hw.len] at h
    exact h)
  have hsm := sumN_le p hw 32 (Nat.le_refl _)
  have HPL := Lib.hid hw.len
  have HDA := Lib.hid hd
  have HBW := Lib.hid (hw.base s hs)
  have HBB := Lib.hid (hw.base_bot s hs)
  have hsum := hw.base_sum s hs 32 (Nat.le_refl _)
  rw [if_pos hs, hnn] at hsum
  simp only [Int.toNat_natCast] at hsum
  rw [hnn]
  obtain ⟨n, hnd⟩ : ∃ n, n = d.length := ⟨_, rfl⟩
  have HND := Lib.hid hnd
  obtain ⟨P1, hP1⟩ : ∃ P, P = setBase p s := ⟨_, rfl⟩
  rw [← hP1] at HBW HBB hsum
  have HP1 := Lib.hid (show P1 = splice p (20 + 4 * s) (beL 4 0) from hP1)
  have HP1' := Lib.hid hP1
  generalize sumN p 32 = sm at *
  have e1 : IntKind.i64.wrap ((sm : Int) - (nn : Int)) = (sm : Int) - (nn : Int) := by rw [IntKind.wrap_i64]; omega
  have e2 : IntKind.i64.wrap ((sm : Int) - (nn : Int) + (n : Int)) = (sm : Int) - (nn : Int) + (n : Int) := by rw [IntKind.wrap_i64]; omega
  rw [← hnd] at hn hu a5 a5' HB1 HB2 HE0 ⊢
  by_cases hbig : (3948 : Int) < (sm : Int) - (nn : Int) + (n : Int)
  · rw [if_pos hbig]
    clear h hw hd q1 q2 q3 q4 q5 q6 q7 hnn hoo hnd hP1 hsum hsm
    cases u
    case false =>
      have n0 : ¬ 0 < n := fun h0 => by have := hu.resolve_left (by simp); omega
      have n0' : ¬ (0 : Int) < (n : Int) := by omega
      go_enter Tryd.func20, Tryd.ntmps20
      go_wp2_with (first
        | (go_at_call 55; refine (HWF.out _ HE0.out).mono ?_; rintro e w1 ⟨rfl, hE⟩; have hb1 := hE.heap HB1.out (by simp); have m1 := fun o => cell_of_row _ _ o _ _ _ hb1; have HB1' := Lib.hid hb1; have HB2' := Lib.hid (hE.heap HB2.out (by simp)); have HE1 := Lib.hid (HE0.out.ext hE); clear hE hb1)
        | (go_at_call 61; refine (HSO.out _ HE1.out).mono ?_; rintro e w2 ⟨rfl, hE⟩; clear m1; have HB1s := Lib.hid (hE.heap HB1'.out (by simp)); have HB2s := Lib.hid (hE.heap HB2'.out (by simp)); have HE2 := Lib.hid (HE1.out.ext hE); clear hE))
      have x1 : w2.cell? ⟨w.heap.size, 1, none⟩ = some (.slice A n cA) := cell_of_row _ _ 1 _ _ _ HB1s.out
      refine region_ext (by kernel_rfl) (by kernel_rfl) ?_
      repeat (first
        | (refine WQ.skip (by rfl) ?_
           try simp only [Act.put, List.setIfInBounds_toArray, List.set_cons_zero, List.set_cons_succ])
        | (refine WQ.take ?_ (by rfl) (fun w' hw => ?_) ?_
           rotate_left
           · have cq0 := hw.ecell x1
             unfold Oper.quietAt
             go_simp
             first
               | done
               | exact ⟨rfl, rfl⟩
               | exact rfl
           try simp only [Act.put, List.setIfInBounds_toArray, List.set_cons_zero, List.set_cons_succ])
        | (refine WQ.take ((.int .i64 sm)) (by rfl) (fun w' hw => ?_) ?_
           · unfold Oper.quietAt
             go_simp
             go_at_call 62
             exact ((HUO.out _ (HE2.out.ext hw)).mono (fun e w5 h5 => ⟨h5.1, hw.ext h5.2⟩))
           try simp only [Act.put, List.setIfInBounds_toArray, List.set_cons_zero, List.set_cons_succ]))
      refine WQ.nil ?_
      intro w3 hw3
      have HE3 := Lib.hid (HE2.out.ext hw3); have HB13 := Lib.hid (hw3.heap HB1s.out (by simp)); have HB23 := Lib.hid (hw3.heap HB2s.out (by simp))
      clear hw3 x1
      have m := fun o => cell_of_row _ _ o _ _ _ HB23.out
      have f := fun o => frozen_of_row _ _ o _ _ HB23.out
      go_wp2
      refine bodyPost_ret (v := .agg #[.int .i64 2, .slice none 0 0]) (by simp [results, Tryd.results20, go_sem, m]) rfl ?_
      exact psRes_code rfl (by repeat (first | with_reducible exact HE3.out | ((with_reducible apply Only.set); · first | (simp; done) | exact fun hq => absurd hq (by dsimp only; omega))))
    case true =>
      go_enter Tryd.func20, Tryd.ntmps20
      go_wp2_with (first
        | (go_at_call 55; refine (HWF.out _ HE0.out).mono ?_; rintro e w1 ⟨rfl, hE⟩; have hb1 := hE.heap HB1.out (by simp); have m1 := fun o => cell_of_row _ _ o _ _ _ hb1; have HB1' := Lib.hid hb1; have HB2' := Lib.hid (hE.heap HB2.out (by simp)); have HE1 := Lib.hid (HE0.out.ext hE); clear hE hb1)
        | (go_at_call 61; refine (HSO.out _ HE1.out).mono ?_; rintro e w2 ⟨rfl, hE⟩; clear m1; have HB1s := Lib.hid (hE.heap HB1'.out (by simp)); have HB2s := Lib.hid (hE.heap HB2'.out (by simp)); have HE2 := Lib.hid (HE1.out.ext hE); clear hE))
      have x1 : w2.cell? ⟨w.heap.size, 1, none⟩ = some (.slice A n cA) := cell_of_row _ _ 1 _ _ _ HB1s.out
      refine region_ext (by kernel_rfl) (by kernel_rfl) ?_
      repeat (first
        | (refine WQ.skip (by rfl) ?_
           try simp only [Act.put, List.setIfInBounds_toArray, List.set_cons_zero, List.set_cons_succ])
        | (refine WQ.take ?_ (by rfl) (fun w' hw => ?_) ?_
           rotate_left
           · have cq0 := hw.ecell x1
             unfold Oper.quietAt
             go_simp
             first
               | done
               | exact ⟨rfl, rfl⟩
               | exact rfl
           try simp only [Act.put, List.setIfInBounds_toArray, List.set_cons_zero, List.set_cons_succ])
        | (refine WQ.take ((.int .i64 sm)) (by rfl) (fun w' hw => ?_) ?_
           · unfold Oper.quietAt
             go_simp
             go_at_call 62
             exact ((HUO.out _ (HE2.out.ext hw)).mono (fun e w5 h5 => ⟨h5.1, hw.ext h5.2⟩))
           try simp only [Act.put, List.setIfInBounds_toArray, List.set_cons_zero, List.set_cons_succ]))
      refine WQ.nil ?_
      intro w3 hw3
      have HE3 := Lib.hid (HE2.out.ext hw3); have HB13 := Lib.hid (hw3.heap HB1s.out (by simp)); have HB23 := Lib.hid (hw3.heap HB2s.out (by simp))
      clear hw3 x1
      have m := fun o => cell_of_row _ _ o _ _ _ HB23.out
      have f := fun o => frozen_of_row _ _ o _ _ HB23.out
      go_wp2
      refine bodyPost_ret (v := .agg #[.int .i64 2, .slice none 0 0]) (by simp [results, Tryd.results20, go_sem, m]) rfl ?_
      exact psRes_code rfl (by repeat (first | with_reducible exact HE3.out | ((with_reducible apply Only.set); · first | (simp; done) | exact fun hq => absurd hq (by dsimp only; omega))))
  rw [if_neg hbig]
  have HROOM := Lib.hid (HBW.out.room n (by omega))
  clear h hw hd q1 q2 q3 q4 q5 q6 q7 hnn hoo hnd hP1 hsum hsm
  have HSZ := Lib.hid (show (Tryd.prog.info? 5).map (·.size) = some 1 by
    obtain ⟨i0, hi0, hz0, hz1, hz2⟩ := info_parts info5
    rw [hi0]; simp [hz1])
  cases u
  case false =>
    have n0 : ¬ 0 < n := fun h0 => by have := hu.resolve_left (by simp); omega
    have n0' : ¬ (0 : Int) < (n : Int) := by omega
    go_enter Tryd.func20, Tryd.ntmps20
    go_wp2_with (first
      | (go_at_call 55; refine (HWF.out _ HE0.out).mono ?_; rintro e w1 ⟨rfl, hE⟩; have hb1 := hE.heap HB1.out (by simp); have m1 := fun o => cell_of_row _ _ o _ _ _ hb1; have HB1' := Lib.hid hb1; have HB2' := Lib.hid (hE.heap HB2.out (by simp)); have HE1 := Lib.hid (HE0.out.ext hE); clear hE hb1)
      | (go_at_call 61; refine (HSO.out _ HE1.out).mono ?_; rintro e w2 ⟨rfl, hE⟩; clear m1; have HB1s := Lib.hid (hE.heap HB1'.out (by simp)); have HB2s := Lib.hid (hE.heap HB2'.out (by simp)); have HE2 := Lib.hid (HE1.out.ext hE); clear hE))
    have x1 : w2.cell? ⟨w.heap.size, 1, none⟩ = some (.slice A n cA) := cell_of_row _ _ 1 _ _ _ HB1s.out
    refine region_ext (by kernel_rfl) (by kernel_rfl) ?_
    repeat (first
      | (refine WQ.skip (by rfl) ?_
         try simp only [Act.put, List.setIfInBounds_toArray, List.set_cons_zero, List.set_cons_succ])
      | (refine WQ.take ?_ (by rfl) (fun w' hw => ?_) ?_
         rotate_left
         · have cq0 := hw.ecell x1
           unfold Oper.quietAt
           go_simp
           first
             | done
             | exact ⟨rfl, rfl⟩
             | exact rfl
         try simp only [Act.put, List.setIfInBounds_toArray, List.set_cons_zero, List.set_cons_succ])
      | (refine WQ.take ((.int .i64 sm)) (by rfl) (fun w' hw => ?_) ?_
         · unfold Oper.quietAt
           go_simp
           go_at_call 62
           exact ((HUO.out _ (HE2.out.ext hw)).mono (fun e w5 h5 => ⟨h5.1, hw.ext h5.2⟩))
         try simp only [Act.put, List.setIfInBounds_toArray, List.set_cons_zero, List.set_cons_succ]))
    refine WQ.nil ?_
    intro w3 hw3
    have HE3 := Lib.hid (HE2.out.ext hw3); have HB13 := Lib.hid (hw3.heap HB1s.out (by simp)); have HB23 := Lib.hid (hw3.heap HB2s.out (by simp))
    clear hw3 x1
    obtain ⟨a1, ha1⟩ : ∃ x : Nat, x = 20 + 4 * s := ⟨_, rfl⟩
    obtain ⟨a2, ha2⟩ : ∃ x : Nat, x = a1 + 2 := ⟨_, rfl⟩
    have g1 : IntKind.i64.wrap (4 * (s : Int)) = 4 * (s : Int) := by rw [IntKind.wrap_i64]; omega
    have g2 : IntKind.i64.wrap (20 + 4 * (s : Int)) = (a1 : Int) := by rw [IntKind.wrap_i64]; omega
    have g2' : IntKind.i64.wrap (4 * (s : Int) + 20) = (a1 : Int) := by rw [IntKind.wrap_i64]; omega
    have g3 : IntKind.i64.wrap ((a1 : Int) + 2) = (a2 : Int) := by rw [IntKind.wrap_i64]; omega
    have g4 : (a1 : Int) ≤ 4096 := by omega
    have g5 : (a2 : Int) ≤ 4096 := by omega
    have g6 : (4096 - (a1 : Int)).toNat = 4096 - a1 := by omega
    have g7 : (4096 - (a2 : Int)).toNat = 4096 - a2 := by omega
    have g8' : ¬ 4096 = a1 := by omega
    have g9' : ¬ 4096 = a2 := by omega
    have g12 : IntKind.u64.wrap (l : Int) = (l : Int) := wrap_u64 _ (by omega) (by omega)
    have g13 : IntKind.u16.wrap (n : Int) = (n : Int) := wrap_u16 _ (by omega) (by omega)
    have HA := Lib.hid (show a1 = 20 + 4 * s ∧ a2 = a1 + 2 ∧ a1 + 4 ≤ 4096 from by omega)
    have HL := Lib.hid (show l ≤ 1099511627776 ∧ n ≤ 1000 from by omega)
    have HL1 := Lib.hid (show P1.length = 4096 from HBW.out.len)
    clear ha1 ha2 hl hn hs
    go_wp2_with (go_at_call 63; refine (HCL.out _ HE3.out).mono ?_; rintro e w4 ⟨v4, G4, rfl, hV4, hN4⟩; obtain ⟨A4, c4, rfl, q4⟩ := Rep.slice_V hV4; rw [HPL.out]; obtain ⟨B, b0, rfl, rfl, hb4⟩ := Buf.of_new q4 hN4.unfr (by rw [HPL.out]; omega); have PS4 := Lib.hid (show PS w w4 _ _ B b0 c4 p from ⟨hb4, HE3.out.ext hN4.ext, by have h1 := (Array.getElem?_eq_some_iff.1 HB23.out).1; have h2 := hN4.new B (by simp); omega, hN4.ext.heap HB13.out (by simp), hN4.ext.heap HB23.out (by simp)⟩); clear hV4 hN4 q4 hb4)
    have hc4 := PS4.out.buf.sl.1
    rw [HPL.out] at hc4
    have g8 : ¬ c4 = a1 := by have := HA.out; omega
    have g9 : ¬ c4 = a2 := by have := HA.out; omega
    have g10 : ¬ c4 = 16 := by omega
    have g11 : ¬ c4 = 4 := by omega
    have HC4 := Lib.hid hc4
    clear hc4
    go_wp2_with fail
    refine region_tail 4 (by kernel_rfl) (by kernel_rfl) ?_
    simp only [List.take_succ_cons, List.take_zero, List.drop_succ_cons, List.drop_zero]
    repeat (first
      | (refine WQ.skip (by rfl) ?_
         try simp only [Act.put, List.setIfInBounds_toArray, List.set_cons_zero, List.set_cons_succ])
      | (refine WQ.take ?_ (by rfl) (fun w' hw => ?_) ?_
         rotate_left
         · unfold Oper.quietAt
           go_simp
           first
             | done
             | exact ⟨rfl, rfl⟩
             | exact rfl
         try simp only [Act.put, List.setIfInBounds_toArray, List.set_cons_zero, List.set_cons_succ]))
    refine WQ.nil ?_
    intro w5 hw5
    have PS5 := Lib.hid (PS4.out.more hw5)
    clear hw5
    go_wp2_with (go_at_call 64; refine (Buf.putU32 PS5.out.buf _ _ a1 _ rfl (by have := HA.out; rw [HPL.out]; omega) (by have := HA.out; omega) 0 (by decide)).mono ?_; rintro e w6 ⟨rfl, hb6, hO6⟩; have y0 := cell_of_row _ _ 0 _ _ _ (PS5.out.write hb6 hO6).box; simp only [List.getElem?_toArray, List.getElem?_cons_succ, List.getElem?_cons_zero] at y0)
    have PS6 := Lib.hid (show PS w w6 _ _ B b0 c4 P1 from by have h := PS5.out.write hb6 hO6; rw [HA.out.1, ← HP1.out] at h; exact h)
    clear hb6 hO6
    have HSP := Lib.hid (show setPage p s false d l = splice P1 4 (beL 8 l) by rw [setPage, if_neg (by simp), ← HP1'.out]; rfl)
    go_wp2_with fail
    refine region_tail 5 (by kernel_rfl) (by kernel_rfl) ?_
    simp only [List.take_succ_cons, List.take_zero, List.drop_succ_cons, List.drop_zero]
    repeat (first
      | (refine WQ.skip (by rfl) ?_
         try simp only [Act.put, List.setIfInBounds_toArray, List.set_cons_zero, List.set_cons_succ])
      | (refine WQ.take ?_ (by rfl) (fun w' hw => ?_) ?_
         rotate_left
         · unfold Oper.quietAt
           go_simp
           first
             | done
             | exact ⟨rfl, rfl⟩
             | exact rfl
         try simp only [Act.put, List.setIfInBounds_toArray, List.set_cons_zero, List.set_cons_succ]))
    refine WQ.nil ?_
    intro wa hwa
    have PSa := Lib.hid (PS6.out.more hwa)
    clear hwa
    go_wp2_with (go_at_call 67; refine (Buf.putU64 PSa.out.buf _ _ 4 _ (by simp) (by rw [HL1.out]; omega) (by omega) l (by have := HL.out; omega)).mono ?_; rintro e wb ⟨rfl, hbb, hOb⟩; have m := fun o => cell_of_row _ _ o _ _ _ (PSa.out.write hbb hOb).res; have f := fun o => frozen_of_row _ _ o _ _ (PSa.out.write hbb hOb).res)
    have PSb := Lib.hid (PSa.out.write hbb hOb)
    clear hbb hOb
    refine bodyPost_ret (v := .agg #[.int .i64 0, .slice (some ⟨B, b0, none⟩) 4096 c4]) (by simp [results, Tryd.results20, go_sem, m]) rfl ?_
    rw [HSP.out]
    exact psRes_new PSb.out (by rw [splice_len _ _ _ (by rw [beL_length, HL1.out]; omega), HL1.out]) (by repeat (first | with_reducible exact Only.refl _ _ | ((with_reducible apply Only.set); · first | (simp; done) | exact fun hq => absurd hq (by dsimp only; omega))))
  case true =>
    go_enter Tryd.func20, Tryd.ntmps20
    go_wp2_with (first
      | (go_at_call 55; refine (HWF.out _ HE0.out).mono ?_; rintro e w1 ⟨rfl, hE⟩; have hb1 := hE.heap HB1.out (by simp); have m1 := fun o => cell_of_row _ _ o _ _ _ hb1; have HB1' := Lib.hid hb1; have HB2' := Lib.hid (hE.heap HB2.out (by simp)); have HE1 := Lib.hid (HE0.out.ext hE); clear hE hb1)
      | (go_at_call 61; refine (HSO.out _ HE1.out).mono ?_; rintro e w2 ⟨rfl, hE⟩; clear m1; have HB1s := Lib.hid (hE.heap HB1'.out (by simp)); have HB2s := Lib.hid (hE.heap HB2'.out (by simp)); have HE2 := Lib.hid (HE1.out.ext hE); clear hE))
    have x1 : w2.cell? ⟨w.heap.size, 1, none⟩ = some (.slice A n cA) := cell_of_row _ _ 1 _ _ _ HB1s.out
    refine region_ext (by kernel_rfl) (by kernel_rfl) ?_
    repeat (first
      | (refine WQ.skip (by rfl) ?_
         try simp only [Act.put, List.setIfInBounds_toArray, List.set_cons_zero, List.set_cons_succ])
      | (refine WQ.take ?_ (by rfl) (fun w' hw => ?_) ?_
         rotate_left
         · have cq0 := hw.ecell x1
           unfold Oper.quietAt
           go_simp
           first
             | done
             | exact ⟨rfl, rfl⟩
             | exact rfl
         try simp only [Act.put, List.setIfInBounds_toArray, List.set_cons_zero, List.set_cons_succ])
      | (refine WQ.take ((.int .i64 sm)) (by rfl) (fun w' hw => ?_) ?_
         · unfold Oper.quietAt
           go_simp
           go_at_call 62
           exact ((HUO.out _ (HE2.out.ext hw)).mono (fun e w5 h5 => ⟨h5.1, hw.ext h5.2⟩))
         try simp only [Act.put, List.setIfInBounds_toArray, List.set_cons_zero, List.set_cons_succ]))
    refine WQ.nil ?_
    intro w3 hw3
    have HE3 := Lib.hid (HE2.out.ext hw3); have HB13 := Lib.hid (hw3.heap HB1s.out (by simp)); have HB23 := Lib.hid (hw3.heap HB2s.out (by simp))
    clear hw3 x1
    obtain ⟨a1, ha1⟩ : ∃ x : Nat, x = 20 + 4 * s := ⟨_, rfl⟩
    obtain ⟨a2, ha2⟩ : ∃ x : Nat, x = a1 + 2 := ⟨_, rfl⟩
    have g1 : IntKind.i64.wrap (4 * (s : Int)) = 4 * (s : Int) := by rw [IntKind.wrap_i64]; omega
    have g2 : IntKind.i64.wrap (20 + 4 * (s : Int)) = (a1 : Int) := by rw [IntKind.wrap_i64]; omega
    have g2' : IntKind.i64.wrap (4 * (s : Int) + 20) = (a1 : Int) := by rw [IntKind.wrap_i64]; omega
    have g3 : IntKind.i64.wrap ((a1 : Int) + 2) = (a2 : Int) := by rw [IntKind.wrap_i64]; omega
    have g4 : (a1 : Int) ≤ 4096 := by omega
    have g5 : (a2 : Int) ≤ 4096 := by omega
    have g6 : (4096 - (a1 : Int)).toNat = 4096 - a1 := by omega
    have g7 : (4096 - (a2 : Int)).toNat = 4096 - a2 := by omega
    have g8' : ¬ 4096 = a1 := by omega
    have g9' : ¬ 4096 = a2 := by omega
    have g12 : IntKind.u64.wrap (l : Int) = (l : Int) := wrap_u64 _ (by omega) (by omega)
    have g13 : IntKind.u16.wrap (n : Int) = (n : Int) := wrap_u16 _ (by omega) (by omega)
    have HA := Lib.hid (show a1 = 20 + 4 * s ∧ a2 = a1 + 2 ∧ a1 + 4 ≤ 4096 from by omega)
    have HL := Lib.hid (show l ≤ 1099511627776 ∧ n ≤ 1000 from by omega)
    have HL1 := Lib.hid (show P1.length = 4096 from HBW.out.len)
    clear ha1 ha2 hl hn hs
    go_wp2_with (go_at_call 63; refine (HCL.out _ HE3.out).mono ?_; rintro e w4 ⟨v4, G4, rfl, hV4, hN4⟩; obtain ⟨A4, c4, rfl, q4⟩ := Rep.slice_V hV4; rw [HPL.out]; obtain ⟨B, b0, rfl, rfl, hb4⟩ := Buf.of_new q4 hN4.unfr (by rw [HPL.out]; omega); have PS4 := Lib.hid (show PS w w4 _ _ B b0 c4 p from ⟨hb4, HE3.out.ext hN4.ext, by have h1 := (Array.getElem?_eq_some_iff.1 HB23.out).1; have h2 := hN4.new B (by simp); omega, hN4.ext.heap HB13.out (by simp), hN4.ext.heap HB23.out (by simp)⟩); clear hV4 hN4 q4 hb4)
    have hc4 := PS4.out.buf.sl.1
    rw [HPL.out] at hc4
    have g8 : ¬ c4 = a1 := by have := HA.out; omega
    have g9 : ¬ c4 = a2 := by have := HA.out; omega
    have g10 : ¬ c4 = 16 := by omega
    have g11 : ¬ c4 = 4 := by omega
    have HC4 := Lib.hid hc4
    clear hc4
    go_wp2_with fail
    refine region_tail 4 (by kernel_rfl) (by kernel_rfl) ?_
    simp only [List.take_succ_cons, List.take_zero, List.drop_succ_cons, List.drop_zero]
    repeat (first
      | (refine WQ.skip (by rfl) ?_
         try simp only [Act.put, List.setIfInBounds_toArray, List.set_cons_zero, List.set_cons_succ])
      | (refine WQ.take ?_ (by rfl) (fun w' hw => ?_) ?_
         rotate_left
         · unfold Oper.quietAt
           go_simp
           first
             | done
             | exact ⟨rfl, rfl⟩
             | exact rfl
         try simp only [Act.put, List.setIfInBounds_toArray, List.set_cons_zero, List.set_cons_succ]))
    refine WQ.nil ?_
    intro w5 hw5
    have PS5 := Lib.hid (PS4.out.more hw5)
    clear hw5
    go_wp2_with (go_at_call 64; refine (Buf.putU32 PS5.out.buf _ _ a1 _ rfl (by have := HA.out; rw [HPL.out]; omega) (by have := HA.out; omega) 0 (by decide)).mono ?_; rintro e w6 ⟨rfl, hb6, hO6⟩; have y0 := cell_of_row _ _ 0 _ _ _ (PS5.out.write hb6 hO6).box; simp only [List.getElem?_toArray, List.getElem?_cons_succ, List.getElem?_cons_zero] at y0)
    have PS6 := Lib.hid (show PS w w6 _ _ B b0 c4 P1 from by have h := PS5.out.write hb6 hO6; rw [HA.out.1, ← HP1.out] at h; exact h)
    clear hb6 hO6
    obtain ⟨bt, hbt⟩ : ∃ x, x = beAt P1 16 2 := ⟨_, rfl⟩
    have hbr := fault_zero HBW.out.zero
    rw [← hbt] at hbr
    have e10 : IntKind.i64.wrap bt = bt := by rw [IntKind.wrap_i64]; omega
    have e11 : IntKind.i64.wrap (bt - 148) = bt - 148 := by rw [IntKind.wrap_i64]; omega
    have HBT := Lib.hid (show (Ending.returned (.int .u16 (beAt P1 16 2)) = Ending.returned (.int .u16 bt)) by rw [hbt])
    have HBQ := Lib.hid hbt
    have HL16 := Lib.hid (show 16 + 2 ≤ P1.length ∧ 2 ≤ 4096 - 16 by rw [HL1.out]; omega)
    clear hbr hbt
    go_wp2_with fail
    have x1 := cell_of_row _ _ 1 _ _ _ PS6.out.box
    simp only [List.getElem?_toArray, List.getElem?_cons_succ, List.getElem?_cons_zero] at x1
    clear y0
    refine region_ext (by kernel_rfl) (by kernel_rfl) ?_
    repeat (first
      | (refine WQ.skip (by rfl) ?_
         try simp only [Act.put, List.setIfInBounds_toArray, List.set_cons_zero, List.set_cons_succ])
      | (refine WQ.take ?_ (by rfl) (fun w' hw => ?_) ?_
         rotate_left
         · have cq0 := hw.ecell x1
           unfold Oper.quietAt
           go_simp
           first
             | done
             | exact ⟨rfl, rfl⟩
             | exact rfl
         try simp only [Act.put, List.setIfInBounds_toArray, List.set_cons_zero, List.set_cons_succ])
      | (refine WQ.take ((.int .u16 bt)) (by rfl) (fun w' hw => ?_) ?_
         · unfold Oper.quietAt
           go_simp
           go_at_call 65
           exact ((beU16_calls _ _ _ _ _ _ _ _ (Rep.sl_ext PS6.out.buf.sl hw) 16 HL16.out.1 HL16.out.2).mono (fun e w5 h5 => ⟨h5.1.trans HBT.out, hw.ext h5.2⟩))
         try simp only [Act.put, List.setIfInBounds_toArray, List.set_cons_zero, List.set_cons_succ]))
    refine WQ.nil ?_
    intro w7 hw7
    have PS7 := Lib.hid (PS6.out.more hw7)
    clear hw7 x1
    by_cases hr : bt - 148 < (n : Int)
    · have HP2 := Lib.hid (show setRoom P1 n = compI P1 by rw [setRoom, if_pos (by rw [← HBQ.out]; exact hr)])
      go_wp2_with (go_at_call 56; refine (compacted_calls _ B b0 c4 P1 [B] PS7.out.buf.sl HBW.out).mono ?_; rintro e w8 ⟨B8, rfl, hB8, hb8, hE8⟩)
      have PS8 := Lib.hid (PS7.out.swap hb8 hE8 hB8)
      clear hb8 hE8 hB8
      obtain ⟨P2, hP2⟩ : ∃ P, P = compI P1 := ⟨_, rfl⟩
      have hroom := HROOM.out
      rw [HP2.out, ← hP2] at hroom
      rw [← hP2] at PS8 HP2
      obtain ⟨b, hb⟩ : ∃ b, b = setBot P2 n := ⟨_, rfl⟩
      rw [← hb] at hroom
      have HR2 := Lib.hid hroom; have HB0 := Lib.hid hb
      have HBE := Lib.hid (show (Ending.returned (.int .u16 (beAt P2 16 2)) = Ending.returned (.int .u16 ((b + n : Nat) : Int))) by rw [hroom.2.2.2])
      have HLB := Lib.hid (show 16 + 2 ≤ P2.length ∧ 2 ≤ 4096 - 16 by rw [hroom.1]; omega)
      have HCC := Lib.hid (show 4096 ≤ 4096 from Nat.le_refl _)
      clear hroom hb hP2
      have h2 := HR2.out
      have e20 : IntKind.i64.wrap ((b + n : Nat) : Int) = ((b + n : Nat) : Int) := by rw [IntKind.wrap_i64]; omega
      have e20' : IntKind.i64.wrap ((b : Int) + (n : Int)) = (b : Int) + (n : Int) := by rw [IntKind.wrap_i64]; omega
      have e21 : IntKind.i64.wrap (((b + n : Nat) : Int) - (n : Int)) = (b : Int) := by rw [IntKind.wrap_i64]; omega
      have e21' : IntKind.i64.wrap ((b : Int) + (n : Int) - (n : Int)) = (b : Int) := by rw [IntKind.wrap_i64]; omega
      have e27 : IntKind.i64.wrap (b : Int) = (b : Int) := by rw [IntKind.wrap_i64]; omega
      have e22 : (b : Int) ≤ 4096 := by omega
      have e23 : (0 : Int) ≤ (b : Int) := by omega
      have e24 : (b : Int).toNat = b := by omega
      have e25 : (4096 - (b : Int)).toNat = 4096 - b := by omega
      have e26 : IntKind.u16.wrap (b : Int) = (b : Int) := wrap_u16 _ (by omega) (by omega)
      clear h2
      go_wp2_with fail
      have x1 := cell_of_row _ _ 1 _ _ _ PS8.out.box
      simp only [List.getElem?_toArray, List.getElem?_cons_succ, List.getElem?_cons_zero] at x1
      refine region_ext (by kernel_rfl) (by kernel_rfl) ?_
      repeat (first
        | (refine WQ.skip (by rfl) ?_
           try simp only [Act.put, List.setIfInBounds_toArray, List.set_cons_zero, List.set_cons_succ])
        | (refine WQ.take ?_ (by rfl) (fun w' hw => ?_) ?_
           rotate_left
           · have cq0 := hw.ecell x1
             unfold Oper.quietAt
             go_simp
             first
               | done
               | exact ⟨rfl, rfl⟩
               | exact rfl
           try simp only [Act.put, List.setIfInBounds_toArray, List.set_cons_zero, List.set_cons_succ])
        | (refine WQ.take ((.int .u16 ((b + n : Nat) : Int))) (by rfl) (fun w' hw => ?_) ?_
           · unfold Oper.quietAt
             go_simp
             go_at_call 65
             exact ((beU16_calls _ _ _ _ _ _ _ _ (Rep.sl_ext PS8.out.buf.sl hw) 16 HLB.out.1 HLB.out.2).mono (fun e w5 h5 => ⟨h5.1.trans HBE.out, hw.ext h5.2⟩))
           try simp only [Act.put, List.setIfInBounds_toArray, List.set_cons_zero, List.set_cons_succ]))
      refine WQ.nil ?_
      intro wq hwq
      have PSc := Lib.hid (PS8.out.more hwq)
      clear hwq x1
      go_wp2_with fail
      have x1 := cell_of_row _ _ 1 _ _ _ PSc.out.box
      simp only [List.getElem?_toArray, List.getElem?_cons_succ, List.getElem?_cons_zero] at x1
      refine region_tail 5 (by kernel_rfl) (by kernel_rfl) ?_
      simp only [List.take_succ_cons, List.take_zero, List.drop_succ_cons, List.drop_zero]
      repeat (first
        | (refine WQ.skip (by rfl) ?_
           try simp only [Act.put, List.setIfInBounds_toArray, List.set_cons_zero, List.set_cons_succ])
        | (refine WQ.take ?_ (by rfl) (fun w' hw => ?_) ?_
           rotate_left
           · have cq0 := hw.ecell x1
             unfold Oper.quietAt
             go_simp
             first
               | done
               | exact ⟨rfl, rfl⟩
               | exact rfl
           try simp only [Act.put, List.setIfInBounds_toArray, List.set_cons_zero, List.set_cons_succ]))
      refine WQ.nil ?_
      intro wq hwq
      have PSd := Lib.hid (PSc.out.more hwq)
      clear hwq x1
      obtain ⟨D1, hD1⟩ : ∃ D, D = (if 4096 = b then some (⟨B8, 0, none⟩ : Addr) else some ⟨B8, b, none⟩) := ⟨_, rfl⟩
      rw [← hD1]
      have HD1 := Lib.hid hD1
      clear hD1
      have HDd := Lib.hid (Rep.sl_ext HDA.out PSd.out.ext)
      refine (copy_buf rfl (.tmp 102) (.tmp 104) 22 22 rfl 5 Tryd.underlying22 HSZ.out D1 A (4096 - b) _ n cA rfl rfl PSd.out.buf b (ys := d) (sl_wf HDd.out) (by have := HR2.out; have := HND.out; omega) (by have := HR2.out; have := HND.out; rw [← this]; exact (Nat.min_eq_left (by omega)).symm) (fun hpos => ⟨by have := HR2.out; have := HND.out; have := HCC.out; rw [HD1.out, if_neg (by omega), Nat.zero_add], by
        obtain ⟨ga, oa, rfl, -, hs⟩ := sl_ints HDd.out (by intro h; rw [h] at hpos; simp at hpos)
        exact ⟨_, rfl, hs⟩⟩) ?_)
      intro we hbe hOe
      have PSe := Lib.hid (PSd.out.write hbe hOe)
      have HLe := Lib.hid (show (splice P2 b d).length = 4096 by have := HR2.out; have := HND.out; rw [splice_len _ _ _ (by omega)]; exact HR2.out.1)
      clear hbe hOe
      go_wp2_with fail
      refine region_tail 5 (by kernel_rfl) (by kernel_rfl) ?_
      simp only [List.take_succ_cons, List.take_zero, List.drop_succ_cons, List.drop_zero]
      repeat (first
        | (refine WQ.skip (by rfl) ?_
           try simp only [Act.put, List.setIfInBounds_toArray, List.set_cons_zero, List.set_cons_succ])
        | (refine WQ.take ?_ (by rfl) (fun w' hw => ?_) ?_
           rotate_left
           · unfold Oper.quietAt
             go_simp
             first
               | done
               | exact ⟨rfl, rfl⟩
               | exact rfl
           try simp only [Act.put, List.setIfInBounds_toArray, List.set_cons_zero, List.set_cons_succ]))
      refine WQ.nil ?_
      intro wq hwq
      have PSf := Lib.hid (PSe.out.more hwq)
      clear hwq
      go_wp2_with (go_at_call 66; refine (Buf.putU16 PSf.out.buf _ _ 16 _ (by simp) (by rw [HLe.out]; omega) (by omega) b (by have := HR2.out; omega)).mono ?_; rintro e wg ⟨rfl, hbg, hOg⟩)
      have PSg := Lib.hid (PSf.out.write hbg hOg)
      have HLg := Lib.hid (show (splice (splice P2 b d) 16 (beL 2 b)).length = 4096 by rw [splice_len _ _ _ (by rw [beL_length, HLe.out]; omega)]; exact HLe.out)
      clear hbg hOg
      go_wp2_with fail
      refine region_tail 6 (by kernel_rfl) (by kernel_rfl) ?_
      simp only [List.take_succ_cons, List.take_zero, List.drop_succ_cons, List.drop_zero]
      repeat (first
        | (refine WQ.skip (by rfl) ?_
           try simp only [Act.put, List.setIfInBounds_toArray, List.set_cons_zero, List.set_cons_succ])
        | (refine WQ.take ?_ (by rfl) (fun w' hw => ?_) ?_
           rotate_left
           · unfold Oper.quietAt
             go_simp
             first
               | done
               | exact ⟨rfl, rfl⟩
               | exact rfl
           try simp only [Act.put, List.setIfInBounds_toArray, List.set_cons_zero, List.set_cons_succ]))
      refine WQ.nil ?_
      intro wq hwq
      have PSh := Lib.hid (PSg.out.more hwq)
      clear hwq
      go_wp2_with (go_at_call 66; refine (Buf.putU16 PSh.out.buf _ _ a1 _ (by simp) (by have := HA.out; rw [HLg.out]; omega) (by have := HA.out; omega) b (by have := HR2.out; omega)).mono ?_; rintro e wi ⟨rfl, hbi, hOi⟩)
      have PSi := Lib.hid (PSh.out.write hbi hOi)
      have HLi := Lib.hid (show (splice (splice (splice P2 b d) 16 (beL 2 b)) a1 (beL 2 b)).length = 4096 by rw [splice_len _ _ _ (by have := HA.out; rw [beL_length, HLg.out]; omega)]; exact HLg.out)
      clear hbi hOi
      go_wp2_with fail
      have x1 := cell_of_row _ _ 1 _ _ _ PSi.out.box
      simp only [List.getElem?_toArray, List.getElem?_cons_succ, List.getElem?_cons_zero] at x1
      refine region_tail 9 (by kernel_rfl) (by kernel_rfl) ?_
      simp only [List.take_succ_cons, List.take_zero, List.drop_succ_cons, List.drop_zero]
      repeat (first
        | (refine WQ.skip (by rfl) ?_
           try simp only [Act.put, List.setIfInBounds_toArray, List.set_cons_zero, List.set_cons_succ])
        | (refine WQ.take ?_ (by rfl) (fun w' hw => ?_) ?_
           rotate_left
           · have cq0 := hw.ecell x1
             unfold Oper.quietAt
             go_simp
             first
               | done
               | exact ⟨rfl, rfl⟩
               | exact rfl
           try simp only [Act.put, List.setIfInBounds_toArray, List.set_cons_zero, List.set_cons_succ]))
      refine WQ.nil ?_
      intro wq hwq
      have PSj := Lib.hid (PSi.out.more hwq)
      clear hwq x1
      go_wp2_with (go_at_call 66; refine (Buf.putU16 PSj.out.buf _ _ a2 _ (by simp) (by have := HA.out; rw [HLi.out]; omega) (by have := HA.out; omega) n (by have := HL.out; omega)).mono ?_; rintro e wk ⟨rfl, hbk, hOk⟩)
      have PSk := Lib.hid (PSj.out.write hbk hOk)
      have HLk := Lib.hid (show (splice (splice (splice (splice P2 b d) 16 (beL 2 b)) a1 (beL 2 b)) a2 (beL 2 n)).length = 4096 by rw [splice_len _ _ _ (by have := HA.out; rw [beL_length, HLi.out]; omega)]; exact HLi.out)
      clear hbk hOk
      have HSP := Lib.hid (show setPage p s true d l = splice (splice (splice (splice (splice P2 b d) 16 (beL 2 b)) a1 (beL 2 b)) a2 (beL 2 n)) 4 (beL 8 l) by
        rw [setPage, if_pos rfl, ← HP1'.out, ← HND.out, HP2.out, setPut, ← HND.out, ← HB0.out, setLsn, HA.out.2.1, HA.out.1])
      go_wp2_with fail
      refine region_tail 5 (by kernel_rfl) (by kernel_rfl) ?_
      simp only [List.take_succ_cons, List.take_zero, List.drop_succ_cons, List.drop_zero]
      repeat (first
        | (refine WQ.skip (by rfl) ?_
           try simp only [Act.put, List.setIfInBounds_toArray, List.set_cons_zero, List.set_cons_succ])
        | (refine WQ.take ?_ (by rfl) (fun w' hw => ?_) ?_
           rotate_left
           · unfold Oper.quietAt
             go_simp
             first
               | done
               | exact ⟨rfl, rfl⟩
               | exact rfl
           try simp only [Act.put, List.setIfInBounds_toArray, List.set_cons_zero, List.set_cons_succ]))
      refine WQ.nil ?_
      intro wa hwa
      have PSa := Lib.hid (PSk.out.more hwa)
      clear hwa
      go_wp2_with (go_at_call 67; refine (Buf.putU64 PSa.out.buf _ _ 4 _ (by simp) (by rw [HLk.out]; omega) (by omega) l (by have := HL.out; omega)).mono ?_; rintro e wb ⟨rfl, hbb, hOb⟩; have m := fun o => cell_of_row _ _ o _ _ _ (PSa.out.write hbb hOb).res; have f := fun o => frozen_of_row _ _ o _ _ (PSa.out.write hbb hOb).res)
      have PSb := Lib.hid (PSa.out.write hbb hOb)
      clear hbb hOb
      refine bodyPost_ret (v := .agg #[.int .i64 0, .slice (some ⟨B8, 0, none⟩) 4096 4096]) (by simp [results, Tryd.results20, go_sem, m]) rfl ?_
      rw [HSP.out]
      exact psRes_new PSb.out (by rw [splice_len _ _ _ (by rw [beL_length, HLk.out]; omega), HLk.out]) (by repeat (first | with_reducible exact Only.refl _ _ | ((with_reducible apply Only.set); · first | (simp; done) | exact fun hq => absurd hq (by dsimp only; omega))))
    · have HP2 := Lib.hid (show setRoom P1 n = P1 by rw [setRoom, if_neg (by rw [← HBQ.out]; exact hr)])
      obtain ⟨P2, hP2⟩ : ∃ P, P = P1 := ⟨_, rfl⟩
      have hroom := HROOM.out
      rw [HP2.out, ← hP2] at hroom
      have PS8 := Lib.hid PS7.out
      rw [← hP2] at PS8
      replace HP2 := Lib.hid (HP2.out.trans hP2.symm)
      obtain ⟨b, hb⟩ : ∃ b, b = setBot P2 n := ⟨_, rfl⟩
      rw [← hb] at hroom
      have HR2 := Lib.hid hroom; have HB0 := Lib.hid hb
      have HBE := Lib.hid (show (Ending.returned (.int .u16 (beAt P2 16 2)) = Ending.returned (.int .u16 ((b + n : Nat) : Int))) by rw [hroom.2.2.2])
      have HLB := Lib.hid (show 16 + 2 ≤ P2.length ∧ 2 ≤ 4096 - 16 by rw [hroom.1]; omega)
      have HCC := Lib.hid (show 4096 ≤ c4 from HC4.out)
      clear hroom hb hP2
      have h2 := HR2.out
      have e20 : IntKind.i64.wrap ((b + n : Nat) : Int) = ((b + n : Nat) : Int) := by rw [IntKind.wrap_i64]; omega
      have e20' : IntKind.i64.wrap ((b : Int) + (n : Int)) = (b : Int) + (n : Int) := by rw [IntKind.wrap_i64]; omega
      have e21 : IntKind.i64.wrap (((b + n : Nat) : Int) - (n : Int)) = (b : Int) := by rw [IntKind.wrap_i64]; omega
      have e21' : IntKind.i64.wrap ((b : Int) + (n : Int) - (n : Int)) = (b : Int) := by rw [IntKind.wrap_i64]; omega
      have e27 : IntKind.i64.wrap (b : Int) = (b : Int) := by rw [IntKind.wrap_i64]; omega
      have e22 : (b : Int) ≤ 4096 := by omega
      have e23 : (0 : Int) ≤ (b : Int) := by omega
      have e24 : (b : Int).toNat = b := by omega
      have e25 : (4096 - (b : Int)).toNat = 4096 - b := by omega
      have e26 : IntKind.u16.wrap (b : Int) = (b : Int) := wrap_u16 _ (by omega) (by omega)
      clear h2
      go_wp2_with fail
      have x1 := cell_of_row _ _ 1 _ _ _ PS8.out.box
      simp only [List.getElem?_toArray, List.getElem?_cons_succ, List.getElem?_cons_zero] at x1
      refine region_ext (by kernel_rfl) (by kernel_rfl) ?_
      repeat (first
        | (refine WQ.skip (by rfl) ?_
           try simp only [Act.put, List.setIfInBounds_toArray, List.set_cons_zero, List.set_cons_succ])
        | (refine WQ.take ?_ (by rfl) (fun w' hw => ?_) ?_
           rotate_left
           · have cq0 := hw.ecell x1
             unfold Oper.quietAt
             go_simp
             first
               | done
               | exact ⟨rfl, rfl⟩
               | exact rfl
           try simp only [Act.put, List.setIfInBounds_toArray, List.set_cons_zero, List.set_cons_succ])
        | (refine WQ.take ((.int .u16 ((b + n : Nat) : Int))) (by rfl) (fun w' hw => ?_) ?_
           · unfold Oper.quietAt
             go_simp
             go_at_call 65
             exact ((beU16_calls _ _ _ _ _ _ _ _ (Rep.sl_ext PS8.out.buf.sl hw) 16 HLB.out.1 HLB.out.2).mono (fun e w5 h5 => ⟨h5.1.trans HBE.out, hw.ext h5.2⟩))
           try simp only [Act.put, List.setIfInBounds_toArray, List.set_cons_zero, List.set_cons_succ]))
      refine WQ.nil ?_
      intro wq hwq
      have PSc := Lib.hid (PS8.out.more hwq)
      clear hwq x1
      go_wp2_with fail
      have x1 := cell_of_row _ _ 1 _ _ _ PSc.out.box
      simp only [List.getElem?_toArray, List.getElem?_cons_succ, List.getElem?_cons_zero] at x1
      refine region_tail 5 (by kernel_rfl) (by kernel_rfl) ?_
      simp only [List.take_succ_cons, List.take_zero, List.drop_succ_cons, List.drop_zero]
      repeat (first
        | (refine WQ.skip (by rfl) ?_
           try simp only [Act.put, List.setIfInBounds_toArray, List.set_cons_zero, List.set_cons_succ])
        | (refine WQ.take ?_ (by rfl) (fun w' hw => ?_) ?_
           rotate_left
           · have cq0 := hw.ecell x1
             unfold Oper.quietAt
             go_simp
             first
               | done
               | exact ⟨rfl, rfl⟩
               | exact rfl
           try simp only [Act.put, List.setIfInBounds_toArray, List.set_cons_zero, List.set_cons_succ]))
      refine WQ.nil ?_
      intro wq hwq
      have PSd := Lib.hid (PSc.out.more hwq)
      clear hwq x1
      obtain ⟨D1, hD1⟩ : ∃ D, D = (if c4 = b then some (⟨B, b0, none⟩ : Addr) else some ⟨B, b0 + b, none⟩) := ⟨_, rfl⟩
      rw [← hD1]
      have HD1 := Lib.hid hD1
      clear hD1
      have HDd := Lib.hid (Rep.sl_ext HDA.out PSd.out.ext)
      refine (copy_buf rfl (.tmp 102) (.tmp 104) 22 22 rfl 5 Tryd.underlying22 HSZ.out D1 A (4096 - b) _ n cA rfl rfl PSd.out.buf b (ys := d) (sl_wf HDd.out) (by have := HR2.out; have := HND.out; omega) (by have := HR2.out; have := HND.out; rw [← this]; exact (Nat.min_eq_left (by omega)).symm) (fun hpos => ⟨by have := HR2.out; have := HND.out; have := HCC.out; rw [HD1.out, if_neg (by omega)], by
        obtain ⟨ga, oa, rfl, -, hs⟩ := sl_ints HDd.out (by intro h; rw [h] at hpos; simp at hpos)
        exact ⟨_, rfl, hs⟩⟩) ?_)
      intro we hbe hOe
      have PSe := Lib.hid (PSd.out.write hbe hOe)
      have HLe := Lib.hid (show (splice P2 b d).length = 4096 by have := HR2.out; have := HND.out; rw [splice_len _ _ _ (by omega)]; exact HR2.out.1)
      clear hbe hOe
      go_wp2_with fail
      refine region_tail 5 (by kernel_rfl) (by kernel_rfl) ?_
      simp only [List.take_succ_cons, List.take_zero, List.drop_succ_cons, List.drop_zero]
      repeat (first
        | (refine WQ.skip (by rfl) ?_
           try simp only [Act.put, List.setIfInBounds_toArray, List.set_cons_zero, List.set_cons_succ])
        | (refine WQ.take ?_ (by rfl) (fun w' hw => ?_) ?_
           rotate_left
           · unfold Oper.quietAt
             go_simp
             first
               | done
               | exact ⟨rfl, rfl⟩
               | exact rfl
           try simp only [Act.put, List.setIfInBounds_toArray, List.set_cons_zero, List.set_cons_succ]))
      refine WQ.nil ?_
      intro wq hwq
      have PSf := Lib.hid (PSe.out.more hwq)
      clear hwq
      go_wp2_with (go_at_call 66; refine (Buf.putU16 PSf.out.buf _ _ 16 _ (by simp) (by rw [HLe.out]; omega) (by omega) b (by have := HR2.out; omega)).mono ?_; rintro e wg ⟨rfl, hbg, hOg⟩)
      have PSg := Lib.hid (PSf.out.write hbg hOg)
      have HLg := Lib.hid (show (splice (splice P2 b d) 16 (beL 2 b)).length = 4096 by rw [splice_len _ _ _ (by rw [beL_length, HLe.out]; omega)]; exact HLe.out)
      clear hbg hOg
      go_wp2_with fail
      refine region_tail 6 (by kernel_rfl) (by kernel_rfl) ?_
      simp only [List.take_succ_cons, List.take_zero, List.drop_succ_cons, List.drop_zero]
      repeat (first
        | (refine WQ.skip (by rfl) ?_
           try simp only [Act.put, List.setIfInBounds_toArray, List.set_cons_zero, List.set_cons_succ])
        | (refine WQ.take ?_ (by rfl) (fun w' hw => ?_) ?_
           rotate_left
           · unfold Oper.quietAt
             go_simp
             first
               | done
               | exact ⟨rfl, rfl⟩
               | exact rfl
           try simp only [Act.put, List.setIfInBounds_toArray, List.set_cons_zero, List.set_cons_succ]))
      refine WQ.nil ?_
      intro wq hwq
      have PSh := Lib.hid (PSg.out.more hwq)
      clear hwq
      go_wp2_with (go_at_call 66; refine (Buf.putU16 PSh.out.buf _ _ a1 _ (by simp) (by have := HA.out; rw [HLg.out]; omega) (by have := HA.out; omega) b (by have := HR2.out; omega)).mono ?_; rintro e wi ⟨rfl, hbi, hOi⟩)
      have PSi := Lib.hid (PSh.out.write hbi hOi)
      have HLi := Lib.hid (show (splice (splice (splice P2 b d) 16 (beL 2 b)) a1 (beL 2 b)).length = 4096 by rw [splice_len _ _ _ (by have := HA.out; rw [beL_length, HLg.out]; omega)]; exact HLg.out)
      clear hbi hOi
      go_wp2_with fail
      have x1 := cell_of_row _ _ 1 _ _ _ PSi.out.box
      simp only [List.getElem?_toArray, List.getElem?_cons_succ, List.getElem?_cons_zero] at x1
      refine region_tail 9 (by kernel_rfl) (by kernel_rfl) ?_
      simp only [List.take_succ_cons, List.take_zero, List.drop_succ_cons, List.drop_zero]
      repeat (first
        | (refine WQ.skip (by rfl) ?_
           try simp only [Act.put, List.setIfInBounds_toArray, List.set_cons_zero, List.set_cons_succ])
        | (refine WQ.take ?_ (by rfl) (fun w' hw => ?_) ?_
           rotate_left
           · have cq0 := hw.ecell x1
             unfold Oper.quietAt
             go_simp
             first
               | done
               | exact ⟨rfl, rfl⟩
               | exact rfl
           try simp only [Act.put, List.setIfInBounds_toArray, List.set_cons_zero, List.set_cons_succ]))
      refine WQ.nil ?_
      intro wq hwq
      have PSj := Lib.hid (PSi.out.more hwq)
      clear hwq x1
      go_wp2_with (go_at_call 66; refine (Buf.putU16 PSj.out.buf _ _ a2 _ (by simp) (by have := HA.out; rw [HLi.out]; omega) (by have := HA.out; omega) n (by have := HL.out; omega)).mono ?_; rintro e wk ⟨rfl, hbk, hOk⟩)
      have PSk := Lib.hid (PSj.out.write hbk hOk)
      have HLk := Lib.hid (show (splice (splice (splice (splice P2 b d) 16 (beL 2 b)) a1 (beL 2 b)) a2 (beL 2 n)).length = 4096 by rw [splice_len _ _ _ (by have := HA.out; rw [beL_length, HLi.out]; omega)]; exact HLi.out)
      clear hbk hOk
      have HSP := Lib.hid (show setPage p s true d l = splice (splice (splice (splice (splice P2 b d) 16 (beL 2 b)) a1 (beL 2 b)) a2 (beL 2 n)) 4 (beL 8 l) by
        rw [setPage, if_pos rfl, ← HP1'.out, ← HND.out, HP2.out, setPut, ← HND.out, ← HB0.out, setLsn, HA.out.2.1, HA.out.1])
      go_wp2_with fail
      refine region_tail 5 (by kernel_rfl) (by kernel_rfl) ?_
      simp only [List.take_succ_cons, List.take_zero, List.drop_succ_cons, List.drop_zero]
      repeat (first
        | (refine WQ.skip (by rfl) ?_
           try simp only [Act.put, List.setIfInBounds_toArray, List.set_cons_zero, List.set_cons_succ])
        | (refine WQ.take ?_ (by rfl) (fun w' hw => ?_) ?_
           rotate_left
           · unfold Oper.quietAt
             go_simp
             first
               | done
               | exact ⟨rfl, rfl⟩
               | exact rfl
           try simp only [Act.put, List.setIfInBounds_toArray, List.set_cons_zero, List.set_cons_succ]))
      refine WQ.nil ?_
      intro wa hwa
      have PSa := Lib.hid (PSk.out.more hwa)
      clear hwa
      go_wp2_with (go_at_call 67; refine (Buf.putU64 PSa.out.buf _ _ 4 _ (by simp) (by rw [HLk.out]; omega) (by omega) l (by have := HL.out; omega)).mono ?_; rintro e wb ⟨rfl, hbb, hOb⟩; have m := fun o => cell_of_row _ _ o _ _ _ (PSa.out.write hbb hOb).res; have f := fun o => frozen_of_row _ _ o _ _ (PSa.out.write hbb hOb).res)
      have PSb := Lib.hid (PSa.out.write hbb hOb)
      clear hbb hOb
      refine bodyPost_ret (v := .agg #[.int .i64 0, .slice (some ⟨B, b0, none⟩) 4096 c4]) (by simp [results, Tryd.results20, go_sem, m]) rfl ?_
      rw [HSP.out]
      exact psRes_new PSb.out (by rw [splice_len _ _ _ (by rw [beL_length, HLk.out]; omega), HLk.out]) (by repeat (first | with_reducible exact Only.refl _ _ | ((with_reducible apply Only.set); · first | (simp; done) | exact fun hq => absurd hq (by dsimp only; omega))))
end Go.Proofs.YtghgjddiheebeaaDoor
