/- The program's PageFault behind its head: the slots, the marks. -/
import Derived.Test.YtghgjddiheebeaaDoorX3
namespace Go.Proofs.YtghgjddiheebeaaDoor
open Go.RowKit
set_option linter.unusedSimpArgs false
set_option linter.unusedVariables false
theorem marks_zero : Tryd.zeroCells147 = Array.replicate 4096 (.bool false) := by kernel_rfl
theorem marks_zero_at (t : Nat) (ht : t < 4096) : (Tryd.zeroCells147)[t]? = some (.bool false) := by
  rw [marks_zero]; simp [ht]
noncomputable def tk (P : Prop) : Bool := @decide P (Classical.propDecidable P)
theorem tk_true {P : Prop} (h : P) : tk P = true := by simp [tk, h]
theorem tk_false {P : Prop} (h : ¬ P) : tk P = false := by simp [tk, h]
theorem tk_congr {P Q : Prop} (h : P ↔ Q) : tk P = tk Q := by rw [show P = Q from propext h]
/-- The marks in block B: exactly the bytes of S. -/
def Marks (w : World) (B : Nat) (S : Int → Prop) : Prop := ∀ t : Nat, t < 4096 → w.cell? ⟨B, t, none⟩ = some (.bool (tk (S t))) ∧ w.frozen? ⟨B, t, none⟩ = false
theorem Marks.set {w : World} {B : Nat} {S : Int → Prop} (h : Marks w B S) (s : Nat) (hs : s < 4096) (S' : Int → Prop) (hS : ∀ t : Int, S' t ↔ (S t ∨ t = s)) : Marks (w.setCell ⟨B, s, none⟩ (.bool true)) B S' := by
  intro t ht
  refine ⟨?_, by rw [World.frozen?_setCell]; exact (h t ht).2⟩
  by_cases e : t = s
  · subst e
    rw [World.cell?_setCell_same' _ _ _ (by rw [(h t ht).1]; rfl), tk_true ((hS t).2 (.inr rfl))]
  · have hne : (⟨B, s, none⟩ : Addr) ≠ ⟨B, t, none⟩ := fun h' => e (by injection h' with _ h'; exact h'.symm)
    have ho := World.cell?_setCell_other (w := w) (a := ⟨B, s, none⟩) (b := ⟨B, t, none⟩) (v := .bool true) hne
    rw [ho, (h t ht).1]
    have hst : S' (t : Int) ↔ S t := by rw [hS]; exact ⟨fun h' => h'.resolve_right (by omega), .inl⟩
    rw [tk_congr hst]
theorem Marks.same {w w' : World} {B : Nat} {S S' : Int → Prop} (h : Marks w B S) (hE : Ext w w') (hB : B < w.heap.size) (hS : ∀ t : Int, S' t ↔ S t) : Marks w' B S' := by
  intro t ht
  obtain ⟨h1, h2⟩ := h t ht
  refine ⟨by rw [hE.ecell h1, tk_congr (hS t)], ?_⟩
  exact hE.efroz hB h2
theorem Marks.zero (w : World) (S : Int → Prop) (hS : ∀ t, ¬ S t) : Marks (w.alloc (.cells Tryd.zeroCells147 147)) w.heap.size S := by
  intro t ht
  refine ⟨?_, World.frozen?_alloc_at _ _ _ _ rfl⟩
  rw [World.cell?_alloc_at _ _ _ _ rfl, marks_zero_at t ht, tk_false (hS t)]
theorem Marks.lt {w : World} {B : Nat} {S : Int → Prop} (h : Marks w B S) : B < w.heap.size := block_lt_of_cell (h 0 (by decide)).1
theorem slBad_false {p : List Int} {bt : Int} {i : Nat} : slBad p bt i = false ↔ ¬ ((slO p i = 0 ∧ slN p i ≠ 0) ∨ (slO p i ≠ 0 ∧ (slN p i > 1000 ∨ slO p i < bt ∨ slO p i + slN p i > 4096))) := by
  simp only [slBad, decide_eq_false_iff_not]
theorem slBad_true {p : List Int} {bt : Int} {i : Nat} : slBad p bt i = true ↔ ((slO p i = 0 ∧ slN p i ≠ 0) ∨ (slO p i ≠ 0 ∧ (slN p i > 1000 ∨ slO p i < bt ∨ slO p i + slN p i > 4096))) := by
  simp only [slBad, decide_eq_true_eq]
open Classical in
set_option maxRecDepth 100000 in
set_option maxHeartbeats 8000000 in
theorem implFault_body (w : World) (g off c : Nat) (p : List Int) (F : List Nat) (h : (Rep.int .u8).sl w (some ⟨g, off, none⟩) c p F) (hp : p.length = 4096) (num : Int) (R : Int)
    (hR : R = if ∃ i, i < 32 ∧ slBad p (beAt p 16 2) i = true then 5 else if ∃ i j k, i < 32 ∧ j < i ∧ cov p i k ∧ cov p j k then 6 else 0)
    (hx1 : beAt p 12 4 = num) (hx2 : beAt p 4 8 ≤ 1099511627776) (hx3 : beAt p 18 2 = 0) (hx4 : 148 ≤ beAt p 16 2) (hx5 : beAt p 16 2 ≤ 4096) :
    Calls Tryd.prog 81 #[.slice (some ⟨g, off, none⟩) 4096 c, .int .i64 num] w fun e w' => e = .returned (.int .i64 R) ∧ Ext w w' := by
  have hw : ∀ z ∈ p, 0 ≤ z ∧ z ≤ 255 := fun z hz => Lib.byte_of_wf (sl_wf h z hz)
  have HS := Lib.hid h; have HP := Lib.hid hp
  have hpc := h.1
  rw [hp] at hpc
  obtain ⟨r1, r2⟩ := beAt_u32 hw 12
  obtain ⟨r3, r4⟩ := beAt_u64 hw 4
  have HRO := Lib.hid (fun i => (show 0 ≤ slO p i ∧ slO p i ≤ 65535 from beAt_u16 hw _))
  have HRN := Lib.hid (fun i => (show 0 ≤ slN p i ∧ slN p i ≤ 65535 from beAt_u16 hw _))
  obtain ⟨x, hy1⟩ : ∃ x, x = beAt p 12 4 := ⟨_, rfl⟩
  obtain ⟨l, hy2⟩ : ∃ x, x = beAt p 4 8 := ⟨_, rfl⟩
  obtain ⟨b, hy4⟩ : ∃ x, x = beAt p 16 2 := ⟨_, rfl⟩
  rw [← hy1] at r1 r2 hx1
  rw [← hy2] at r3 r4 hx2
  rw [← hy4] at hR hx4 hx5
  subst hx1
  have HX1 := Lib.hid hy1; have HX2 := Lib.hid hy2; have HX3 := Lib.hid hx3.symm; have HX4 := Lib.hid hy4
  have h2' : ¬ 1099511627776 < l := by omega
  have h2d : decide (1099511627776 < l) = false := by simp; omega
  have h4' : ¬ b < 148 := by omega
  have h5' : ¬ 4096 < b := by omega
  have e1 : IntKind.i64.wrap x = x := by rw [IntKind.wrap_i64]; omega
  have e2 : IntKind.i64.wrap b = b := by rw [IntKind.wrap_i64]; omega
  have f1 : ¬ c = 12 := by omega
  have f2 : ¬ c = 4 := by omega
  have f3 : ¬ c = 18 := by omega
  have f4 : ¬ c = 16 := by omega
  have HR := Lib.hid hR
  clear hy1 hy2 hx3 hy4 h hp hw hR
  go_enter Tryd.func81, Tryd.ntmps81
  go_wp2_with fail
  refine region_ext (by kernel_rfl) (by kernel_rfl) ?_
  repeat (first
    | (refine WQ.skip (by rfl) ?_
       try simp only [Act.put, List.setIfInBounds_toArray, List.set_cons_zero, List.set_cons_succ])
    | (refine WQ.take ?_ (by rfl) (fun w' hw => ?_) ?_
       rotate_left
       · unfold Oper.quietAt
         go_simp
         first
           | done
           | exact ⟨rfl, rfl⟩
           | exact rfl
       try simp only [Act.put, List.setIfInBounds_toArray, List.set_cons_zero, List.set_cons_succ])
    | (refine WQ.take (.int .u32 x) (by rfl) (fun w' hw => ?_) ?_
       · unfold Oper.quietAt
         go_simp
         go_at_call 109
         exact ((beU32_calls _ _ _ _ _ _ _ _ (Rep.sl_ext HS.out hw) 12 (by have := HP.out; omega) (by omega)).mono (fun e w5 h5 => ⟨by rw [h5.1, HX1.out], hw.ext h5.2⟩))
       try simp only [Act.put, List.setIfInBounds_toArray, List.set_cons_zero, List.set_cons_succ]))
  refine WQ.nil ?_
  intro w2 hw2
  have HE2 := Lib.hid hw2
  clear hw2
  go_wp2_with fail
  refine region_ext (by kernel_rfl) (by kernel_rfl) ?_
  repeat (first
    | (refine WQ.skip (by rfl) ?_
       try simp only [Act.put, List.setIfInBounds_toArray, List.set_cons_zero, List.set_cons_succ])
    | (refine WQ.take ?_ (by rfl) (fun w' hw => ?_) ?_
       rotate_left
       · unfold Oper.quietAt
         go_simp
         first
           | done
           | exact ⟨rfl, rfl⟩
           | exact rfl
       try simp only [Act.put, List.setIfInBounds_toArray, List.set_cons_zero, List.set_cons_succ])
    | (refine WQ.take (.int .u64 l) (by rfl) (fun w' hw => ?_) ?_
       · unfold Oper.quietAt
         go_simp
         go_at_call 113
         exact ((beU64_calls _ _ _ _ _ _ _ _ (Rep.sl_ext HS.out (HE2.out.ext hw)) 4 (by have := HP.out; omega) (by omega)).mono (fun e w5 h5 => ⟨by rw [h5.1, HX2.out], hw.ext h5.2⟩))
       try simp only [Act.put, List.setIfInBounds_toArray, List.set_cons_zero, List.set_cons_succ])
    | (refine WQ.take (.int .u16 z) (by rfl) (fun w' hw => ?_) ?_
       · unfold Oper.quietAt
         go_simp
         go_at_call 65
         exact ((beU16_calls _ _ _ _ _ _ _ _ (Rep.sl_ext HS.out (HE2.out.ext hw)) 18 (by have := HP.out; omega) (by omega)).mono (fun e w5 h5 => ⟨by rw [h5.1, HX3.out], hw.ext h5.2⟩))
       try simp only [Act.put, List.setIfInBounds_toArray, List.set_cons_zero, List.set_cons_succ])
    | (refine WQ.take (.int .u16 0) (by rfl) (fun w' hw => ?_) ?_
       · unfold Oper.quietAt
         go_simp
         go_at_call 65
         exact ((beU16_calls _ _ _ _ _ _ _ _ (Rep.sl_ext HS.out (HE2.out.ext hw)) 18 (by have := HP.out; omega) (by omega)).mono (fun e w5 h5 => ⟨by rw [h5.1, HX3.out], hw.ext h5.2⟩))
       try simp only [Act.put, List.setIfInBounds_toArray, List.set_cons_zero, List.set_cons_succ]))
  refine WQ.nil ?_
  intro w3 hw3
  have HE3 := Lib.hid (HE2.out.ext hw3)
  clear hw3
  go_wp2_with fail
  refine region_ext (by kernel_rfl) (by kernel_rfl) ?_
  repeat (first
    | (refine WQ.skip (by rfl) ?_
       try simp only [Act.put, List.setIfInBounds_toArray, List.set_cons_zero, List.set_cons_succ])
    | (refine WQ.take ?_ (by rfl) (fun w' hw => ?_) ?_
       rotate_left
       · unfold Oper.quietAt
         go_simp
         first
           | done
           | exact ⟨rfl, rfl⟩
           | exact rfl
       try simp only [Act.put, List.setIfInBounds_toArray, List.set_cons_zero, List.set_cons_succ])
    | (refine WQ.take (.int .u16 b) (by rfl) (fun w' hw => ?_) ?_
       · unfold Oper.quietAt
         go_simp
         go_at_call 65
         exact ((beU16_calls _ _ _ _ _ _ _ _ (Rep.sl_ext HS.out (HE3.out.ext hw)) 16 (by have := HP.out; omega) (by omega)).mono (fun e w5 h5 => ⟨by rw [h5.1, HX4.out], hw.ext h5.2⟩))
       try simp only [Act.put, List.setIfInBounds_toArray, List.set_cons_zero, List.set_cons_succ]))
  refine WQ.nil ?_
  intro w4 hw4
  have HE4 := Lib.hid (HE3.out.ext hw4)
  clear hw4
  go_wp2
  go_loopg [6, 7, 8] 32 (fun m i o n wr => ∃ k : Nat, m + k = 32 ∧ i = .int .i64 k ∧ Hid (∀ j, j < k → slBad p b j = false) ∧ Ext w wr)
  case atStart => exact ⟨0, by simp, rfl, Lib.hid (fun j hj => absurd hj (by omega)), HE4.out⟩
  case round =>
    obtain ⟨k, hmk, rfl, HG, hE⟩ := hrel
    have HE5 := Lib.hid hE; have HMK := Lib.hid hmk
    clear hE hmk
    by_cases hlt : (k : Int) < 32
    · have hk : k < 32 := by omega
      have HC := Lib.hid (slotOf_calls _ g off c p F (Rep.sl_ext HS.out HE5.out) HP.out k hk)
      obtain ⟨q1, q2⟩ := HRO.out k
      obtain ⟨q3, q4⟩ := HRN.out k
      obtain ⟨o, ho⟩ : ∃ o, o = slO p k := ⟨_, rfl⟩
      obtain ⟨n, hn⟩ : ∃ o, o = slN p k := ⟨_, rfl⟩
      rw [← ho] at q1 q2
      rw [← hn] at q3 q4
      have hbt := @slBad_true p b k
      have hbf := @slBad_false p b k
      rw [← ho, ← hn] at hbt hbf
      have HO := Lib.hid ho; have HN := Lib.hid hn; have HBT := Lib.hid hbt; have HBF := Lib.hid hbf
      have e3 : IntKind.i64.wrap (o + n) = o + n := by rw [IntKind.wrap_i64]; omega
      clear ho hn hbt hbf
      have hcs : ((o = 0 ∧ ¬ n = 0) ∨ (¬ o = 0 ∧ 1000 < n) ∨ (¬ o = 0 ∧ ¬ 1000 < n ∧ o < b) ∨ (¬ o = 0 ∧ ¬ 1000 < n ∧ ¬ o < b ∧ 4096 < o + n)) ∨ ((o = 0 ∧ n = 0) ∨ (¬ o = 0 ∧ ¬ 1000 < n ∧ ¬ o < b ∧ ¬ 4096 < o + n)) := by omega
      rcases hcs with hbad | hgood
      · have HB := Lib.hid (show slBad p b k = true from HBT.out.2 (by omega))
        rcases hbad with ⟨rfl, c1⟩ | ⟨c0, c1⟩ | ⟨c0, c1, c2⟩ | ⟨c0, c1, c2, c3⟩
        all_goals
          go_wp2_with (go_at_call 61; refine HC.out.mono ?_; rintro e w5 ⟨rfl, hE⟩; simp only [← HO.out, ← HN.out]; have HE6 := Lib.hid (HE5.out.ext hE); clear hE)
          go_ret
          exact ⟨by rw [HR.out, if_pos ⟨k, hk, HB.out⟩]; rfl, HE6.out⟩
      · have HB := Lib.hid (show slBad p b k = false from HBF.out.2 (by omega))
        rcases hgood with ⟨rfl, rfl⟩ | ⟨c0, c1, c2, c3⟩
        all_goals
          go_wp2_with (go_at_call 61; refine HC.out.mono ?_; rintro e w5 ⟨rfl, hE⟩; simp only [← HO.out, ← HN.out]; have HE6 := Lib.hid (HE5.out.ext hE); clear hE)
          go_roundg (32 - (k + 1))
          case measure => have := HMK.out; omega
          case rel =>
            refine ⟨k + 1, by have := HMK.out; omega, rfl, Lib.hid (fun j hj => ?_), HE6.out⟩
            rcases Nat.lt_or_ge j k with h | h
            · exact HG.out j h
            · obtain rfl : j = k := by omega
              exact HB.out
    · have hk32 : k = 32 := by have := HMK.out; omega
      subst hk32
      have HB := Lib.hid (show ∀ i, i < 32 → slO p i + slN p i ≤ 4096 from fun i hi => by
        have h1 := slBad_false.1 (HG.out i hi)
        omega)
      have HR6 := Lib.hid (show R = if ∃ i j k, i < 32 ∧ j < i ∧ cov p i k ∧ cov p j k then 6 else 0 by
        rw [HR.out]
        refine if_neg ?_
        rintro ⟨i, hi, h⟩
        rw [HG.out i hi] at h
        cases h)
      go_wp2
      have HM := Lib.hid (Marks.zero wr (fun t => ∃ j, j < 0 ∧ cov p j t) (fun t => by rintro ⟨j, h, _⟩; omega))
      obtain ⟨Bk, hBk⟩ : ∃ b, b = wr.heap.size := ⟨_, rfl⟩
      have HBW := Lib.hid (show w.heap.size ≤ Bk from hBk ▸ HE5.out.size)
      rw [← hBk] at HM
      try rw [← hBk]
      have HBK := Lib.hid hBk
      clear hBk
      go_loopg [10, 11, 12, 13] 32 (fun m i o n q wx => ∃ k : Nat, m + k = 32 ∧ i = .int .i64 k ∧ Hid (∀ i j t, i < k → j < i → ¬ (cov p i t ∧ cov p j t)) ∧ Hid (Marks wx Bk (fun t => ∃ j, j < k ∧ cov p j t)) ∧ Ext w wx)
      case atStart => exact ⟨0, by simp, rfl, Lib.hid (fun i j t h => absurd h (by omega)), HM, HE5.out.alloc _⟩
      case round =>
        obtain ⟨k, hmk, rfl, HNO, HMM, hE⟩ := hrel
        have HE6 := Lib.hid hE; have HMK2 := Lib.hid hmk
        clear hE hmk
        by_cases hlt2 : (k : Int) < 32
        · have hk : k < 32 := by omega
          have HC := Lib.hid (slotOf_calls _ g off c p F (Rep.sl_ext HS.out HE6.out) HP.out k hk)
          obtain ⟨q1, q2⟩ := HRO.out k
          obtain ⟨q3, q4⟩ := HRN.out k
          have hb1 := HB.out k hk
          obtain ⟨o, ho⟩ : ∃ o, o = slO p k := ⟨_, rfl⟩
          obtain ⟨n, hn⟩ : ∃ o, o = slN p k := ⟨_, rfl⟩
          have hcv : ∀ t, cov p k t ↔ o ≤ t ∧ t < o + n := fun t => by rw [ho, hn]; exact Iff.rfl
          rw [← ho] at q1 q2 hb1
          rw [← hn] at q3 q4 hb1
          have HO := Lib.hid ho; have HN := Lib.hid hn; have HCV := Lib.hid hcv
          have e3 : IntKind.i64.wrap (o + n) = o + n := by rw [IntKind.wrap_i64]; omega
          clear ho hn hcv
          go_wp2_with (go_at_call 61; refine HC.out.mono ?_; rintro e w5 ⟨rfl, hE⟩; simp only [← HO.out, ← HN.out]; have HE7 := Lib.hid (HE6.out.ext hE); have HM5 := Lib.hid (HMM.out.same hE HMM.out.lt (fun t => Iff.rfl)); clear hE)
          go_loopg [13] (n.toNat) (fun m q wx => ∃ s : Nat, m + s = (o + n).toNat ∧ q = .int .i64 s ∧ Hid (o ≤ (s : Int) ∧ (s : Int) ≤ o + n) ∧ Hid (∀ t : Int, o ≤ t → t < s → ∀ j, j < k → ¬ cov p j t) ∧ Hid (Marks wx Bk (fun t => (∃ j, j < k ∧ cov p j t) ∨ (o ≤ t ∧ t < s))) ∧ Ext w wx)
          case atStart => exact ⟨o.toNat, by omega, by congr 1; omega, Lib.hid (by omega), Lib.hid (fun t h1 h2 => absurd h2 (by omega)), Lib.hid (HM5.out.same (Only.refl _ _) HM5.out.lt (fun t => ⟨fun h => h.resolve_right (by omega), .inl⟩)), HE7.out⟩
          case round =>
            obtain ⟨s, hms, rfl, HSB, HNV, HMS, hE⟩ := hrel
            have HE8 := Lib.hid hE; have HMS2 := Lib.hid hms
            clear hE hms
            by_cases hls : (s : Int) < o + n
            · have hs4 : s < 4096 := by omega
              have hs5 : (s : Int) < 4096 := by omega
              obtain ⟨m1, m2⟩ := HMS.out s hs4
              by_cases htk : ∃ j, j < k ∧ cov p j s
              · have HTK := Lib.hid htk
                rw [tk_true (.inl htk)] at m1
                clear htk
                go_wp2
                go_ret
                refine ⟨?_, HE8.out⟩
                obtain ⟨j, hj, hc⟩ := HTK.out
                rw [HR6.out, if_pos ⟨k, j, s, hk, hj, (HCV.out s).2 ⟨HSB.out.1, hls⟩, hc⟩]
                rfl
              · have HTK := Lib.hid htk
                rw [tk_false (by rintro (h | ⟨_, h⟩); exact htk h; omega)] at m1
                clear htk
                go_wp2
                go_roundg ((o + n).toNat - (s + 1))
                case measure => have := HMS2.out; omega
                case rel =>
                  refine ⟨s + 1, by have := HMS2.out; omega, rfl, Lib.hid (by have := HSB.out; omega), Lib.hid (fun t h1 h2 j hj hc => ?_), Lib.hid (HMS.out.set s hs4 _ (fun t => ?_)), ?_⟩
                  · by_cases e : t = s
                    · subst e; exact HTK.out ⟨j, hj, hc⟩
                    · exact HNV.out t h1 (by omega) j hj hc
                  · have := HSB.out
                    constructor
                    · rintro (h | h)
                      · exact .inl (.inl h)
                      · by_cases e : t = s
                        · exact .inr e
                        · exact .inl (.inr (by omega))
                    · rintro ((h | h) | h)
                      · exact .inl h
                      · exact .inr (by omega)
                      · exact .inr (by omega)
                  · exact HE8.out.setCell (fun h => absurd h (by have := HBW.out; simp only; omega)) _
            · go_wp2
              go_roundg (32 - (k + 1))
              case measure => have := HMK2.out; omega
              case rel =>
                have hso : (s : Int) = o + n := by have := HSB.out; omega
                refine ⟨k + 1, by have := HMK2.out; omega, rfl, Lib.hid (fun i j t hi hj => ?_), Lib.hid (HMS.out.same (Only.refl _ _) HMS.out.lt (fun t => ?_)), HE8.out⟩
                · rcases Nat.lt_or_ge i k with h | h
                  · exact HNO.out i j t h hj
                  · obtain rfl : i = k := by omega
                    rintro ⟨h1, h2⟩
                    have h3 := (HCV.out t).1 h1
                    exact HNV.out t h3.1 (by omega) j hj h2
                · rw [hso, ← HCV.out t]
                  constructor
                  · rintro ⟨j, hj, hc⟩
                    rcases Nat.lt_or_ge j k with h | h
                    · exact .inl ⟨j, h, hc⟩
                    · obtain rfl : j = k := by omega
                      exact .inr hc
                  · rintro (⟨j, hj, hc⟩ | hc)
                    · exact ⟨j, by omega, hc⟩
                    · exact ⟨k, by omega, hc⟩
        · have hk32 : k = 32 := by have := HMK2.out; omega
          subst hk32
          go_wp2
          go_ret
          refine ⟨?_, HE6.out⟩
          rw [HR6.out, if_neg]
          · rfl
          · rintro ⟨i, j, t, hi, hj, h1, h2⟩
            exact HNO.out i j t hi hj ⟨h1, h2⟩
end Go.Proofs.YtghgjddiheebeaaDoor
