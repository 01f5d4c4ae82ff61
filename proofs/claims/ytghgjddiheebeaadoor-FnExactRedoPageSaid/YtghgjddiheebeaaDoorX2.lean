/- Slots of a page: the program's way. -/
import Derived.Test.YtghgjddiheebeaaDoorX1
namespace Go.Proofs.YtghgjddiheebeaaDoor
open Go.RowKit
set_option linter.unusedSimpArgs false
set_option linter.unusedVariables false
theorem beAt_range2 {p : List Int} (hw : ∀ z ∈ p, 0 ≤ z ∧ z ≤ 255) (i n : Nat) : 0 ≤ beAt p i n ∧ beAt p i n < 256 ^ ((p.drop i).take n).length := by
  have h := beFromZ_range ((p.drop i).take n) 0 (fun z hz => hw z (List.mem_of_mem_drop (List.mem_of_mem_take hz)))
  show 0 ≤ Lib.beFromZ 0 ((p.drop i).take n) ∧ Lib.beFromZ 0 ((p.drop i).take n) < _
  simpa using h
theorem beAt_u16 {p : List Int} (hw : ∀ z ∈ p, 0 ≤ z ∧ z ≤ 255) (i : Nat) : 0 ≤ beAt p i 2 ∧ beAt p i 2 ≤ 65535 := by
  obtain ⟨h1, h2⟩ := beAt_range2 hw i 2
  have h3 := pow256_mono (a := ((p.drop i).take 2).length) (b := 2) (by simp; omega)
  have h4 : (256 : Int) ^ 2 = 65536 := by decide
  omega
theorem beAt_u32 {p : List Int} (hw : ∀ z ∈ p, 0 ≤ z ∧ z ≤ 255) (i : Nat) : 0 ≤ beAt p i 4 ∧ beAt p i 4 ≤ 4294967295 := by
  obtain ⟨h1, h2⟩ := beAt_range2 hw i 4
  have h3 := pow256_mono (a := ((p.drop i).take 4).length) (b := 4) (by simp; omega)
  have h4 : (256 : Int) ^ 4 = 4294967296 := by decide
  omega
def slO (p : List Int) (i : Nat) : Int := beAt p (20 + 4 * i) 2
def slN (p : List Int) (i : Nat) : Int := beAt p (20 + 4 * i + 2) 2
set_option maxRecDepth 100000 in
set_option maxHeartbeats 2000000 in
theorem slotOf_calls (w : World) (g off c : Nat) (p : List Int) (F : List Nat) (h : (Rep.int .u8).sl w (some ⟨g, off, none⟩) c p F) (hp : p.length = 4096) (i : Nat) (hi : i < 32) :
    Calls Tryd.prog 61 #[.slice (some ⟨g, off, none⟩) 4096 c, .int .i64 i] w fun e w' => e = .returned (.tuple #[.int .i64 (slO p i), .int .i64 (slN p i)]) ∧ Ext w w' := by
  have hw : ∀ z ∈ p, 0 ≤ z ∧ z ≤ 255 := fun z hz => Lib.byte_of_wf (sl_wf h z hz)
  obtain ⟨r1, r2⟩ := beAt_u16 hw (20 + 4 * i)
  obtain ⟨r3, r4⟩ := beAt_u16 hw (20 + 4 * i + 2)
  have HS := Lib.hid h; have HP := Lib.hid hp
  have hpc := h.1
  rw [hp] at hpc
  show Calls _ _ _ _ (fun e w' => e = .returned (.tuple #[.int .i64 (beAt p (20 + 4 * i) 2), .int .i64 (beAt p (20 + 4 * i + 2) 2)]) ∧ Ext w w')
  obtain ⟨x, hx⟩ : ∃ x, x = beAt p (20 + 4 * i) 2 := ⟨_, rfl⟩
  obtain ⟨y, hy⟩ : ∃ y, y = beAt p (20 + 4 * i + 2) 2 := ⟨_, rfl⟩
  rw [← hx] at r1 r2 ⊢
  rw [← hy] at r3 r4 ⊢
  have HX := Lib.hid hx; have HY := Lib.hid hy
  obtain ⟨a, ha⟩ : ∃ a : Nat, a = 20 + 4 * i := ⟨_, rfl⟩
  obtain ⟨b, hb⟩ : ∃ b : Nat, b = a + 2 := ⟨_, rfl⟩
  have HB := Lib.hid hb
  obtain ⟨na, hna⟩ : ∃ n, n = 4096 - a := ⟨_, rfl⟩
  obtain ⟨nb, hnb⟩ : ∃ n, n = 4096 - b := ⟨_, rfl⟩
  have e10 : 4096 - a = na := hna.symm
  have e11 : 4096 - b = nb := hnb.symm
  have HNA := Lib.hid hna; have HNB := Lib.hid hnb
  have e1 : IntKind.i64.wrap (4 * (i : Int)) = 4 * (i : Int) := by rw [IntKind.wrap_i64]; omega
  have e2 : IntKind.i64.wrap (20 + 4 * (i : Int)) = (a : Int) := by rw [IntKind.wrap_i64]; omega
  have e2' : IntKind.i64.wrap (4 * (i : Int) + 20) = (a : Int) := by rw [IntKind.wrap_i64]; omega
  have e3 : IntKind.i64.wrap ((a : Int) + 2) = (b : Int) := by rw [IntKind.wrap_i64]; omega
  have e4 : (a : Int) ≤ 4096 := by omega
  have e5 : (b : Int) ≤ 4096 := by omega
  have e6 : (4096 - (a : Int)).toNat = na := by omega
  have e7 : (4096 - (b : Int)).toNat = nb := by omega
  have e8 : IntKind.i64.wrap x = x := by rw [IntKind.wrap_i64]; omega
  have e9 : IntKind.i64.wrap y = y := by rw [IntKind.wrap_i64]; omega
  have f1 : ¬ c = a := by omega
  have f2 : ¬ c = b := by omega
  have HI := Lib.hid hi; have HA := Lib.hid ha
  clear hna hnb h hx hy hp ha hb hi hw
  go_enter Tryd.func61, Tryd.ntmps61
  go_wp2_with fail
  refine region_ext (by kernel_rfl) (by kernel_rfl) ?_
  repeat (first
    | (refine WQ.skip (by rfl) ?_
       try simp only [Act.put, List.setIfInBounds_toArray, List.set_cons_zero, List.set_cons_succ])
    | (refine WQ.take ?_ (by rfl) (fun w' hw => ?_) ?_
       rotate_left
       · unfold Oper.quietAt
         go_simp
         first
           | done
           | exact ⟨rfl, rfl⟩
           | exact rfl
       try simp only [Act.put, List.setIfInBounds_toArray, List.set_cons_zero, List.set_cons_succ])
    | (refine WQ.take (.int .u16 x) (by rfl) (fun w' hw => ?_) ?_
       · unfold Oper.quietAt
         go_simp
         go_at_call_of 65 (na)
         exact ((beU16_calls _ _ _ _ _ _ _ _ (Rep.sl_ext HS.out hw) a (by have := HI.out; have := HA.out; have := HP.out; omega) (by have := HI.out; have := HA.out; have := HNA.out; omega)).mono (fun e w5 h5 => ⟨by rw [h5.1, HX.out, HA.out], hw.ext h5.2⟩))
       try simp only [Act.put, List.setIfInBounds_toArray, List.set_cons_zero, List.set_cons_succ])
    | (refine WQ.take (.int .u16 y) (by rfl) (fun w' hw => ?_) ?_
       · unfold Oper.quietAt
         go_simp
         go_at_call_of 65 (nb)
         exact ((beU16_calls _ _ _ _ _ _ _ _ (Rep.sl_ext HS.out hw) b (by have := HI.out; have := HA.out; have := HP.out; have := HB.out; omega) (by have := HI.out; have := HA.out; have := HB.out; have := HNB.out; omega)).mono (fun e w5 h5 => ⟨by rw [h5.1, HY.out, HB.out, HA.out], hw.ext h5.2⟩))
       try simp only [Act.put, List.setIfInBounds_toArray, List.set_cons_zero, List.set_cons_succ]))
  refine WQ.nil ?_
  intro w2 hw2
  have HE2 := Lib.hid hw2
  clear hw2
  go_wp2
  go_ret2
  exact ⟨rfl, HE2.out⟩
end Go.Proofs.YtghgjddiheebeaaDoor
