/- The draws' source: what it gives is one of 0 .. n - 1. -/
import Derived.Test.YtdjcfcgkldokgaaB
import Derived.Test.YtdjcfcgkldokgaaQT
import Derived.OpenShut
namespace Go.Proofs.Ytdjcfcgkldokgaa
open Go.RowKit
set_option linter.unusedSimpArgs false
set_option linter.unusedVariables false
/-- A source in block sb that has given at most N numbers; its bytes lie below sb. -/
def Src (sb N : Nat) (w : World) : Prop := ∃ (A : Option Addr) (c : Nat) (bs : List Int) (F : List Nat) (at_ sz : Int), w.heap[sb]? = some (.cells #[.slice A bs.length c, .int .i64 at_, .int .i64 sz] 113 (0, 0)) ∧ (Rep.int .u8).sl w A c bs F ∧ (∀ g ∈ F, g < sb) ∧ bs.length ≤ 1048576 ∧ 0 ≤ at_ ∧ at_ ≤ N
theorem Src.only {sb N : Nat} {w w' : World} {H : List Nat} (h : Src sb N w) (hO : Only H w w') (hH : ∀ g ∈ H, sb < g) : Src sb N w' := by
  obtain ⟨A, c, bs, F, a, z, h1, h2, h3, h4⟩ := h
  exact ⟨A, c, bs, F, a, z, hO.heap h1 (fun hq => Nat.lt_irrefl _ (hH sb hq)), Rep.sl_only h2 hO (fun b hb hq => by have := hH b hq; have := h3 b hb; omega), h3, h4⟩
theorem Src.below {sb N n : Nat} {w w' : World} (h : Src sb N w) (hb : Below n w w') (hn : sb < n) : Src sb N w' := by
  obtain ⟨A, c, bs, F, a, z, h1, h2, h3, h4⟩ := h
  exact ⟨A, c, bs, F, a, z, (hb.block sb hn).trans h1, Rep.sl_keep h2 (fun b hb' => hb.block b (by have := h3 b hb'; omega)), h3, h4⟩
theorem Src.ext {sb N : Nat} {w w' : World} (h : Src sb N w) (hO : Ext w w') : Src sb N w' := h.only hO (by simp)
theorem Src.mono {sb N M : Nat} {w : World} (h : Src sb N w) (hm : N ≤ M) : Src sb M w := by
  obtain ⟨A, c, bs, F, a, z, h1, h2, h3, h4, h5, h6⟩ := h
  exact ⟨A, c, bs, F, a, z, h1, h2, h3, h4, h5, by omega⟩
theorem Src.lt {sb N : Nat} {w : World} (h : Src sb N w) : sb < w.heap.size := by obtain ⟨A, c, bs, F, a, z, h1, -⟩ := h; exact (Array.getElem?_eq_some_iff.1 h1).1
set_option maxRecDepth 100000 in
set_option maxHeartbeats 2000000 in
theorem l1Source_calls (A : Option Addr) (c : Nat) (bs : List Int) (F : List Nat) (w : World) (h : (Rep.int .u8).sl w A c bs F) (hl : bs.length ≤ 1048576) :
    Calls Try.prog 72 #[.slice A bs.length c] w fun e w' => e = .returned (.pointer (some ⟨w.heap.size, 0, none⟩)) ∧ Hid (Src w.heap.size 0 w') ∧ Hid (Ext w w') := by
  have hu := Try.underlying113
  have H := Lib.hid h
  have HL := Lib.hid hl
  have hlt := Rep.sl_lt h
  have hfin : ∀ z : Int, Src w.heap.size 0 (w.alloc (.cells #[.slice A bs.length c, .int .i64 0, .int .i64 z] 113)) := fun z =>
    ⟨A, c, bs, F, 0, z, heap_alloc_new _ _, Rep.sl_ext H.out (alloc_ext _ _), fun g hg => hlt g hg, HL.out, Int.le_refl _, Int.le_refl _⟩
  have HF := Lib.hid hfin
  clear h hl hlt hfin
  go_enter Try.func72, Try.ntmps72
  go_wp2
  all_goals
    go_ret
    exact ⟨rfl, Lib.hid (HF.out _), Lib.hid (alloc_ext _ _)⟩
def NextPost (sb N : Nat) (n : Int) (w : World) (e : Ending) (w' : World) : Prop := ∃ r : Nat, e = .returned (.int .i64 r) ∧ ((1 ≤ n ∧ (r : Int) < n) ∨ (n < 1 ∧ r = 0)) ∧ Hid (Src sb (N + 1) w') ∧ Hid (Only [sb] w w')
set_option maxRecDepth 100000 in
set_option maxHeartbeats 4000000 in
theorem l1Next_calls (sb N : Nat) (w : World) (h : Src sb N w) (hN : N ≤ 1000000) (n : Int) (hn : n ≤ 1048576) :
    Calls Try.prog 74 #[.pointer (some ⟨sb, 0, none⟩), .int .i64 n] w (NextPost sb N n w) := by
  have hu := Try.underlying113
  obtain ⟨A, c, bs, F, a, z, hrow, hs, hne, hl, ha0, haN⟩ := h
  have m := fun o => cell_of_row _ _ o _ _ _ hrow
  have f := fun o => frozen_of_row _ _ o _ _ hrow
  have hO : Only [sb] w (w.setCell ⟨sb, 1, none⟩ (.int .i64 (a + 1))) := (Only.refl _ _).setCell (fun _ => by simp) _
  have hs1 := Rep.sl_only hs hO (fun b hb hb' => by have := hne b hb; simp at hb'; omega)
  have hrow1 := heap_setCell_same w sb 1 _ _ (.int .i64 (a + 1)) hrow
  have hsrc : Src sb (N + 1) (w.setCell ⟨sb, 1, none⟩ (.int .i64 (a + 1))) := ⟨A, c, bs, F, a + 1, z, hrow1, hs1, hne, hl, by omega, by omega⟩
  have HSRC := Lib.hid hsrc; have HO := Lib.hid hO; have HS1 := Lib.hid hs1
  have w0 : IntKind.i64.wrap (a + 1) = a + 1 := by rw [IntKind.wrap_i64] <;> omega
  have w1 : IntKind.i64.wrap (a + 1 - 1) = a := by rw [IntKind.wrap_i64] <;> omega
  clear hsrc hO hs1 hrow1
  by_cases hn1 : n < 1
  · clear hs
    go_enter Try.func74, Try.ntmps74
    go_wp2
    go_ret
    exact ⟨0, rfl, .inr ⟨hn1, rfl⟩, HSRC, HO⟩
  have hn0 : ¬ n = 0 := by omega
  by_cases h0 : bs.length = 0
  · have b2 : (((bs.length : Int)) == 0) = true := by simp [h0]
    have hr : 0 ≤ (a * 7) % n ∧ (a * 7) % n < n := ⟨Int.emod_nonneg _ (by omega), Int.emod_lt_of_pos _ (by omega)⟩
    have w2 : IntKind.i64.wrap (a * 7) = a * 7 := by rw [IntKind.wrap_i64] <;> omega
    obtain ⟨r, hrr⟩ : ∃ r : Nat, (a * 7) % n = r := ⟨((a * 7) % n).toNat, (Int.toNat_of_nonneg hr.1).symm⟩
    have ht : (a * 7).tmod n = (r : Int) := by rw [Int.tmod_eq_emod_of_nonneg (by omega), hrr]
    have HR := Lib.hid (show (r : Int) < n by omega)
    clear hs h0 hr hrr
    go_enter Try.func74, Try.ntmps74
    go_wp2
    go_ret
    exact ⟨r, rfl, .inl ⟨by omega, HR.out⟩, HSRC, HO⟩
  have b2 : (((bs.length : Int)) == 0) = false := by simp [h0]
  have hne0 : ¬ bs = [] := fun e => h0 (by rw [e]; rfl)
  obtain ⟨L, hL⟩ : ∃ L : Int, L = bs.length := ⟨_, rfl⟩
  have hL0 : 0 < L := by omega
  obtain ⟨j, hj⟩ : ∃ j : Int, j = a % L := ⟨_, rfl⟩
  obtain ⟨q, hq⟩ : ∃ q : Int, q = a / L := ⟨_, rfl⟩
  obtain ⟨j', hj'⟩ : ∃ j : Int, j = (a + 1) % L := ⟨_, rfl⟩
  have hj0 : 0 ≤ j ∧ j < L := ⟨by rw [hj]; exact Int.emod_nonneg _ (by omega), by rw [hj]; exact Int.emod_lt_of_pos _ (by omega)⟩
  have hj0' : 0 ≤ j' ∧ j' < L := ⟨by rw [hj']; exact Int.emod_nonneg _ (by omega), by rw [hj']; exact Int.emod_lt_of_pos _ (by omega)⟩
  have hq0 : 0 ≤ q ∧ q ≤ 1000001 := ⟨by rw [hq]; exact Int.ediv_nonneg ha0 (by omega), by rw [hq]; exact Int.le_trans (Int.ediv_le_self _ ha0) (by omega)⟩
  have t1 : a.tmod bs.length = j := by rw [Int.tmod_eq_emod_of_nonneg ha0, ← hL, ← hj]
  have t2 : IntKind.i64.wrap (a.tdiv bs.length) = q := by rw [Int.tdiv_eq_ediv_of_nonneg ha0, ← hL, ← hq, IntKind.wrap_i64] <;> omega
  have t3 : (a + 1).tmod bs.length = j' := by rw [Int.tmod_eq_emod_of_nonneg (by omega), ← hL, ← hj']
  have p1 : j < (bs.length : Int) := by omega
  have p2 : j' < (bs.length : Int) := by omega
  obtain ⟨hj0, -⟩ := hj0; obtain ⟨hj0', -⟩ := hj0'; obtain ⟨hq0, hq1⟩ := hq0
  have k1 : j.toNat < bs.length := by omega
  have k2 : j'.toNat < bs.length := by omega
  obtain ⟨g, off, rfl, hg, -, a0, e0⟩ := Rep.sl_int HS1.out j.toNat k1
  obtain ⟨g', off', e', -, -, a1, e1⟩ := Rep.sl_int HS1.out j'.toNat k2
  injection e' with e'
  injection e' with u1 u2
  subst u1; subst u2
  generalize bs[j.toNat] = x at *
  generalize bs[j'.toNat] = y at *
  have hx : 0 ≤ x ∧ x ≤ 255 := by simpa [Lit.wf, IntKind.min, IntKind.max, IntKind.signed, IntKind.bits] using e0
  have hy : 0 ≤ y ∧ y ≤ 255 := by simpa [Lit.wf, IntKind.min, IntKind.max, IntKind.signed, IntKind.bits] using e1
  obtain ⟨hx0, hx1⟩ := hx; obtain ⟨hy0, hy1⟩ := hy
  have v1 : IntKind.i64.wrap x = x := by rw [IntKind.wrap_i64] <;> omega
  have v2 : IntKind.i64.wrap y = y := by rw [IntKind.wrap_i64] <;> omega
  have v3 : IntKind.i64.wrap (q * 37) = q * 37 := by rw [IntKind.wrap_i64] <;> omega
  obtain ⟨V, hV⟩ : ∃ V : Int, V = x + q * 37 := ⟨_, rfl⟩
  have hV0 : 0 ≤ V ∧ V ≤ 37001000 := by omega
  have v4 : IntKind.i64.wrap (x + q * 37) = V := by rw [← hV, IntKind.wrap_i64] <;> omega
  have v5 : IntKind.i64.wrap (V * 251) = V * 251 := by rw [IntKind.wrap_i64] <;> omega
  have v6 : IntKind.i64.wrap (y * 13) = y * 13 := by rw [IntKind.wrap_i64] <;> omega
  have v7 : IntKind.i64.wrap (V * 251 + y * 13) = V * 251 + y * 13 := by rw [IntKind.wrap_i64] <;> omega
  obtain ⟨U, hU⟩ : ∃ U : Int, U = V * 251 + y * 13 + a := ⟨_, rfl⟩
  have v8 : IntKind.i64.wrap (V * 251 + y * 13 + a) = U := by rw [← hU, IntKind.wrap_i64] <;> omega
  have hU0 : 0 ≤ U := by omega
  have hrow1 := heap_setCell_same w sb 1 _ _ (.int .i64 (a + 1)) hrow
  have mc0 : (w.setCell ⟨sb, 1, none⟩ (.int .i64 (a + 1))).cell? ⟨sb, 0, none⟩ = some (.slice (some ⟨g, off, none⟩) bs.length c) := cell_of_row _ _ 0 _ _ _ hrow1
  obtain ⟨hV0, -⟩ := hV0
  clear hs hL hL0 hj hq hj' k1 k2 e0 e1 h0 hV hU hrow1
  by_cases hb : 200 < n
  · have b3 : decide (200 < n) = true := by simp [hb]
    obtain ⟨r, hrr⟩ : ∃ r : Nat, U % n = r := ⟨(U % n).toNat, (Int.toNat_of_nonneg (Int.emod_nonneg _ hn0)).symm⟩
    have ht : U.tmod n = (r : Int) := by rw [Int.tmod_eq_emod_of_nonneg hU0, hrr]
    have HR := Lib.hid (show (r : Int) < n by have := Int.emod_lt_of_pos U (show 0 < n by omega); omega)
    clear hrr
    go_enter Try.func74, Try.ntmps74
    go_wp2_with fail
    refine region_ext (by kernel_rfl) (by kernel_rfl) ?_
    repeat (first
      | (refine WQ.skip (by rfl) ?_
         try simp only [Act.put, List.setIfInBounds_toArray, List.set_cons_zero, List.set_cons_succ])
      | (refine WQ.take ?_ (by rfl) (fun w' hw => ?_) ?_
         rotate_left
         · have cq0 := hw.ecell mc0
           have cq1 := hw.ecell a0
           unfold Oper.quietAt
           go_simp
           first
             | done
             | exact ⟨rfl, rfl⟩
             | exact rfl
         try simp only [Act.put, List.setIfInBounds_toArray, List.set_cons_zero, List.set_cons_succ]))
    refine WQ.nil ?_
    intro wq hwq
    have c0 := hwq.ecell mc0
    have c1 := hwq.ecell a1
    have HQ := Lib.hid hwq
    clear hwq
    go_wp2_with fail
    refine region_ext (by kernel_rfl) (by kernel_rfl) ?_
    repeat (first
      | (refine WQ.skip (by rfl) ?_
         try simp only [Act.put, List.setIfInBounds_toArray, List.set_cons_zero, List.set_cons_succ])
      | (refine WQ.take ?_ (by rfl) (fun w' hw => ?_) ?_
         rotate_left
         · have cq0 := hw.ecell c0
           have cq1 := hw.ecell c1
           unfold Oper.quietAt
           go_simp
           first
             | done
             | exact ⟨rfl, rfl⟩
             | exact rfl
         try simp only [Act.put, List.setIfInBounds_toArray, List.set_cons_zero, List.set_cons_succ]))
    refine WQ.nil ?_
    intro wp hwp
    have HP := Lib.hid (HQ.out.ext hwp)
    clear hwp c0 c1 a0 a1 mc0
    go_wp2
    go_ret
    exact ⟨r, rfl, .inl ⟨by omega, HR.out⟩, Lib.hid (HSRC.out.ext HP.out), Lib.hid (HO.out.ext HP.out)⟩
  · have b3 : decide (200 < n) = false := by simp; omega
    obtain ⟨r, hrr⟩ : ∃ r : Nat, V % n = r := ⟨(V % n).toNat, (Int.toNat_of_nonneg (Int.emod_nonneg _ hn0)).symm⟩
    have ht : V.tmod n = (r : Int) := by rw [Int.tmod_eq_emod_of_nonneg hV0, hrr]
    have HR := Lib.hid (show (r : Int) < n by have := Int.emod_lt_of_pos V (show 0 < n by omega); omega)
    clear hrr
    go_enter Try.func74, Try.ntmps74
    go_wp2_with fail
    refine region_ext (by kernel_rfl) (by kernel_rfl) ?_
    repeat (first
      | (refine WQ.skip (by rfl) ?_
         try simp only [Act.put, List.setIfInBounds_toArray, List.set_cons_zero, List.set_cons_succ])
      | (refine WQ.take ?_ (by rfl) (fun w' hw => ?_) ?_
         rotate_left
         · have cq0 := hw.ecell mc0
           have cq1 := hw.ecell a0
           unfold Oper.quietAt
           go_simp
           first
             | done
             | exact ⟨rfl, rfl⟩
             | exact rfl
         try simp only [Act.put, List.setIfInBounds_toArray, List.set_cons_zero, List.set_cons_succ]))
    refine WQ.nil ?_
    intro wq hwq
    have HQ := Lib.hid hwq
    clear hwq a0 a1 mc0
    go_wp2
    go_ret
    exact ⟨r, rfl, .inl ⟨by omega, HR.out⟩, Lib.hid (HSRC.out.ext HQ.out), Lib.hid (HO.out.ext HQ.out)⟩
def ChancePost (sb N : Nat) (w : World) (e : Ending) (w' : World) : Prop := ∃ r : Bool, e = .returned (.bool r) ∧ Hid (Src sb (N + 1) w') ∧ Hid (Only [sb] w w')
theorem l1Chance_calls (sb N : Nat) (w : World) (h : Src sb N w) (hN : N ≤ 1000000) (n : Int) (hn : n ≤ 1048576) :
    Calls Try.prog 96 #[.pointer (some ⟨sb, 0, none⟩), .int .i64 n] w (ChancePost sb N w) := by
  have H := Lib.hid h
  clear h
  go_enter Try.func96, Try.ntmps96
  go_wp2_with (go_at_call 74; refine (l1Next_calls sb N w H.out hN n hn).mono ?_; rintro e w1 ⟨r, rfl, -, HS1, HO1⟩)
  go_ret
  exact ⟨_, rfl, HS1, HO1⟩
theorem bytes_cells (w : World) : ∀ (xs : List Int), (∀ x ∈ xs, (Lit.int .u8 x).wf = true) → (Rep.int .u8).cells w xs (xs.map (Value.int .u8)) []
  | [], _ => ⟨rfl, rfl⟩
  | x :: xs, h => Rep.cells_append (xs := [x]) (ys := xs) |>.2 ⟨[.int .u8 x], _, [], [], rfl, rfl, Rep.cells_one.2 ⟨rfl, rfl, h x (by simp)⟩, bytes_cells w xs fun y hy => h y (by simp [hy])⟩
/-- Bytes that lie alone in block g. -/
def BB (g : Nat) (xs : List Int) (w : World) : Prop := w.heap[g]? = some (.cells (xs.map (Value.int .u8)).toArray 5 (0, 0)) ∧ ∀ x ∈ xs, (Lit.int .u8 x).wf = true
theorem BB.sl {g : Nat} {xs : List Int} {w : World} (h : BB g xs w) (hm : xs.length ≤ maxLen) : (Rep.int .u8).sl w (some ⟨g, 0, none⟩) xs.length xs [g] := by
  refine ⟨Nat.le_refl _, hm, .inr ⟨g, 0, [], _, rfl, rfl, (Array.getElem?_eq_some_iff.1 h.1).1, bytes_cells w xs h.2, fun j u hu => ?_⟩⟩
  rw [Nat.zero_add, cell_of_row w g j _ _ _ h.1]
  simpa using hu
theorem BB.only {g : Nat} {xs : List Int} {w w' : World} {H : List Nat} (h : BB g xs w) (hO : Only H w w') (hg : g ∉ H) : BB g xs w' := ⟨hO.heap h.1 hg, h.2⟩
theorem BB.set {g : Nat} {xs : List Int} {w : World} (h : BB g xs w) (j : Nat) (v : Int) (hv : (Lit.int .u8 v).wf = true) : BB g (xs.set j v) (w.setCell ⟨g, j, none⟩ (.int .u8 v)) := by
  refine ⟨?_, fun x hx => ?_⟩
  · rw [heap_setCell_same w g j _ _ (.int .u8 v) h.1]
    simp [List.map_set]
  · rcases List.mem_or_eq_of_mem_set hx with hx | rfl
    · exact h.2 x hx
    · exact hv
theorem BB.cell {g : Nat} {xs : List Int} {w : World} (h : BB g xs w) {j : Nat} {v : Int} (hj : xs[j]? = some v) : w.cell? ⟨g, j, none⟩ = some (.int .u8 v) := by
  rw [cell_of_row w g j _ _ _ h.1]
  simp [hj]
theorem BB.frozen {g : Nat} {xs : List Int} {w : World} (h : BB g xs w) (j : Nat) : w.frozen? ⟨g, j, none⟩ = false := frozen_of_row w g j _ _ h.1
theorem BB.unfr {g : Nat} {xs : List Int} {w : World} (h : BB g xs w) : Unfr w [g] := fun b hb j => by simp at hb; subst hb; exact h.frozen j
theorem made_one (z : Value) (n : Nat) (hz : z.cells = #[z]) : madeCells z.cells n = Array.replicate n z := by
  rw [hz]
  apply Array.ext
  · simp [madeCells]
  · intro i h1 h2
    simp [madeCells, Nat.mod_one]
theorem infoU8 : (Try.prog.info? 5).map (fun i => (i.zero, i.size, i.bytes)) = some (some (.int .u8 0), 1, 1) := by kernel_rfl
theorem mk_bytesN (w : World) (n : Nat) (hn : n ≤ 1048576) : (Instr.makeSlice 22 (.int .i64 n) (.int .i64 n)).run Try.prog w = .ok (.slice (some ⟨w.heap.size, 0, none⟩) n n) (w.alloc (.cells (Array.replicate n (.int .u8 0)) 5)) := by
  obtain ⟨i0, hi, hz0, hz1, hz2⟩ := info_parts infoU8
  have h := run_make (P := Try.prog) w 22 5 i0 _ Try.underlying22 hi hz0 .i64 .i64 n n (by omega) (by omega) (by rw [hz2]; omega) (by omega)
  rw [hz1, made_one _ _ rfl] at h
  simpa using h
theorem BB.made (w : World) (n : Nat) : BB w.heap.size (List.replicate n 0) (w.alloc (.cells (Array.replicate n (.int .u8 0)) 5)) := by
  refine ⟨?_, fun x hx => ?_⟩
  · rw [heap_alloc_new]
    simp
  · obtain ⟨-, rfl⟩ := List.mem_replicate.1 hx; rfl
/-- New bytes, n of them, in a block of their own. -/
def FillPost (sb N n : Nat) (w : World) (e : Ending) (w' : World) : Prop := ∃ (xs : List Int) (g : Nat), e = .returned (.slice (some ⟨g, 0, none⟩) n n) ∧ Hid (xs.length = n) ∧ Hid (w.heap.size ≤ g) ∧ Hid (BB g xs w') ∧ Hid (Src sb (N + 2) w') ∧ Hid (Only [sb] w w')
set_option maxRecDepth 100000 in
set_option maxHeartbeats 2000000 in
theorem l1Fill_calls (sb N : Nat) (w : World) (h : Src sb N w) (hN : N ≤ 900000) (n : Nat) (nz : Int) (hnz : nz = n) (hn : n ≤ 1048576) :
    Calls Try.prog 95 #[.pointer (some ⟨sb, 0, none⟩), .int .i64 nz] w (FillPost sb N n w) := by
  subst hnz
  have H := Lib.hid h
  have hn0 : ¬ (n : Int) < 0 := by omega
  have hmk := fun W => mk_bytesN W n hn
  clear h
  go_enter Try.func95, Try.ntmps95
  go_wp2_with (first
    | (go_at_call 74; refine (l1Next_calls sb (N + 1) _ HS1.out (by omega) 5 (by decide)).mono ?_; rintro e w2 ⟨r2, rfl, -, HS2, HO2⟩; have HO := Lib.hid (HO1.out.trans HO2.out))
    | (go_at_call 74; refine (l1Next_calls sb N w H.out (by omega) 256 (by decide)).mono ?_; rintro e w1 ⟨r1, rfl, -, HS1, HO1⟩))
  clear hmk
  have HSC := Lib.hid (HS2.out.ext (alloc_ext w2 (.cells (Array.replicate n (.int .u8 0)) 5)))
  have HB0 := Lib.hid (BB.made w2 n)
  have hws : w.heap.size ≤ w2.heap.size := HO.out.size
  have HOA := Lib.hid (HO.out.alloc (.cells (Array.replicate n (.int .u8 0)) 5))
  have hsb : sb < w2.heap.size := HS2.out.lt
  generalize IntKind.u8.wrap (r1 : Int) = x1 at *
  generalize IntKind.u8.wrap (r2 : Int) = x2 at *
  go_loopg [8] n (fun m i wr => ∃ (k : Nat) (xs : List Int), m + k = n ∧ i = .int .i64 k ∧ Hid (xs.length = n) ∧ Hid (BB w2.heap.size xs wr) ∧ Hid (Src sb (N + 2) wr) ∧ Hid (Only [sb] w wr))
  case atStart => exact ⟨0, _, by simp, rfl, Lib.hid (by simp), HB0, HSC, HOA⟩
  case round =>
    obtain ⟨k, xs, hk, rfl, HL, HB, HS, HOW⟩ := hrel
    have HK := Lib.hid hk
    by_cases hlt : k < n
    · obtain ⟨v, hv⟩ : ∃ v, xs[k]? = some v := ⟨_, List.getElem?_eq_getElem (by rw [HL.out]; exact hlt)⟩
      have cq := HB.out.cell hv
      have fq := HB.out.frozen k
      have hwf := fun z => Go.wf_wrap .u8 z
      have HWF := Lib.hid hwf
      clear hv hk hwf
      go_wp2
      go_roundg (n - (k + 1))
      case measure => have := HK.out; omega
      case rel => exact ⟨k + 1, xs.set k _, by have := HK.out; omega, by go_num, Lib.hid (by rw [List.length_set]; exact HL.out), Lib.hid (HB.out.set k _ (HWF.out _)), Lib.hid (HS.out.only ((Only.refl [w2.heap.size] wr).setCell (fun _ => by simp) _) (by simp; omega)), Lib.hid (HOW.out.setCell (fun hq => absurd hq (by dsimp only; omega)) _)⟩
    · obtain rfl : k = n := by omega
      clear hk hlt
      go_wp2
      go_ret
      exact ⟨xs, w2.heap.size, rfl, HL, Lib.hid hws, HB, HS, HOW⟩
end Go.Proofs.Ytdjcfcgkldokgaa
