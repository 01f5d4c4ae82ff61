/- The laws' own small functions over lists of bytes: how they copy, measure, hold against each other, mark and look for marks. -/
import Derived.Test.YtdjcfcgkldokgaaA
import Derived.Test.YtdjcfcgkldokgaaProg
import Derived.Deep.QuietTactic
import Derived.BigQuiet
namespace Go.Proofs.Ytdjcfcgkldokgaa
open Go.RowKit

def SzPost (left : Int) (n : Nat) (w : World) (e : Ending) (w' : World) : Prop :=
  (∃ r : Int, e = .returned (.int .i64 r) ∧ (r = -1 ∨ 0 ≤ r ∧ r + n = left)) ∧ Ext w w'
def NewPost {α : Type} (r : Rep α) (x : α) (w : World) (e : Ending) (w' : World) : Prop :=
  ∃ v F, e = .returned v ∧ r.V w' v x F ∧ New w w' F
def MarkPost {α : Type} (r : Rep α) (A : Option Addr) (c : Nat) (x : List α) (F : List Nat) (k : Int) (w : World) (e : Ending) (w' : World) : Prop :=
  e = .returned (.int .i64 k) ∧ r.sl w' A c x F ∧ Only F w w' ∧ Unfr w' F

theorem info5 : (Try.prog.info? 5).map (fun i => (i.zero, i.size, i.bytes)) = some (some (.int .u8 0), 1, 1) := by kernel_rfl

theorem ret_int {k : IntKind} {a b : Int} (h : a = b) : Ending.returned (.int k a) = .returned (.int k b) := by rw [h]
theorem ret_bool {a b : Bool} (h : a = b) : Ending.returned (.bool a) = .returned (.bool b) := by rw [h]

theorem szByteS_calls (A : Option Addr) (c : Nat) (n : Nat) (left : Int) (w : World) (h0 : 0 ≤ left) (h1 : left ≤ 4611686018427387904) (hn : n ≤ maxLen) :
    Calls Try.prog 53 #[.slice A n c, .int .i64 left] w (SzPost left n w) := by
  unfold maxLen at hn
  go_enter Try.func53, Try.ntmps53
  go_wp2
  all_goals go_ret
  · exact ⟨⟨-1, rfl, .inl rfl⟩, Only.refl _ _⟩
  · exact ⟨⟨_, rfl, .inr ⟨by omega, by omega⟩⟩, Only.refl _ _⟩

/-- The block of cells of one kind that a list of numbers fills. -/
theorem cells_ints {k : IntKind} {w : World} : ∀ (xs : List Int), (∀ x ∈ xs, (Lit.int k x).wf = true) → (Rep.int k).cells w xs (xs.map (.int k)) []
  | [], _ => ⟨rfl, rfl⟩
  | x :: xs, h => ⟨[.int k x], xs.map (.int k), [], [], rfl, rfl, ⟨rfl, rfl, h x (by simp)⟩, cells_ints xs fun y hy => h y (by simp [hy])⟩
theorem cells_ints_inv {k : IntKind} {w : World} : ∀ {xs : List Int} {cs F}, (Rep.int k).cells w xs cs F → cs = xs.map (.int k) ∧ F = [] ∧ ∀ x ∈ xs, (Lit.int k x).wf = true
  | [], _, _, ⟨h1, h2⟩ => ⟨h1, h2, by simp⟩
  | x :: xs, _, _, ⟨c1, c2, F1, F2, e1, e2, ⟨h1, h2, hw⟩, h⟩ => by
    obtain ⟨h3, h4, hh⟩ := cells_ints_inv h
    exact ⟨by rw [e1, h1, h3]; rfl, by rw [e2, h2, h4]; rfl, by simpa [hw] using hh⟩
theorem sl_wf {k : IntKind} {w : World} {A : Option Addr} {c : Nat} {xs : List Int} {F : List Nat} (h : (Rep.int k).sl w A c xs F) : ∀ x ∈ xs, (Lit.int k x).wf = true := by
  rcases h.2.2 with ⟨rfl, _⟩ | ⟨g, off, G, cs, rfl, rfl, hg, hr, hc⟩
  · simp
  · exact (cells_ints_inv hr).2.2

theorem toByteS_calls (A : Option Addr) (c : Nat) (xs : List Int) (F : List Nat) (w : World) (h : (Rep.int .u8).sl w A c xs F) (hn : xs.length ≤ 281474976710656) :
    Calls Try.prog 18 #[.slice A xs.length c] w (NewPost (Rep.int .u8).slice xs w) := by
  have Hwf := Lib.hid (sl_wf h)
  obtain ⟨i0, hi, hz0, hz1, hz2⟩ := info_parts info5
  have hmk := fun (W : World) => run_make (P := Try.prog) W 22 5 i0 _ Try.underlying22 hi hz0 .i64 .i64 xs.length xs.length (by omega) (by omega) (by rw [hz2]; omega) (by omega)
  rw [hz1] at hmk
  clear hz1 hz2 hz0
  go_enter Try.func18, Try.ntmps18
  go_wp2
  clear hmk
  go_loopg [4] (xs.length) (fun m i wr => ∃ k : Nat, m + k = xs.length ∧ i = .int .i64 k ∧ Ext w wr ∧ ∃ arr, wr.heap[w.heap.size]? = some (.cells arr 5 (0, 0)) ∧ arr.size = xs.length ∧ ∀ j, j < k → arr[j]? = xs[j]?.map (.int .u8))
  case atStart => exact ⟨0, by simp, rfl, (Only.refl _ _).alloc _, _, heap_alloc_new _ _, by simp [size_madeCells], fun j hj => by omega⟩
  case round =>
    obtain ⟨k, hk, rfl, hO, arr, harr, hsz, hall⟩ := hrel
    have HO := Lib.hid hO; have HA := Lib.hid harr; have HS := Lib.hid hsz; have HL := Lib.hid hall; have HK := Lib.hid hk
    clear hO harr hsz hall hk
    by_cases hlt : k < xs.length
    · obtain ⟨g, off, rfl, hg, _, hc, _⟩ := Rep.sl_int h k hlt
      have hc' := HO.out.ecell hc
      have hc2 : wr.cell? ⟨w.heap.size, k, none⟩ = some (arr[k]'(by rw [HS.out]; omega)) := by rw [cell_of_row wr _ k arr _ (0, 0) HA.out]; simp
      have hf2 : wr.frozen? ⟨w.heap.size, k, none⟩ = false := frozen_of_row wr _ k arr _ HA.out
      clear hc h
      go_wp2
      go_roundg (xs.length - (k + 1))
      case measure => have := HK.out; omega
      case rel =>
        refine ⟨k + 1, by omega, by go_num, HO.out.setCell (fun h => absurd h (by simp)) _, _, heap_setCell_same _ _ _ _ _ _ HA.out, by simp [HS.out], fun j hj => ?_⟩
        rw [Array.getElem?_setIfInBounds]
        have := HS.out
        split
        · subst k; rw [if_pos (by omega)]; simp [hlt]
        · exact HL.out j (by omega)
    · have hk := HK.out
      go_wp2
      go_ret
      have earr : arr = (xs.map (Value.int .u8)).toArray := by
        apply Array.ext_getElem?
        intro j
        by_cases hj : j < xs.length
        · rw [HL.out j (by omega)]; simp
        · rw [Array.getElem?_eq_none (by have := HS.out; omega), Array.getElem?_eq_none (by simp; omega)]
      subst earr
      refine ⟨_, [w.heap.size], rfl, ⟨_, ⟨_, _, rfl, Nat.le_refl _, by unfold maxLen; omega, .inr ⟨w.heap.size, 0, [], _, rfl, rfl, (Array.getElem?_eq_some_iff.1 HA.out).1, cells_ints xs Hwf.out, fun j u hu => ?_⟩⟩, rfl⟩, HO.out, by simp, by simp, ?_⟩
      · rw [Nat.zero_add, cell_of_row _ _ _ _ _ _ HA.out]; simpa using hu
      · intro g hg j
        rw [List.mem_singleton] at hg
        subst hg
        exact frozen_of_row _ _ _ _ _ HA.out

theorem eqByteS_calls (A : Option Addr) (c : Nat) (xs : List Int) (F : List Nat) (B : Option Addr) (d : Nat) (ys : List Int) (G : List Nat) (w : World) (h : (Rep.int .u8).sl w A c xs F) (k : (Rep.int .u8).sl w B d ys G) :
    Calls Try.prog 20 #[.slice A xs.length c, .slice B ys.length d] w fun e w' => e = .returned (.bool (decide (xs = ys))) ∧ Ext w w' := by
  have hm1 := h.1; have hm2 := h.2.1; have hm3 := k.1; have hm4 := k.2.1
  unfold maxLen at hm2 hm4
  by_cases hl : xs.length = ys.length
  · have hb : ((xs.length : Int) != ys.length) = false := by simp [hl]
    have HL := Lib.hid hl
    clear hl
    go_enter Try.func20, Try.ntmps20
    go_wp2
    go_loopg [5] (xs.length) (fun m i wr => ∃ j : Nat, m + j = xs.length ∧ i = .int .i64 j ∧ Ext w wr ∧ Hid (xs.take j = ys.take j))
    case atStart => exact ⟨0, by simp, rfl, Only.refl _ _, by simp [Hid]⟩
    case round =>
      obtain ⟨j, hj, rfl, hO, HT⟩ := hrel
      have HO := Lib.hid hO; have HJ := Lib.hid hj
      clear hO hj
      by_cases hlt : j < xs.length
      · have hlt2 : j < ys.length := by have := HL.out; omega
        obtain ⟨g1, o1, rfl, _, _, c1, _⟩ := Rep.sl_int h j hlt
        obtain ⟨g2, o2, rfl, _, _, c2, _⟩ := Rep.sl_int k j hlt2
        have c1' := HO.out.ecell c1
        have c2' := HO.out.ecell c2
        clear c1 c2 h k
        by_cases he : xs[j] = ys[j]
        · have hb2 : (xs[j] != ys[j]) = false := by simp [he]
          have HE := Lib.hid he
          clear he
          go_wp2
          go_quiet (fail)
          go_wp2
          go_roundg (xs.length - (j + 1))
          case measure => have := HJ.out; omega
          case rel =>
            refine ⟨j + 1, by omega, by go_num, HO.out.drewN _, ?_⟩
            show _ = _
            rw [List.take_succ_eq_append_getElem hlt, List.take_succ_eq_append_getElem hlt2, HT.out, HE.out]
        · have hb2 : (xs[j] != ys[j]) = true := by simp [he]
          go_wp2
          go_quiet (fail)
          go_wp2
          go_ret
          exact ⟨ret_bool (by symm; rw [decide_eq_false_iff_not]; rintro rfl; exact he rfl), HO.out.drewN _⟩
      · have hj := HJ.out
        have hj2 := HL.out
        have ht := HT.out
        clear HJ HL HT
        rw [List.take_of_length_le (by omega), List.take_of_length_le (by omega)] at ht
        clear hj2
        have HT := Lib.hid ht
        clear ht
        go_wp2
        go_ret
        exact ⟨ret_bool (by simp [HT.out]), HO.out⟩
  · have hb : ((xs.length : Int) != ys.length) = true := by simp; omega
    go_enter Try.func20, Try.ntmps20
    go_wp2
    go_ret
    exact ⟨ret_bool (by symm; rw [decide_eq_false_iff_not]; rintro rfl; exact hl rfl), Only.refl _ _⟩

theorem wf_wrapped (k : IntKind) (e : Int) : (Lit.int k (k.wrap e)).wf = true := by
  cases k <;> simp [Lit.wf, IntKind.wrap, IntKind.min, IntKind.max, IntKind.signed, IntKind.bits] <;> (try split) <;> omega
/-- A number in the place of another. -/
theorem sl_int_set {k : IntKind} {w : World} {A : Option Addr} {c : Nat} {xs : List Int} {F : List Nat} (h : (Rep.int k).sl w A c xs F) (hn : F.Nodup) (hu : Unfr w F) (i : Nat) (hi : i < xs.length) :
    ∃ g off u, A = some ⟨g, off, none⟩ ∧ g ∈ F ∧ g < w.heap.size ∧ w.cell? ⟨g, off + i, none⟩ = some u ∧ w.frozen? ⟨g, off + i, none⟩ = false ∧
      ∀ y, (Lit.int k y).wf = true → (Rep.int k).sl (w.setCell ⟨g, off + i, none⟩ (.int k y)) A c (xs.set i y) F ∧ Unfr (w.setCell ⟨g, off + i, none⟩ (.int k y)) F := by
  obtain ⟨g, off, d, G, rfl, hg, hF, _, ⟨rfl, rfl, hwf⟩, _, _, hc, hupd⟩ := Rep.sl_upd h hn i hi
  have hc0 := hc 0 _ rfl
  simp only [Rep.int, Nat.mul_one, Nat.add_zero] at hc0
  refine ⟨g, off, _, rfl, hF, hg, hc0, hu g hF _, fun y hy => ⟨hupd _ y [.int k y] ⟨rfl, rfl, hy⟩ (by simpa [World.setCell] using hg) ?_ ?_ ?_, ?_⟩⟩
  · intro j u hj
    match j, hj with
    | 0, hj =>
      simp only [List.getElem?_cons_zero, Option.some.injEq] at hj
      subst hj
      simp only [Rep.int, Nat.mul_one, Nat.add_zero]
      exact World.cell?_setCell_same _ _ _ hc0
  · intro j hj
    refine World.cell?_setCell_other _ _ _ _ ?_
    simp only [Rep.int] at hj
    intro e
    injection e
    omega
  · intro b hb hne _
    exact Below.heap_setCell _ _ _ _ hne
  · intro b hb j
    rw [World.frozen?_setCell]
    exact hu b hb j

/-- What marking lays into bytes from the number k on. -/
def mkB (k : Int) (xs : List Int) : List Int := (List.range xs.length).map fun (i : Nat) => IntKind.u8.wrap (k + i)
theorem mkB_len (k : Int) (xs : List Int) : (mkB k xs).length = xs.length := by simp [mkB]
theorem mkB_at (k : Int) (xs : List Int) (i : Nat) (h : i < (mkB k xs).length) : (mkB k xs)[i] = IntKind.u8.wrap (k + i) := by simp [mkB]
theorem mkB_step (k : Int) (xs : List Int) (j : Nat) (h : j < xs.length) : ((mkB k xs).take j ++ xs.drop j).set j (IntKind.u8.wrap (k + j)) = (mkB k xs).take (j + 1) ++ xs.drop (j + 1) := by
  have hl : ((mkB k xs).take j).length = j := by simp [mkB_len]; omega
  rw [List.set_append_right _ _ (by omega), hl, Nat.sub_self, List.drop_eq_getElem_cons h, List.set_cons_zero, List.take_succ_eq_append_getElem (by rw [mkB_len]; exact h), mkB_at]
  simp


theorem markByteS_calls (A : Option Addr) (c : Nat) (xs : List Int) (F : List Nat) (k : Int) (w : World) (h : (Rep.int .u8).sl w A c xs F) (hn : F.Nodup) (hu : Unfr w F)
    (h0 : 0 ≤ k) (hk : k + xs.length ≤ 4611686018427387904) :
    Calls Try.prog 21 #[.slice A xs.length c, .int .i64 k] w (MarkPost (Rep.int .u8) A c (mkB k xs) F (k + xs.length) w) := by
  go_enter Try.func21, Try.ntmps21
  go_wp2
  go_loopg [5, 1] (xs.length) (fun m i q wr => ∃ j : Nat, m + j = xs.length ∧ i = .int .i64 j ∧ q = .int .i64 (k + j) ∧ Only F w wr ∧ Unfr wr F ∧ (Rep.int .u8).sl wr A c ((mkB k xs).take j ++ xs.drop j) F)
  case atStart => exact ⟨0, by simp, rfl, by simp, Only.refl _ _, hu, by simpa using h⟩
  case round =>
    obtain ⟨j, hj, rfl, rfl, hO, hU, hS⟩ := hrel
    have HO := Lib.hid hO; have HU := Lib.hid hU; have HS := Lib.hid hS; have HJ := Lib.hid hj
    clear hO hU hS hj
    have hlen : ((mkB k xs).take j ++ xs.drop j).length = xs.length := by simp [mkB_len]; have := HJ.out; omega
    by_cases hlt : j < xs.length
    · obtain ⟨g, off, u, rfl, hF, hg, hc, hf, hset⟩ := sl_int_set HS.out hn HU.out j (by rw [hlen]; exact hlt)
      have hw := hset (IntKind.u8.wrap (k + j)) (wf_wrapped _ _)
      rw [mkB_step _ _ _ hlt] at hw
      have HW := Lib.hid hw
      have HF := Lib.hid hF
      clear hw hset hlen hF
      go_wp2
      go_roundg (xs.length - (j + 1))
      case measure => have := HJ.out; omega
      case rel => exact ⟨j + 1, by omega, by go_num, by go_num, HO.out.setCell (fun _ => HF.out) _, HW.out.2, HW.out.1⟩
    · have hj := HJ.out
      have hs := HS.out
      rw [List.take_of_length_le (by rw [mkB_len]; omega), List.drop_of_length_le (by omega), List.append_nil] at hs
      have hjl : (j : Int) = xs.length := by omega
      have HL := Lib.hid hjl
      clear hjl
      go_wp2
      go_ret
      exact ⟨ret_int (by rw [HL.out]), hs, HO.out, HU.out⟩

theorem heldByteS_calls (A : Option Addr) (c : Nat) (xs : List Int) (F : List Nat) (k : Int) (w : World) (h : (Rep.int .u8).sl w A c (mkB k xs) F)
    (h0 : 0 ≤ k) (hk : k + xs.length ≤ 4611686018427387904) :
    Calls Try.prog 52 #[.slice A xs.length c, .int .i64 k] w fun e w' => e = .returned (.int .i64 (k + xs.length)) ∧ Ext w w' := by
  go_enter Try.func52, Try.ntmps52
  go_wp2
  go_loopg [5, 1] (xs.length) (fun m i q wr => ∃ j : Nat, m + j = xs.length ∧ i = .int .i64 j ∧ q = .int .i64 (k + j) ∧ Ext w wr)
  case atStart => exact ⟨0, by simp, rfl, by simp, Only.refl _ _⟩
  case round =>
    obtain ⟨j, hj, rfl, rfl, hO⟩ := hrel
    have HO := Lib.hid hO; have HJ := Lib.hid hj
    clear hO hj
    by_cases hlt : j < xs.length
    · obtain ⟨g, off, rfl, _, _, hc, _⟩ := Rep.sl_int h j (by rw [mkB_len]; exact hlt)
      have hc' := HO.out.ecell hc
      rw [mkB_at] at hc'
      have hb : (IntKind.u8.wrap (k + j) != IntKind.u8.wrap (k + j)) = false := by simp
      clear hc h
      go_wp2
      go_roundg (xs.length - (j + 1))
      case measure => have := HJ.out; omega
      case rel => exact ⟨j + 1, by omega, by go_num, by go_num, HO.out⟩
    · have hjl : (j : Int) = xs.length := by have := HJ.out; omega
      have HL := Lib.hid hjl
      clear hjl
      go_wp2
      go_ret
      exact ⟨ret_int (by rw [HL.out]), HO.out⟩
end Go.Proofs.Ytdjcfcgkldokgaa
