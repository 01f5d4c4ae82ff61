/- FnDisk: bytes held against each other; DiskRead. -/
import Derived.Test.YtdjcfcgkldokgaaG0
import Derived.Test.YtdjcfcgkldokgaaE1
import Derived.Laws.BytesArg
import Derived.Shelf.Bytes.SlSmallAll
namespace Go.Proofs.Ytdjcfcgkldokgaa
open Go.RowKit
set_option linter.unusedSimpArgs false
set_option linter.unusedVariables false
theorem sl_some {w : World} {A : Option Addr} {c : Nat} {p : List Int} {F : List Nat} (h : (Rep.int .u8).sl w A c p F) (hp : 0 < p.length) : ∃ g off, A = some ⟨g, off, none⟩ := by
  obtain ⟨g, off, rfl, -⟩ := Rep.sl_int h 0 hp
  exact ⟨g, off, rfl⟩
theorem addp (b off i : Nat) : (⟨b, off, none⟩ : Addr).add i = ⟨b, off + i, none⟩ := by
  unfold Addr.add
  split <;> simp_all
theorem sl_byte {w : World} {g off c : Nat} {xs : List Int} {F : List Nat} (h : (Rep.int .u8).sl w (some ⟨g, off, none⟩) c xs F) (i : Nat) (hi : i < xs.length) :
    w.cell? ⟨g, off + i, none⟩ = some (.int .u8 (xs.getD i 0)) := by
  obtain ⟨g', off', e, hg, hc⟩ := sl_ints h (by rintro rfl; simp at hi)
  injection e with e
  injection e with e1 e2
  subst e1; subst e2
  have := hc i (.int .u8 (xs.getD i 0)) (by simp [List.getElem?_map, List.getD, List.getElem?_eq_getElem hi])
  simpa [addp] using this
theorem byte_range {z : Int} (h : (Lit.int .u8 z).wf = true) : 0 ≤ z ∧ z ≤ 255 := by
  simpa [Lit.wf, IntKind.min, IntKind.max, IntKind.signed, IntKind.bits] using h
theorem conv_bytes {w : World} {A : Option Addr} {c : Nat} {xs : List Int} {F : List Nat} (h : (Rep.int .u8).sl w A c xs F) : (convert 22 9 (.slice A xs.length c)).run Try.prog w = .ok (.string (strOfNums xs)) w := by
  by_cases hx : xs = []
  · subst hx
    exact run_convert_bytes_zero w _ _ Try.underlying22 Try.underlying5 A c _ Try.underlying9
  · obtain ⟨g, off, rfl⟩ := sl_some h (List.length_pos_iff.2 hx)
    refine run_convert_bytes_arg (P := Try.prog) w _ _ Try.underlying22 Try.underlying5 g off _ c xs rfl (fun i hi => sl_byte h i hi) _ Try.underlying9
theorem strOfNums_inj {xs ys : List Int} (hx : ∀ z ∈ xs, (Lit.int .u8 z).wf = true) (hy : ∀ z ∈ ys, (Lit.int .u8 z).wf = true) : strOfNums xs = strOfNums ys ↔ xs = ys := by
  constructor
  · intro h
    have h2 := congrArg (fun b : ByteArray => b.data.toList) h
    simp only [strOfNums_data] at h2
    have key : ∀ (l m : List Int), (∀ z ∈ l, (Lit.int .u8 z).wf = true) → (∀ z ∈ m, (Lit.int .u8 z).wf = true) → l.map (fun n => UInt8.ofNat n.toNat) = m.map (fun n => UInt8.ofNat n.toNat) → l = m := by
      intro l
      induction l with
      | nil => intro m _ _ h; cases m with
        | nil => rfl
        | cons a m => simp at h
      | cons a l ih =>
        intro m hl hm h
        cases m with
        | nil => simp at h
        | cons b m =>
          simp only [List.map_cons, List.cons.injEq] at h
          have ha := byte_range (hl a (by simp))
          have hb := byte_range (hm b (by simp))
          have e := congrArg UInt8.toNat h.1
          simp only [UInt8.toNat_ofNat'] at e
          rw [ih m (fun z hz => hl z (by simp [hz])) (fun z hz => hm z (by simp [hz])) h.2]
          rw [show a = b by omega]
    exact key xs ys hx hy h2
  · rintro rfl; rfl
theorem str_eq {xs ys : List Int} (hx : ∀ z ∈ xs, (Lit.int .u8 z).wf = true) (hy : ∀ z ∈ ys, (Lit.int .u8 z).wf = true) : ((strOfNums xs).toList == (strOfNums ys).toList) = decide (xs = ys) := by
  have hi := strOfNums_inj hx hy
  rw [ByteArray.toList_eq, ByteArray.toList_eq]
  by_cases h : xs = ys
  · subst h; simp
  · rw [decide_eq_false h, beq_eq_false_iff_ne]
    intro e
    refine h (hi.1 ?_)
    have : (strOfNums xs).data = (strOfNums ys).data := by rw [← Array.toArray_toList (xs := (strOfNums xs).data), e, Array.toArray_toList]
    cases h1 : strOfNums xs; cases h2 : strOfNums ys
    rw [h1, h2] at this
    simpa using this
theorem lwSameBytes_calls (w : World) (A : Option Addr) (c : Nat) (xs : List Int) (F : List Nat) (B : Option Addr) (d : Nat) (ys : List Int) (G : List Nat) (h : (Rep.int .u8).sl w A c xs F) (k : (Rep.int .u8).sl w B d ys G) :
    Calls Try.prog 42 #[.slice A xs.length c, .slice B ys.length d] w fun e w' => e = .returned (.bool (decide (xs = ys))) ∧ Ext w w' := by
  have h1 := conv_bytes h
  have h2 := conv_bytes k
  have hi := Lib.hid (str_eq (sl_wf h) (sl_wf k))
  clear h k
  go_enter Try.func42, Try.ntmps42
  go_wp2
  go_ret
  exact ⟨ret_bool hi.out, Only.refl _ _⟩
set_option maxRecDepth 100000 in
set_option maxHeartbeats 2000000 in
theorem diskRead_calls (w : World) (v : Value) (d : DDisk) (F : List Nat) (h : Rep.Disk.V w v d F) (hv : validDisk d = true) (s : Nat) (hs : s < d.Durable.length / 512) :
    Calls Try.prog 43 #[v, .int .i64 s] w fun e w' => ∃ A' c' F', e = .returned (.slice A' (seenL d s).length c') ∧ Hid ((Rep.int .u8).sl w' A' c' (seenL d s) F') ∧ Hid (Ext w w') := by
  have HV := Lib.hid h
  obtain ⟨_, ⟨A1, c1, F1, A2, c2, F2, rfl, rfl, hw, s1, s2⟩, rfl⟩ := h
  have hu := Try.underlying29
  obtain ⟨v1, v2, v3, v4, v5⟩ := valid_facts hv
  have hsl := seenL_len hv (s := s) (by omega) (by omega)
  show Calls _ _ #[.agg #[_, _], _] _ _
  obtain ⟨R, hR⟩ : ∃ R, R = seenL d s := ⟨_, rfl⟩
  rw [← hR] at hsl ⊢
  obtain ⟨m, hm⟩ : ∃ m : Int, m = (d.Durable.length : Int) / 512 := ⟨_, rfl⟩
  have b1 : ¬ (m ≤ (s : Int)) := by omega
  have b2 : ¬ ((s : Int) < 0) := by omega
  have hE := alloc_ext w (.cells #[.slice A1 d.Durable.length c1, .slice A2 d.Pending.length c2] 29)
  have hrow := heap_alloc_new w (.cells #[.slice A1 d.Durable.length c1, .slice A2 d.Pending.length c2] 29)
  have mm := fun o => cell_of_row _ _ o _ _ _ hrow
  have HE := Lib.hid hE; have HROW := Lib.hid hrow; have HVV := Lib.hid hv; have S1 := Lib.hid s1; have S2 := Lib.hid s2; have HS := Lib.hid hs; have HM := Lib.hid hm; have HR := Lib.hid hR; have HSL := Lib.hid hsl; have HV3 := Lib.hid v3
  clear hE hrow hv s1 s2 hs hm hR hsl v1 v2 v3 v4 v5
  go_enter Try.func43, Try.ntmps43
  go_wp2_with (first
    | (go_at_call 38; refine (implValid_calls _ d _ _ (V_ext HV.out HE.out)).mono ?_; rw [HVV.out]; rintro e w1 ⟨rfl, hE1⟩; have HE1 := Lib.hid hE1; have HB1 := Lib.hid (hE1.heap HROW.out (by simp)); clear mm; have mm := fun o => cell_of_row _ _ o _ _ _ HB1.out; clear hE1)
    | (go_at_call 76; refine (sectors_calls w.heap.size 0 A1 d.Durable.length c1 w1 (mm 0) (by have := HV3.out; omega)).mono ?_; rintro e w2 ⟨rfl, rfl⟩; rw [← HM.out])
    | (go_at_call 78; refine (seen_calls w.heap.size _ A1 c1 A2 c2 d _ HB1.out F1 F2 (Rep.sl_ext S1.out (HE.out.ext HE1.out)) (Rep.sl_ext S2.out (HE.out.ext HE1.out)) HVV.out s HS.out).mono ?_; rw [← HR.out]; rintro e w3 ⟨rfl, A3, c3, F3, rfl, hs3⟩; have HS3 := Lib.hid hs3; clear hs3)
    | (go_at_call 77; refine (Clone_calls _ _ _ _ _ HS3.out (by have := HSL.out; omega)).mono ?_; rintro e w4 ⟨v4, F4, rfl, hV4, hN4⟩; obtain ⟨A4, c4, rfl, q4⟩ := Rep.slice_V hV4; have HQ4 := Lib.hid q4; have HE4 := Lib.hid hN4.ext; clear hV4 hN4 q4))
  go_ret
  exact ⟨A4, c4, F4, rfl, HQ4, Lib.hid ((HE.out.ext HE1.out).ext HE4.out)⟩
end Go.Proofs.Ytdjcfcgkldokgaa
