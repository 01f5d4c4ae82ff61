/- Numbers in pages: the library's readers. -/
import Derived.Test.YtghgjddiheebeaaDoorMF0
import Derived.Test.YtghgjddiheebeaaDoorMB
import Derived.Shelf.Bin.ReadersZ
import Derived.Shelf.Lay
import Derived.Ground.MnProg
import Derived.StillTail
import Derived.Deep.QuietTactic
import Derived.BigQuiet
namespace Go.Proofs.YtghgjddiheebeaaDoor
open Go.RowKit Go.Shelf
set_option linter.unusedSimpArgs false
set_option linter.unusedVariables false
shelf_lay LaysBin.n36 Mn 36 at Tryd as laysU16
shelf_lay LaysBin.n39 Mn 39 at Tryd as laysU32
shelf_lay LaysBin.n42 Mn 42 at Tryd as laysU64
/-- The number that n bytes from place i on spell. -/
def beAt (xs : List Int) (i n : Nat) : Int := Lib.beZ ((xs.drop i).take n)
theorem addp (b off i : Nat) : (⟨b, off, none⟩ : Addr).add i = ⟨b, off + i, none⟩ := by
  unfold Addr.add
  split <;> simp_all
theorem sl_byte {w : World} {g off c : Nat} {xs : List Int} {F : List Nat} (h : (Rep.int .u8).sl w (some ⟨g, off, none⟩) c xs F) (i : Nat) (hi : i < xs.length) :
    w.cell? ⟨g, off + i, none⟩ = some (.int .u8 (xs.getD i 0)) := by
  obtain ⟨g', off', e, hg, hc⟩ := sl_ints h (by rintro rfl; simp at hi)
  injection e with e
  injection e with e1 e2
  subst e1; subst e2
  have := hc i (.int .u8 (xs.getD i 0)) (by simp [List.getElem?_map, List.getD, List.getElem?_eq_getElem hi])
  simpa [addp] using this
theorem sl_bytes {w : World} {g off c : Nat} {xs : List Int} {F : List Nat} (h : (Rep.int .u8).sl w (some ⟨g, off, none⟩) c xs F) (a : Nat) :
    ∀ i, i < (xs.drop a).length → w.cell? ((⟨g, off + a, none⟩ : Addr).add i) = some (.int .u8 ((xs.drop a).getD i 0)) := by
  intro i hi
  rw [List.length_drop] at hi
  have := sl_byte h (a + i) (by omega)
  rw [addp]
  simpa [List.getD, List.getElem?_drop, Nat.add_assoc] using this
theorem sl_sub {k : IntKind} {w : World} {g off c : Nat} {xs : List Int} {F : List Nat} (h : (Rep.int k).sl w (some ⟨g, off, none⟩) c xs F) (hx : xs ≠ []) (a n : Nat) (ha : a + n ≤ xs.length) :
    (Rep.int k).sl w (some ⟨g, off + a, none⟩) (c - a) ((xs.drop a).take n) F := by
  obtain ⟨h1, h2, ⟨rfl, _⟩ | ⟨g', off', G, cs, e, rfl, hg, hr, hc⟩⟩ := h
  · exact absurd rfl hx
  obtain ⟨rfl, rfl, hwf⟩ := cells_ints_inv hr
  injection e with e
  injection e with e1 e2
  subst e1; subst e2
  refine ⟨by simp; omega, by omega, .inr ⟨g, off + a, [], _, rfl, rfl, hg, cells_ints _ (fun x hx => hwf x (List.mem_of_mem_drop (List.mem_of_mem_take hx))), fun j u hu => ?_⟩⟩
  have hj := (List.getElem?_eq_some_iff.1 hu).1
  simp at hj
  have := hc (a + j) u (by
    rw [List.getElem?_map] at hu ⊢
    rw [List.getElem?_take, if_pos (by omega), List.getElem?_drop] at hu
    exact hu)
  rw [show off + a + j = off + (a + j) by omega]
  exact this
theorem beU16_calls (w : World) (g off c n c' : Nat) (xs : List Int) (F : List Nat) (h : (Rep.int .u8).sl w (some ⟨g, off, none⟩) c xs F) (a : Nat) (ha : a + 2 ≤ xs.length) (hn : 2 ≤ n) :
    Calls Tryd.prog 65 #[.agg #[], .slice (some ⟨g, off + a, none⟩) n c'] w fun e w' => e = .returned (.int .u16 (beAt xs a 2)) ∧ Ext w w' := by
  have h0 := Any.binary_BE_Uint16_z laysU16 ⟨g, off + a, none⟩ n c' (xs.drop a) w hn (by simp; omega) (sl_bytes h a) (fun z hz => sl_wf h z (List.mem_of_mem_drop hz))
  exact h0.mono (fun e w' hw => ⟨hw.1, Only.of_below hw.2⟩)
theorem beU32_calls (w : World) (g off c n c' : Nat) (xs : List Int) (F : List Nat) (h : (Rep.int .u8).sl w (some ⟨g, off, none⟩) c xs F) (a : Nat) (ha : a + 4 ≤ xs.length) (hn : 4 ≤ n) :
    Calls Tryd.prog 109 #[.agg #[], .slice (some ⟨g, off + a, none⟩) n c'] w fun e w' => e = .returned (.int .u32 (beAt xs a 4)) ∧ Ext w w' := by
  have h0 := Any.binary_BE_Uint32_z laysU32 ⟨g, off + a, none⟩ n c' (xs.drop a) w hn (by simp; omega) (sl_bytes h a) (fun z hz => sl_wf h z (List.mem_of_mem_drop hz))
  exact h0.mono (fun e w' hw => ⟨hw.1, Only.of_below hw.2⟩)
theorem beU64_calls (w : World) (g off c n c' : Nat) (xs : List Int) (F : List Nat) (h : (Rep.int .u8).sl w (some ⟨g, off, none⟩) c xs F) (a : Nat) (ha : a + 8 ≤ xs.length) (hn : 8 ≤ n) :
    Calls Tryd.prog 113 #[.agg #[], .slice (some ⟨g, off + a, none⟩) n c'] w fun e w' => e = .returned (.int .u64 (beAt xs a 8)) ∧ Ext w w' := by
  have h0 := Any.binary_BE_Uint64_z laysU64 ⟨g, off + a, none⟩ n c' (xs.drop a) w hn (by simp; omega) (sl_bytes h a) (fun z hz => sl_wf h z (List.mem_of_mem_drop hz))
  exact h0.mono (fun e w' hw => ⟨hw.1, Only.of_below hw.2⟩)
end Go.Proofs.YtghgjddiheebeaaDoor
/- A region that draws its order: a head of quiet operations (reads, calls that leave a world of the class), then a tail in the one order: one walk serves every order. -/
namespace Go.Proofs.YtghgjddiheebeaaDoor
open Go.RowKit
set_option linter.unusedVariables false
section
variable {P : Program} {ops : Array Oper} {md : Region.Mode} {C : World → Prop}
def wpAnyQL (P : Program) (md : Region.Mode) (ops : Array Oper) (C : World → Prop) (n : Nat) (L : Array Bool → Act → Prop) : Nat → Array Bool → Act → Prop
  | 0, listed, a => L listed a
  | f + 1, listed, a =>
    Region.ready md ops listed ≠ [] ∧ ∀ i ∈ Region.ready md ops listed, i < n ∧ qOp P ops C i (wpAnyQL P md ops C n L f (listed.setIfInBounds i true)) a
theorem wpAny_of_headQ {n g : Nat} {L : Array Bool → Act → Prop} {Q' : Exit → Act → World → Prop} (hL : ∀ listed a w, C w → L listed a → wpAny P md ops Q' g listed a w) :
    ∀ (f : Nat) (listed : Array Bool) (a : Act) (w : World), C w → wpAnyQL P md ops C n L f listed a → wpAny P md ops Q' (f + g) listed a w
  | 0, listed, a, w, hw, h => by rw [Nat.zero_add]; exact hL _ _ _ hw h
  | f + 1, listed, a, w, hw, h => by
    rw [show f + 1 + g = (f + g) + 1 by omega]
    exact ⟨fun h0 => absurd h0 h.1, fun i hi => wpOp_of_qOp hw (fun a' w' hw' h' => wpAny_of_headQ hL f _ a' w' hw' h') (h.2 i hi).2⟩
theorem wpAnyQL_first {n i : Nat} {oi : Oper} {v : Value} {L : Array Bool → Act → Prop} (hi : ops[i]? = some oi) (hsel : ∀ (j : Nat) (o : Oper) cs b, ops[j]? = some o → o.op ≠ .select cs b)
    (hs : Region.sinkB md ops n = true) (hc : Region.chainB md ops n = true) (hn : n < ops.size) (hin : i < n)
    (hdone : ∀ listed a, L listed a → ∀ j ∈ Region.ready md ops listed, n ≤ j) :
    ∀ (f : Nat) (listed : Array Bool) (a : Act), HeadInv md ops n listed →
      (∀ j oj, ops[j]? = some oj → j ≠ i → listed.getD j true = false → (∀ e ∈ oj.after, Region.binds md e = true → e.on ≠ i) → oi.apart ops oj = true) →
      i ∈ Region.ready md ops listed → YieldsIn P ops C oi v a →
      wpAnyQL P md ops C n L f (listed.setIfInBounds i true) (a.put oi.dst v) → wpAnyQL P md ops C n L (f + 1) listed a := by
  intro f
  induction f with
  | zero =>
    intro listed a inv _ hr hy H
    have hun := (mem_ready.1 hr).1
    refine ⟨fun h => (by rw [h] at hr; cases hr), fun j hj => ?_⟩
    have hjn : j < n := by
      rcases Nat.lt_or_ge j n with h | h
      · exact h
      · exact absurd hj (tail_waits hs hc hn inv _ i rfl hin hun j h)
    refine ⟨hjn, ?_⟩
    by_cases hji : j = i
    · subst hji; exact hy.qOp hi H
    · have := hdone _ _ H j (ready_mono hj hji)
      omega
  | succ f ih =>
    intro listed a inv hfree hr hy H
    have hun := (mem_ready.1 hr).1
    refine ⟨fun h => (by rw [h] at hr; cases hr), fun j hj => ?_⟩
    have hjn : j < n := by
      rcases Nat.lt_or_ge j n with h | h
      · exact h
      · exact absurd hj (tail_waits hs hc hn inv _ i rfl hin hun j h)
    refine ⟨hjn, ?_⟩
    by_cases hji : j = i
    · subst hji; exact hy.qOp hi H
    · have h1 := (H.2 j (ready_mono hj hji)).2
      obtain ⟨hjun, oj, hoj, hall⟩ := mem_ready.1 hj
      have hnot : ∀ e ∈ oj.after, Region.binds md e = true → e.on ≠ i := fun e he hb heq => by
        have h1 := hall e he hb
        rw [heq, getD_both hun] at h1
        cases h1
      have h2 := qOp_put hoj (hfree j oj hoj hji hjun hnot) (fun cs b => hsel i oi cs b hi) (fun cs b => hsel j oj cs b hoj) hy h1
      have hfree' : ∀ k ok, ops[k]? = some ok → k ≠ i → (listed.setIfInBounds j true).getD k true = false →
          (∀ e ∈ ok.after, Region.binds md e = true → e.on ≠ i) → oi.apart ops ok = true := fun k ok hk hki hun hno => by
        refine hfree k ok hk hki ?_ hno
        by_cases hjk : j = k
        · subst hjk; exact hjun
        · rw [getD_set_ne true hjk] at hun; exact hun
      refine qOp_mono (fun a' h3 => ih (listed.setIfInBounds j true) a' (inv.set hj hjn) hfree' (ready_mono hr (Ne.symm hji)) h3.1 ?_) h2
      rw [Array.setIfInBounds_comm _ _ hji]
      exact h3.2
theorem wpAnyQL_lex {n g : Nat} {Lq : Act → Prop} (hsel : Region.noSelect ops = true) (hs : Region.sinkB md ops n = true) (hc : Region.chainB md ops n = true) (hn : n < ops.size) :
    ∀ (l : List Oper) (k : Nat) (listed : Array Bool) (a : Act), (∀ j, j < l.length → l[j]? = ops[k + j]?) → k + l.length = n → HeadInv md ops n listed →
    Region.lexHead md ops g l.length k listed = true → wpQuiet P ops C Lq l a →
    wpAnyQL P md ops C n (fun listed' a' => Region.seqB md ops g n listed' = true ∧ Lq a') l.length listed a
  | [], k, listed, a, _, hk, _, hB, h => by
    have : k = n := by simpa using hk
    subst this
    exact ⟨by simpa [Region.lexHead] using hB, h⟩
  | o :: l, k, listed, a, hl, hk, inv, hB, h => by
    have h0 : ops[k]? = some o := by simpa using (hl 0 (by simp)).symm
    simp only [List.length_cons, Region.lexHead, Bool.and_eq_true] at hB
    obtain ⟨⟨hr, hf⟩, hB'⟩ := hB
    have hkn : k < n := by simp only [List.length_cons] at hk; omega
    have hr' : k ∈ Region.ready md ops listed := by simpa using hr
    have hst : qOp P ops C k (wpQuiet P ops C Lq l) a := by unfold qOp; simp only [h0]; exact h
    obtain ⟨v, hy, hK⟩ := yieldsIn_of_qOp h0 hst
    exact wpAnyQL_first h0 (Region.noSelect_spec hsel) hs hc hn hkn (fun listed' a' hL => seqB_ready hL.1) l.length listed a inv (Region.free_spec h0 hf) hr' hy
      (wpAnyQL_lex hsel hs hc hn l (k + 1) _ _ (fun j hj => by have := hl (j + 1) (by simp; omega); simpa [Nat.add_assoc, Nat.add_comm 1 j] using this) (by simp only [List.length_cons] at hk; omega) (inv.set hr' hkn) hB' hK)
theorem wp_region_quiet_tail {id : Nat} {Q : Exit → Act → World → Prop} {a : Act} {w : World} {l : List Oper} (n : Nat) (hm : P.follows .mixedOrders = true) (hB : Region.lexTailB .any l.toArray n = true) (hC : C w.drew)
    (h : wpQuiet P l.toArray C (fun a' => ∀ w', C w' → wpList P l.toArray Q (l.drop n) a' w') (l.take n) a) : (Code.region id l.toArray true).wp P Q a w := by
  simp only [Region.lexTailB, Bool.and_eq_true, decide_eq_true_eq] at hB
  obtain ⟨⟨⟨⟨hsel, hn⟩, hs⟩, hc⟩, hlex⟩ := hB
  have hn' : n < l.length := by simpa using hn
  have htl : (l.take n).length = n := by simp; omega
  have hdl : (l.drop n).length = l.toArray.size - n := by simp
  have inv0 : HeadInv .any l.toArray n (Array.replicate l.toArray.size false) :=
    ⟨by simp, fun j oj _ hl => (by rw [getD_replicate_false] at hl; cases hl), fun t _ ht => getD_in (by simpa using ht) (getD_replicate_false _ _)⟩
  have H := wpAnyQL_lex (md := .any) (g := l.toArray.size - n) hsel hs hc hn (l.take n) 0 _ a (fun j hj => by
    have hj' : j < n := by rw [htl] at hj; exact hj
    simp [hj']) (by simpa using htl) inv0 (by rw [htl]; exact hlex) h
  refine wp_region_any hm ?_
  have := wpAny_of_headQ (Q' := Q) (g := l.toArray.size - n) (fun listed a' w' hw' hL => by
    have := wpAny_of_seq (md := .any) (Q' := Q) (l.drop n) n listed a' w' (fun j => by simp [List.getElem?_drop]) (by rw [hdl]; exact hL.1) (hL.2 w' hw')
    rwa [hdl] at this) _ _ _ w.drew hC H
  rwa [htl, Nat.add_sub_cancel' (by simpa using Nat.le_of_lt hn')] at this
/-- The lexical walk, shut off from reduction. -/
structure WQ (P : Program) (ops : Array Oper) (C : World → Prop) (Q : Act → Prop) (l : List Oper) (a : Act) : Prop where
  out : wpQuiet P ops C Q l a
variable {Q : Act → Prop} {a : Act} {o : Oper} {rest : List Oper}
theorem WQ.nil (h : Q a) : WQ P ops C Q [] a := ⟨h⟩
theorem WQ.skip (hw : Region.wanted o (yielded ops a.tmps) = false) (h : WQ P ops C Q rest (a.put o.dst undef)) : WQ P ops C Q (o :: rest) a := ⟨BigFrame.wpQuiet_skip hw h.out⟩
theorem WQ.take (v : Value) (hw : Region.wanted o (yielded ops a.tmps) = true) (hv : ∀ w', C w' → o.quietAt P a C w' v) (h : WQ P ops C Q rest (a.put o.dst v)) : WQ P ops C Q (o :: rest) a :=
  ⟨BigFrame.wpQuiet_want hw fun K hK => ⟨v, hv, hK _ h.out⟩⟩
theorem region_ext {id : Nat} {Q : Exit → Act → World → Prop} {a : Act} {w : World} {l : List Oper} (hm : P.follows .mixedOrders = true) (hB : Region.lexB .any l.toArray = true)
    (h : WQ P l.toArray (fun w' => Ext w w') (fun a' => ∀ w', Ext w w' → Q .normal a' w') l a) : (Code.region id l.toArray true).wp P Q a w :=
  wp_region_quiet (C := fun w' => Ext w w') hm hB (Only.drew (Only.refl [] w)) (by simpa using h.out)
theorem region_tail {id : Nat} {Q : Exit → Act → World → Prop} {a : Act} {w : World} {l : List Oper} (n : Nat) (hm : P.follows .mixedOrders = true) (hB : Region.lexTailB .any l.toArray n = true)
    (h : WQ P l.toArray (fun w' => Ext w w') (fun a' => ∀ w', Ext w w' → wpList P l.toArray Q (l.drop n) a' w') (l.take n) a) : (Code.region id l.toArray true).wp P Q a w :=
  wp_region_quiet_tail n (C := fun w' => Ext w w') hm hB (Only.drew (Only.refl [] w)) h.out
end
end Go.Proofs.YtghgjddiheebeaaDoor
/- Numbers in pages: the plain law; the reference's readers. -/
namespace Go.Proofs.YtghgjddiheebeaaDoor
open Go.RowKit
set_option linter.unusedSimpArgs false
set_option linter.unusedVariables false
theorem beFromZ_snoc : ∀ (l : List Int) (a x : Int), Lib.beFromZ a (l ++ [x]) = Lib.beFromZ a l * 256 + x
  | [], a, x => rfl
  | z :: l, a, x => by simp only [List.cons_append, Lib.beFromZ]; exact beFromZ_snoc l _ x
theorem beZ_take (l : List Int) (i : Nat) (hi : i < l.length) : Lib.beZ (l.take (i + 1)) = Lib.beZ (l.take i) * 256 + l.getD i 0 := by
  show Lib.beFromZ 0 (l.take (i + 1)) = Lib.beFromZ 0 (l.take i) * 256 + l.getD i 0
  rw [← beFromZ_snoc]
  congr 1
  rw [List.take_add_one, List.getElem?_eq_getElem hi, List.getD, List.getElem?_eq_getElem hi]
  rfl
theorem beFromZ_range : ∀ (l : List Int) (a : Int), (∀ z ∈ l, 0 ≤ z ∧ z ≤ 255) → a * 256 ^ l.length ≤ Lib.beFromZ a l ∧ Lib.beFromZ a l < (a + 1) * 256 ^ l.length
  | [], a, _ => by simp [Lib.beFromZ]; omega
  | z :: l, a, h => by
    obtain ⟨h1, h2⟩ := beFromZ_range l (a * 256 + z) (fun y hy => h y (by simp [hy]))
    obtain ⟨h3, h4⟩ := h z (by simp)
    have hp : (0 : Int) ≤ 256 ^ l.length := Int.pow_nonneg (by decide)
    simp only [Lib.beFromZ, List.length_cons, Int.pow_succ]
    constructor
    · refine Int.le_trans ?_ h1
      rw [Int.mul_comm (256 ^ l.length) 256, ← Int.mul_assoc]
      exact Int.mul_le_mul_of_nonneg_right (by omega) hp
    · refine Int.lt_of_lt_of_le h2 ?_
      rw [Int.mul_comm (256 ^ l.length) 256, ← Int.mul_assoc]
      exact Int.mul_le_mul_of_nonneg_right (by omega) hp
theorem pow256_mono {a b : Nat} (h : a ≤ b) : (256 : Int) ^ a ≤ 256 ^ b := by
  have h1 := Nat.pow_le_pow_right (n := 256) (by decide) h
  have h2 : ((256 ^ a : Nat) : Int) ≤ ((256 ^ b : Nat) : Int) := Int.ofNat_le.2 h1
  rw [Int.natCast_pow, Int.natCast_pow] at h2
  exact h2
/-- What GetNumber gives at one to eight bytes. -/
def getNum (l : List Int) : Int := if l.length = 8 ∧ l.getD 0 0 > 127 then -1 else Lib.beZ l
theorem beZ_room {l : List Int} (hw : ∀ z ∈ l, 0 ≤ z ∧ z ≤ 255) (hl : l.length ≤ 8) (hb : ¬ (l.length = 8 ∧ l.getD 0 0 > 127)) (i : Nat) (hi : i < l.length) :
    0 ≤ Lib.beZ (l.take i) ∧ Lib.beZ (l.take i) * 256 + 255 ≤ 9223372036854775807 := by
  have hwt : ∀ z ∈ l.take i, 0 ≤ z ∧ z ≤ 255 := fun z hz => hw z (List.mem_of_mem_take hz)
  obtain ⟨h1, h2⟩ := beFromZ_range (l.take i) 0 hwt
  refine ⟨by show 0 ≤ Lib.beFromZ 0 (l.take i); simpa using h1, ?_⟩
  by_cases h7 : i ≤ 6
  · have h3 := pow256_mono (a := (l.take i).length) (b := 6) (by simp; omega)
    have h4 : (256 : Int) ^ 6 = 281474976710656 := by decide
    simp only [Int.zero_add, Int.one_mul] at h2
    show Lib.beFromZ 0 (l.take i) * 256 + 255 ≤ _
    omega
  · have hi7 : i = 7 := by omega
    have h8 : l.length = 8 := by omega
    subst hi7
    obtain ⟨z, r, rfl⟩ : ∃ z r, l = z :: r := by
      cases l with
      | nil => simp at h8
      | cons z r => exact ⟨z, r, rfl⟩
    have hz : ¬ z > 127 := fun h => hb ⟨h8, by simpa using h⟩
    have hz0 := (hw z (by simp)).1
    obtain ⟨h3, h4⟩ := beFromZ_range (r.take 6) z (fun y hy => hw y (by simp [List.mem_of_mem_take hy]))
    have hlen : (r.take 6).length = 6 := by simp at h8 ⊢; omega
    rw [hlen] at h3 h4
    have h5 : (256 : Int) ^ 6 = 281474976710656 := by decide
    rw [h5] at h3 h4
    show Lib.beFromZ 0 (z :: r.take 6) * 256 + 255 ≤ _
    simp only [Lib.beFromZ, Int.zero_mul, Int.zero_add]
    omega
set_option maxRecDepth 100000 in
set_option maxHeartbeats 2000000 in
theorem getNumber_calls (w : World) (g off c : Nat) (l : List Int) (F : List Nat) (h : (Rep.int .u8).sl w (some ⟨g, off, none⟩) c l F) (h1 : 1 ≤ l.length) (h8 : l.length ≤ 8) :
    Calls Tryd.prog 119 #[.slice (some ⟨g, off, none⟩) l.length c] w fun e w' => e = .returned (.int .i64 (getNum l)) ∧ Ext w w' := by
  have hw : ∀ z ∈ l, 0 ≤ z ∧ z ≤ 255 := fun z hz => Lib.byte_of_wf (sl_wf h z hz)
  have HC := Lib.hid (fun i hi => sl_byte h i hi)
  have c0 : w.cell? ⟨g, off, none⟩ = some (.int .u8 (l.getD 0 0)) := HC.out 0 (by omega)
  obtain ⟨n, hn⟩ : ∃ n, n = l.length := ⟨_, rfl⟩
  obtain ⟨b0, hb0⟩ : ∃ b, b = l.getD 0 0 := ⟨_, rfl⟩
  obtain ⟨R, hR⟩ : ∃ R, R = getNum l := ⟨_, rfl⟩
  obtain ⟨up, hup⟩ : ∃ up : Nat → Int, up = fun i => Lib.beZ (l.take i) := ⟨_, rfl⟩
  have HU0 := Lib.hid (show up 0 = 0 by rw [hup]; rfl)
  have HUS := Lib.hid (show ∀ i, i < n → up (i + 1) = up i * 256 + l.getD i 0 by rw [hup, hn]; exact fun i hi => beZ_take l i hi)
  have HW := Lib.hid hw
  have HU8 := Lib.hid (show n ≤ 8 from hn ▸ h8)
  have hRR : R = if n = 8 ∧ b0 > 127 then -1 else up n := by rw [hR, getNum, hn, hb0, hup]; simp
  have HRM := Lib.hid (show ¬ (n = 8 ∧ b0 > 127) → ∀ i, i < n → 0 ≤ up i ∧ up i * 256 + 255 ≤ 9223372036854775807 by rw [hup, hn, hb0]; exact fun hb i hi => beZ_room hw h8 hb i hi)
  have HL := Lib.hid hn
  rw [← hb0] at c0
  rw [← hR, ← hn]
  rw [← hn] at h1 h8
  clear h hw hb0 hR hup hn
  by_cases hB : n = 8 ∧ b0 > 127
  · obtain ⟨rfl, hb⟩ := hB
    rw [if_pos ⟨rfl, hb⟩] at hRR
    subst hRR
    go_enter Tryd.func119, Tryd.ntmps119
    go_wp2
    go_ret
    exact ⟨rfl, Only.refl _ _⟩
  have HR := Lib.hid (hRR.trans (if_neg hB))
  have HRM := Lib.hid (HRM.out hB)
  have hBB : ((n : Int) == 8) = false ∨ (((n : Int) == 8) = true ∧ ¬ (b0 > 127)) := by
    by_cases h : n = 8
    · right; exact ⟨by simp [h], fun hb => hB ⟨h, hb⟩⟩
    · left; simp; omega
  clear hRR hB
  have hn0 : (0 : Int) < n := by omega
  have hn1 : (n : Int) ≤ 8 := by omega
  rcases hBB with hBB | ⟨hBB, hbl⟩
  all_goals
    go_enter Tryd.func119, Tryd.ntmps119
    go_wp2
    go_loopg [3, 4] n (fun m v i wr => ∃ k : Nat, m + k = n ∧ i = .int .i64 k ∧ v = .int .i64 (up k) ∧ w = wr)
    case atStart => exact ⟨0, by simp, rfl, by rw [HU0.out], rfl⟩
    case round =>
      obtain ⟨k, hmk, rfl, rfl, rfl⟩ := hrel
      have HMK := Lib.hid hmk
      clear hmk
      by_cases hlt : (k : Int) < n
      · have hk : k < n := by omega
        have ck := HC.out k (by have := HL.out; omega)
        have hr := HRM.out k hk
        have hs := HUS.out k hk
        have hz := HW.out (l.getD k 0) (by rw [List.getD, List.getElem?_eq_getElem (by have := HL.out; omega)]; exact List.getElem_mem _)
        generalize l.getD k 0 = z at *
        obtain ⟨hr1, hr2⟩ := hr; obtain ⟨hz1, hz2⟩ := hz
        generalize up k = u at *
        have HS := Lib.hid hs
        clear hs
        have hw1 : IntKind.i64.wrap (u * 256) = u * 256 := by rw [IntKind.wrap_i64]; omega
        have hw2 : IntKind.i64.wrap (u * 256 + z) = u * 256 + z := by rw [IntKind.wrap_i64]; omega
        have hw3 : IntKind.i64.wrap z = z := by rw [IntKind.wrap_i64]; omega
        go_wp2
        go_roundg (n - (k + 1))
        case measure => have := HMK.out; omega
        case rel => exact ⟨k + 1, by have := HMK.out; omega, rfl, by rw [HS.out], rfl⟩
      · have hk : k = n := by have := HMK.out; omega
        subst hk
        go_wp2
        go_ret
        exact ⟨by rw [HR.out]; rfl, Only.refl _ _⟩
/-- The number at a place of a page. -/
def numAt (p : List Int) (i n : Nat) : Int := getNum ((p.drop i).take n)
theorem l3Number_calls (w : World) (g off c : Nat) (p : List Int) (F : List Nat) (h : (Rep.int .u8).sl w (some ⟨g, off, none⟩) c p F) (i n : Nat) (hn1 : 1 ≤ n) (hn8 : n ≤ 8) (hi : i + n ≤ p.length) (iz nz : Int) (hiz : iz = i) (hnz : nz = n) (hlim : p.length ≤ 140737488355328) :
    Calls Tryd.prog 108 #[.slice (some ⟨g, off, none⟩) p.length c, .int .i64 iz, .int .i64 nz] w fun e w' => e = .returned (.int .i64 (numAt p i n)) ∧ Ext w w' := by
  subst hiz; subst hnz
  have hx : p ≠ [] := by rintro rfl; simp at hi; omega
  have hs := sl_sub h hx i n (by omega)
  have hlen : ((p.drop i).take n).length = n := by simp; omega
  have hG := getNumber_calls w g (off + i) (c - i) _ F hs (by omega) (by omega)
  rw [hlen] at hG
  have hpc := h.1
  have HG := Lib.hid hG
  clear hG hs h hx hlen
  have a1 : (i : Int) ≤ (i : Int) + (n : Int) := by omega
  have a2 : (i : Int) + (n : Int) ≤ (c : Int) := by omega
  have a3 : IntKind.i64.wrap ((i : Int) + (n : Int)) = (i : Int) + (n : Int) := by rw [IntKind.wrap_i64]; omega
  have a4 : ((i : Int) + (n : Int) - (i : Int)).toNat = n := by omega
  have a5 : ((i : Int) + (n : Int)).toNat = i + n := by omega
  have a6 : i + n - i = n := by omega
  go_enter Tryd.func108, Tryd.ntmps108
  go_wp2_with (go_at_call 119; refine HG.out.mono ?_; rintro e w1 ⟨rfl, hE⟩)
  go_ret
  exact ⟨rfl, hE⟩
end Go.Proofs.YtghgjddiheebeaaDoor
/- Slots of a page: the program's way. -/
namespace Go.Proofs.YtghgjddiheebeaaDoor
open Go.RowKit
set_option linter.unusedSimpArgs false
set_option linter.unusedVariables false
theorem beAt_range2 {p : List Int} (hw : ∀ z ∈ p, 0 ≤ z ∧ z ≤ 255) (i n : Nat) : 0 ≤ beAt p i n ∧ beAt p i n < 256 ^ ((p.drop i).take n).length := by
  have h := beFromZ_range ((p.drop i).take n) 0 (fun z hz => hw z (List.mem_of_mem_drop (List.mem_of_mem_take hz)))
  show 0 ≤ Lib.beFromZ 0 ((p.drop i).take n) ∧ Lib.beFromZ 0 ((p.drop i).take n) < _
  simpa using h
theorem beAt_u16 {p : List Int} (hw : ∀ z ∈ p, 0 ≤ z ∧ z ≤ 255) (i : Nat) : 0 ≤ beAt p i 2 ∧ beAt p i 2 ≤ 65535 := by
  obtain ⟨h1, h2⟩ := beAt_range2 hw i 2
  have h3 := pow256_mono (a := ((p.drop i).take 2).length) (b := 2) (by simp; omega)
  have h4 : (256 : Int) ^ 2 = 65536 := by decide
  omega
theorem beAt_u32 {p : List Int} (hw : ∀ z ∈ p, 0 ≤ z ∧ z ≤ 255) (i : Nat) : 0 ≤ beAt p i 4 ∧ beAt p i 4 ≤ 4294967295 := by
  obtain ⟨h1, h2⟩ := beAt_range2 hw i 4
  have h3 := pow256_mono (a := ((p.drop i).take 4).length) (b := 4) (by simp; omega)
  have h4 : (256 : Int) ^ 4 = 4294967296 := by decide
  omega
def slO (p : List Int) (i : Nat) : Int := beAt p (20 + 4 * i) 2
def slN (p : List Int) (i : Nat) : Int := beAt p (20 + 4 * i + 2) 2
set_option maxRecDepth 100000 in
set_option maxHeartbeats 2000000 in
theorem slotOf_calls (w : World) (g off c : Nat) (p : List Int) (F : List Nat) (h : (Rep.int .u8).sl w (some ⟨g, off, none⟩) c p F) (hp : p.length = 4096) (i : Nat) (hi : i < 32) :
    Calls Tryd.prog 61 #[.slice (some ⟨g, off, none⟩) 4096 c, .int .i64 i] w fun e w' => e = .returned (.tuple #[.int .i64 (slO p i), .int .i64 (slN p i)]) ∧ Ext w w' := by
  have hw : ∀ z ∈ p, 0 ≤ z ∧ z ≤ 255 := fun z hz => Lib.byte_of_wf (sl_wf h z hz)
  obtain ⟨r1, r2⟩ := beAt_u16 hw (20 + 4 * i)
  obtain ⟨r3, r4⟩ := beAt_u16 hw (20 + 4 * i + 2)
  have HS := Lib.hid h; have HP := Lib.hid hp
  have hpc := h.1
  rw [hp] at hpc
  show Calls _ _ _ _ (fun e w' => e = .returned (.tuple #[.int .i64 (beAt p (20 + 4 * i) 2), .int .i64 (beAt p (20 + 4 * i + 2) 2)]) ∧ Ext w w')
  obtain ⟨x, hx⟩ : ∃ x, x = beAt p (20 + 4 * i) 2 := ⟨_, rfl⟩
  obtain ⟨y, hy⟩ : ∃ y, y = beAt p (20 + 4 * i + 2) 2 := ⟨_, rfl⟩
  rw [← hx] at r1 r2 ⊢
  rw [← hy] at r3 r4 ⊢
  have HX := Lib.hid hx; have HY := Lib.hid hy
  obtain ⟨a, ha⟩ : ∃ a : Nat, a = 20 + 4 * i := ⟨_, rfl⟩
  obtain ⟨b, hb⟩ : ∃ b : Nat, b = a + 2 := ⟨_, rfl⟩
  have HB := Lib.hid hb
  obtain ⟨na, hna⟩ : ∃ n, n = 4096 - a := ⟨_, rfl⟩
  obtain ⟨nb, hnb⟩ : ∃ n, n = 4096 - b := ⟨_, rfl⟩
  have e10 : 4096 - a = na := hna.symm
  have e11 : 4096 - b = nb := hnb.symm
  have HNA := Lib.hid hna; have HNB := Lib.hid hnb
  have e1 : IntKind.i64.wrap (4 * (i : Int)) = 4 * (i : Int) := by rw [IntKind.wrap_i64]; omega
  have e2 : IntKind.i64.wrap (20 + 4 * (i : Int)) = (a : Int) := by rw [IntKind.wrap_i64]; omega
  have e2' : IntKind.i64.wrap (4 * (i : Int) + 20) = (a : Int) := by rw [IntKind.wrap_i64]; omega
  have e3 : IntKind.i64.wrap ((a : Int) + 2) = (b : Int) := by rw [IntKind.wrap_i64]; omega
  have e4 : (a : Int) ≤ 4096 := by omega
  have e5 : (b : Int) ≤ 4096 := by omega
  have e6 : (4096 - (a : Int)).toNat = na := by omega
  have e7 : (4096 - (b : Int)).toNat = nb := by omega
  have e8 : IntKind.i64.wrap x = x := by rw [IntKind.wrap_i64]; omega
  have e9 : IntKind.i64.wrap y = y := by rw [IntKind.wrap_i64]; omega
  have f1 : ¬ c = a := by omega
  have f2 : ¬ c = b := by omega
  have HI := Lib.hid hi; have HA := Lib.hid ha
  clear hna hnb h hx hy hp ha hb hi hw
  go_enter Tryd.func61, Tryd.ntmps61
  go_wp2_with fail
  refine region_ext (by kernel_rfl) (by kernel_rfl) ?_
  repeat (first
    | (refine WQ.skip (by rfl) ?_
       try simp only [Act.put, List.setIfInBounds_toArray, List.set_cons_zero, List.set_cons_succ])
    | (refine WQ.take ?_ (by rfl) (fun w' hw => ?_) ?_
       rotate_left
       · unfold Oper.quietAt
         go_simp
         first
           | done
           | exact ⟨rfl, rfl⟩
           | exact rfl
       try simp only [Act.put, List.setIfInBounds_toArray, List.set_cons_zero, List.set_cons_succ])
    | (refine WQ.take (.int .u16 x) (by rfl) (fun w' hw => ?_) ?_
       · unfold Oper.quietAt
         go_simp
         go_at_call_of 65 (na)
         exact ((beU16_calls _ _ _ _ _ _ _ _ (Rep.sl_ext HS.out hw) a (by have := HI.out; have := HA.out; have := HP.out; omega) (by have := HI.out; have := HA.out; have := HNA.out; omega)).mono (fun e w5 h5 => ⟨by rw [h5.1, HX.out, HA.out], hw.ext h5.2⟩))
       try simp only [Act.put, List.setIfInBounds_toArray, List.set_cons_zero, List.set_cons_succ])
    | (refine WQ.take (.int .u16 y) (by rfl) (fun w' hw => ?_) ?_
       · unfold Oper.quietAt
         go_simp
         go_at_call_of 65 (nb)
         exact ((beU16_calls _ _ _ _ _ _ _ _ (Rep.sl_ext HS.out hw) b (by have := HI.out; have := HA.out; have := HP.out; have := HB.out; omega) (by have := HI.out; have := HA.out; have := HB.out; have := HNB.out; omega)).mono (fun e w5 h5 => ⟨by rw [h5.1, HY.out, HB.out, HA.out], hw.ext h5.2⟩))
       try simp only [Act.put, List.setIfInBounds_toArray, List.set_cons_zero, List.set_cons_succ]))
  refine WQ.nil ?_
  intro w2 hw2
  have HE2 := Lib.hid hw2
  clear hw2
  go_wp2
  go_ret2
  exact ⟨rfl, HE2.out⟩
end Go.Proofs.YtghgjddiheebeaaDoor
/- Is a page in order: the model; the program's PageFault. -/
namespace Go.Proofs.YtghgjddiheebeaaDoor
open Go.RowKit
set_option linter.unusedSimpArgs false
set_option linter.unusedVariables false
open Classical in
/-- What is wrong with a slot. -/
noncomputable def slBad (p : List Int) (bt : Int) (i : Nat) : Bool := decide ((slO p i = 0 ∧ slN p i ≠ 0) ∨ (slO p i ≠ 0 ∧ (slN p i > 1000 ∨ slO p i < bt ∨ slO p i + slN p i > 4096)))
def cov (p : List Int) (i : Nat) (k : Int) : Prop := slO p i ≤ k ∧ k < slO p i + slN p i
open Classical in
noncomputable def pageFault (p : List Int) (num : Int) : Int :=
  if p.length ≠ 4096 then 1 else if beAt p 12 4 ≠ num then 2 else if beAt p 4 8 > 1099511627776 ∨ beAt p 18 2 ≠ 0 then 3
  else if beAt p 16 2 < 148 ∨ beAt p 16 2 > 4096 then 4 else if ∃ i, i < 32 ∧ slBad p (beAt p 16 2) i = true then 5
  else if ∃ i j k, i < 32 ∧ j < i ∧ cov p i k ∧ cov p j k then 6 else 0
theorem beAt_u64 {p : List Int} (hw : ∀ z ∈ p, 0 ≤ z ∧ z ≤ 255) (i : Nat) : 0 ≤ beAt p i 8 ∧ beAt p i 8 ≤ 18446744073709551615 := by
  obtain ⟨h1, h2⟩ := beAt_range2 hw i 8
  have h3 := pow256_mono (a := ((p.drop i).take 8).length) (b := 8) (by simp; omega)
  have h4 : (256 : Int) ^ 8 = 18446744073709551616 := by decide
  omega
theorem sl_some {w : World} {A : Option Addr} {c : Nat} {p : List Int} {F : List Nat} (h : (Rep.int .u8).sl w A c p F) (hp : 0 < p.length) : ∃ g off, A = some ⟨g, off, none⟩ := by
  obtain ⟨g, off, rfl, -⟩ := Rep.sl_int h 0 hp
  exact ⟨g, off, rfl⟩
theorem implFault_len (w : World) (A : Option Addr) (n c : Nat) (num : Int) (hp : ¬ n = 4096) :
    Calls Tryd.prog 81 #[.slice A n c, .int .i64 num] w fun e w' => e = .returned (.int .i64 1) ∧ Ext w w' := by
  have hp' : ¬ (n : Int) = 4096 := by omega
  go_enter Tryd.func81, Tryd.ntmps81
  go_wp2
  go_ret
  exact ⟨rfl, Only.refl _ _⟩
set_option maxRecDepth 100000 in
set_option maxHeartbeats 8000000 in
theorem implFault_head (w : World) (g off c : Nat) (p : List Int) (F : List Nat) (h : (Rep.int .u8).sl w (some ⟨g, off, none⟩) c p F) (hp : p.length = 4096) (num : Int) (R : Int)
    (hR : R = if beAt p 12 4 ≠ num then 2 else if beAt p 4 8 > 1099511627776 ∨ beAt p 18 2 ≠ 0 then 3 else 4)
    (hx : beAt p 12 4 ≠ num ∨ beAt p 4 8 > 1099511627776 ∨ beAt p 18 2 ≠ 0 ∨ beAt p 16 2 < 148 ∨ beAt p 16 2 > 4096) :
    Calls Tryd.prog 81 #[.slice (some ⟨g, off, none⟩) 4096 c, .int .i64 num] w fun e w' => e = .returned (.int .i64 R) ∧ Ext w w' := by
  have hw : ∀ z ∈ p, 0 ≤ z ∧ z ≤ 255 := fun z hz => Lib.byte_of_wf (sl_wf h z hz)
  have HS := Lib.hid h; have HP := Lib.hid hp
  have hpc := h.1
  rw [hp] at hpc
  obtain ⟨r1, r2⟩ := beAt_u32 hw 12
  obtain ⟨r3, r4⟩ := beAt_u64 hw 4
  obtain ⟨r5, r6⟩ := beAt_u16 hw 18
  obtain ⟨r7, r8⟩ := beAt_u16 hw 16
  obtain ⟨x, hx1⟩ : ∃ x, x = beAt p 12 4 := ⟨_, rfl⟩
  obtain ⟨l, hx2⟩ : ∃ x, x = beAt p 4 8 := ⟨_, rfl⟩
  obtain ⟨z, hx3⟩ : ∃ x, x = beAt p 18 2 := ⟨_, rfl⟩
  obtain ⟨b, hx4⟩ : ∃ x, x = beAt p 16 2 := ⟨_, rfl⟩
  rw [← hx1] at r1 r2 hR hx
  rw [← hx2] at r3 r4 hR hx
  rw [← hx3] at r5 r6 hR hx
  rw [← hx4] at r7 r8 hx
  have HX1 := Lib.hid hx1; have HX2 := Lib.hid hx2; have HX3 := Lib.hid hx3; have HX4 := Lib.hid hx4
  clear hx1 hx2 hx3 hx4
  have e1 : IntKind.i64.wrap x = x := by rw [IntKind.wrap_i64]; omega
  have e2 : IntKind.i64.wrap b = b := by rw [IntKind.wrap_i64]; omega
  have f1 : ¬ c = 12 := by omega
  have f2 : ¬ c = 4 := by omega
  have f3 : ¬ c = 18 := by omega
  have f4 : ¬ c = 16 := by omega
  clear h hp hw
  by_cases h1 : x = num
  case neg =>
    rw [if_pos h1] at hR
    subst hR
    have h1' : (x == num) = false := by simpa using h1
    go_enter Tryd.func81, Tryd.ntmps81
    go_wp2_with fail
    refine region_ext (by kernel_rfl) (by kernel_rfl) ?_
    repeat (first
      | (refine WQ.skip (by rfl) ?_
         try simp only [Act.put, List.setIfInBounds_toArray, List.set_cons_zero, List.set_cons_succ])
      | (refine WQ.take ?_ (by rfl) (fun w' hw => ?_) ?_
         rotate_left
         · unfold Oper.quietAt
           go_simp
           first
             | done
             | exact ⟨rfl, rfl⟩
             | exact rfl
         try simp only [Act.put, List.setIfInBounds_toArray, List.set_cons_zero, List.set_cons_succ])
      | (refine WQ.take (.int .u32 x) (by rfl) (fun w' hw => ?_) ?_
         · unfold Oper.quietAt
           go_simp
           go_at_call 109
           exact ((beU32_calls _ _ _ _ _ _ _ _ (Rep.sl_ext HS.out hw) 12 (by have := HP.out; omega) (by omega)).mono (fun e w5 h5 => ⟨by rw [h5.1, HX1.out], hw.ext h5.2⟩))
         try simp only [Act.put, List.setIfInBounds_toArray, List.set_cons_zero, List.set_cons_succ]))
    refine WQ.nil ?_
    intro w2 hw2
    have HE2 := Lib.hid hw2
    clear hw2
    go_wp2
    go_ret
    exact ⟨rfl, HE2.out⟩
  rw [if_neg (by simpa using h1)] at hR
  replace hx := hx.resolve_left (fun h => h h1)
  subst h1
  by_cases h2 : l > 1099511627776
  · rw [if_pos (.inl h2)] at hR
    subst hR
    go_enter Tryd.func81, Tryd.ntmps81
    go_wp2_with fail
    refine region_ext (by kernel_rfl) (by kernel_rfl) ?_
    repeat (first
      | (refine WQ.skip (by rfl) ?_
         try simp only [Act.put, List.setIfInBounds_toArray, List.set_cons_zero, List.set_cons_succ])
      | (refine WQ.take ?_ (by rfl) (fun w' hw => ?_) ?_
         rotate_left
         · unfold Oper.quietAt
           go_simp
           first
             | done
             | exact ⟨rfl, rfl⟩
             | exact rfl
         try simp only [Act.put, List.setIfInBounds_toArray, List.set_cons_zero, List.set_cons_succ])
      | (refine WQ.take (.int .u32 x) (by rfl) (fun w' hw => ?_) ?_
         · unfold Oper.quietAt
           go_simp
           go_at_call 109
           exact ((beU32_calls _ _ _ _ _ _ _ _ (Rep.sl_ext HS.out hw) 12 (by have := HP.out; omega) (by omega)).mono (fun e w5 h5 => ⟨by rw [h5.1, HX1.out], hw.ext h5.2⟩))
         try simp only [Act.put, List.setIfInBounds_toArray, List.set_cons_zero, List.set_cons_succ]))
    refine WQ.nil ?_
    intro w2 hw2
    have HE2 := Lib.hid hw2
    clear hw2
    go_wp2_with fail
    refine region_ext (by kernel_rfl) (by kernel_rfl) ?_
    repeat (first
      | (refine WQ.skip (by rfl) ?_
         try simp only [Act.put, List.setIfInBounds_toArray, List.set_cons_zero, List.set_cons_succ])
      | (refine WQ.take ?_ (by rfl) (fun w' hw => ?_) ?_
         rotate_left
         · unfold Oper.quietAt
           go_simp
           first
             | done
             | exact ⟨rfl, rfl⟩
             | exact rfl
         try simp only [Act.put, List.setIfInBounds_toArray, List.set_cons_zero, List.set_cons_succ])
      | (refine WQ.take (.int .u64 l) (by rfl) (fun w' hw => ?_) ?_
         · unfold Oper.quietAt
           go_simp
           go_at_call 113
           exact ((beU64_calls _ _ _ _ _ _ _ _ (Rep.sl_ext HS.out (HE2.out.ext hw)) 4 (by have := HP.out; omega) (by omega)).mono (fun e w5 h5 => ⟨by rw [h5.1, HX2.out], hw.ext h5.2⟩))
         try simp only [Act.put, List.setIfInBounds_toArray, List.set_cons_zero, List.set_cons_succ])
      | (refine WQ.take (.int .u16 z) (by rfl) (fun w' hw => ?_) ?_
         · unfold Oper.quietAt
           go_simp
           go_at_call 65
           exact ((beU16_calls _ _ _ _ _ _ _ _ (Rep.sl_ext HS.out (HE2.out.ext hw)) 18 (by have := HP.out; omega) (by omega)).mono (fun e w5 h5 => ⟨by rw [h5.1, HX3.out], hw.ext h5.2⟩))
         try simp only [Act.put, List.setIfInBounds_toArray, List.set_cons_zero, List.set_cons_succ])
      | (refine WQ.take (.int .u16 0) (by rfl) (fun w' hw => ?_) ?_
         · unfold Oper.quietAt
           go_simp
           go_at_call 65
           exact ((beU16_calls _ _ _ _ _ _ _ _ (Rep.sl_ext HS.out (HE2.out.ext hw)) 18 (by have := HP.out; omega) (by omega)).mono (fun e w5 h5 => ⟨by rw [h5.1, HX3.out], hw.ext h5.2⟩))
         try simp only [Act.put, List.setIfInBounds_toArray, List.set_cons_zero, List.set_cons_succ]))
    refine WQ.nil ?_
    intro w3 hw3
    have HE3 := Lib.hid (HE2.out.ext hw3)
    clear hw3
    go_wp2
    go_ret
    exact ⟨rfl, HE3.out⟩
  have h2' : ¬ 1099511627776 < l := by omega
  have h2d : decide (1099511627776 < l) = false := by simp; omega
  by_cases h3 : z = 0
  case neg =>
    rw [if_pos (.inr h3)] at hR
    subst hR
    have h3' : (z == 0) = false := by simpa using h3
    go_enter Tryd.func81, Tryd.ntmps81
    go_wp2_with fail
    refine region_ext (by kernel_rfl) (by kernel_rfl) ?_
    repeat (first
      | (refine WQ.skip (by rfl) ?_
         try simp only [Act.put, List.setIfInBounds_toArray, List.set_cons_zero, List.set_cons_succ])
      | (refine WQ.take ?_ (by rfl) (fun w' hw => ?_) ?_
         rotate_left
         · unfold Oper.quietAt
           go_simp
           first
             | done
             | exact ⟨rfl, rfl⟩
             | exact rfl
         try simp only [Act.put, List.setIfInBounds_toArray, List.set_cons_zero, List.set_cons_succ])
      | (refine WQ.take (.int .u32 x) (by rfl) (fun w' hw => ?_) ?_
         · unfold Oper.quietAt
           go_simp
           go_at_call 109
           exact ((beU32_calls _ _ _ _ _ _ _ _ (Rep.sl_ext HS.out hw) 12 (by have := HP.out; omega) (by omega)).mono (fun e w5 h5 => ⟨by rw [h5.1, HX1.out], hw.ext h5.2⟩))
         try simp only [Act.put, List.setIfInBounds_toArray, List.set_cons_zero, List.set_cons_succ]))
    refine WQ.nil ?_
    intro w2 hw2
    have HE2 := Lib.hid hw2
    clear hw2
    go_wp2_with fail
    refine region_ext (by kernel_rfl) (by kernel_rfl) ?_
    repeat (first
      | (refine WQ.skip (by rfl) ?_
         try simp only [Act.put, List.setIfInBounds_toArray, List.set_cons_zero, List.set_cons_succ])
      | (refine WQ.take ?_ (by rfl) (fun w' hw => ?_) ?_
         rotate_left
         · unfold Oper.quietAt
           go_simp
           first
             | done
             | exact ⟨rfl, rfl⟩
             | exact rfl
         try simp only [Act.put, List.setIfInBounds_toArray, List.set_cons_zero, List.set_cons_succ])
      | (refine WQ.take (.int .u64 l) (by rfl) (fun w' hw => ?_) ?_
         · unfold Oper.quietAt
           go_simp
           go_at_call 113
           exact ((beU64_calls _ _ _ _ _ _ _ _ (Rep.sl_ext HS.out (HE2.out.ext hw)) 4 (by have := HP.out; omega) (by omega)).mono (fun e w5 h5 => ⟨by rw [h5.1, HX2.out], hw.ext h5.2⟩))
         try simp only [Act.put, List.setIfInBounds_toArray, List.set_cons_zero, List.set_cons_succ])
      | (refine WQ.take (.int .u16 z) (by rfl) (fun w' hw => ?_) ?_
         · unfold Oper.quietAt
           go_simp
           go_at_call 65
           exact ((beU16_calls _ _ _ _ _ _ _ _ (Rep.sl_ext HS.out (HE2.out.ext hw)) 18 (by have := HP.out; omega) (by omega)).mono (fun e w5 h5 => ⟨by rw [h5.1, HX3.out], hw.ext h5.2⟩))
         try simp only [Act.put, List.setIfInBounds_toArray, List.set_cons_zero, List.set_cons_succ])
      | (refine WQ.take (.int .u16 0) (by rfl) (fun w' hw => ?_) ?_
         · unfold Oper.quietAt
           go_simp
           go_at_call 65
           exact ((beU16_calls _ _ _ _ _ _ _ _ (Rep.sl_ext HS.out (HE2.out.ext hw)) 18 (by have := HP.out; omega) (by omega)).mono (fun e w5 h5 => ⟨by rw [h5.1, HX3.out], hw.ext h5.2⟩))
         try simp only [Act.put, List.setIfInBounds_toArray, List.set_cons_zero, List.set_cons_succ]))
    refine WQ.nil ?_
    intro w3 hw3
    have HE3 := Lib.hid (HE2.out.ext hw3)
    clear hw3
    go_wp2
    go_ret
    exact ⟨rfl, HE3.out⟩
  rw [if_neg (fun h => h.elim h2 (fun h => h h3))] at hR
  replace hx := (hx.resolve_left h2).resolve_left (fun h => h h3)
  subst h3; subst hR
  rcases hx with h4 | h4
  all_goals
    go_enter Tryd.func81, Tryd.ntmps81
    go_wp2_with fail
    refine region_ext (by kernel_rfl) (by kernel_rfl) ?_
    repeat (first
      | (refine WQ.skip (by rfl) ?_
         try simp only [Act.put, List.setIfInBounds_toArray, List.set_cons_zero, List.set_cons_succ])
      | (refine WQ.take ?_ (by rfl) (fun w' hw => ?_) ?_
         rotate_left
         · unfold Oper.quietAt
           go_simp
           first
             | done
             | exact ⟨rfl, rfl⟩
             | exact rfl
         try simp only [Act.put, List.setIfInBounds_toArray, List.set_cons_zero, List.set_cons_succ])
      | (refine WQ.take (.int .u32 x) (by rfl) (fun w' hw => ?_) ?_
         · unfold Oper.quietAt
           go_simp
           go_at_call 109
           exact ((beU32_calls _ _ _ _ _ _ _ _ (Rep.sl_ext HS.out hw) 12 (by have := HP.out; omega) (by omega)).mono (fun e w5 h5 => ⟨by rw [h5.1, HX1.out], hw.ext h5.2⟩))
         try simp only [Act.put, List.setIfInBounds_toArray, List.set_cons_zero, List.set_cons_succ]))
    refine WQ.nil ?_
    intro w2 hw2
    have HE2 := Lib.hid hw2
    clear hw2
    go_wp2_with fail
    refine region_ext (by kernel_rfl) (by kernel_rfl) ?_
    repeat (first
      | (refine WQ.skip (by rfl) ?_
         try simp only [Act.put, List.setIfInBounds_toArray, List.set_cons_zero, List.set_cons_succ])
      | (refine WQ.take ?_ (by rfl) (fun w' hw => ?_) ?_
         rotate_left
         · unfold Oper.quietAt
           go_simp
           first
             | done
             | exact ⟨rfl, rfl⟩
             | exact rfl
         try simp only [Act.put, List.setIfInBounds_toArray, List.set_cons_zero, List.set_cons_succ])
      | (refine WQ.take (.int .u64 l) (by rfl) (fun w' hw => ?_) ?_
         · unfold Oper.quietAt
           go_simp
           go_at_call 113
           exact ((beU64_calls _ _ _ _ _ _ _ _ (Rep.sl_ext HS.out (HE2.out.ext hw)) 4 (by have := HP.out; omega) (by omega)).mono (fun e w5 h5 => ⟨by rw [h5.1, HX2.out], hw.ext h5.2⟩))
         try simp only [Act.put, List.setIfInBounds_toArray, List.set_cons_zero, List.set_cons_succ])
      | (refine WQ.take (.int .u16 z) (by rfl) (fun w' hw => ?_) ?_
         · unfold Oper.quietAt
           go_simp
           go_at_call 65
           exact ((beU16_calls _ _ _ _ _ _ _ _ (Rep.sl_ext HS.out (HE2.out.ext hw)) 18 (by have := HP.out; omega) (by omega)).mono (fun e w5 h5 => ⟨by rw [h5.1, HX3.out], hw.ext h5.2⟩))
         try simp only [Act.put, List.setIfInBounds_toArray, List.set_cons_zero, List.set_cons_succ])
      | (refine WQ.take (.int .u16 0) (by rfl) (fun w' hw => ?_) ?_
         · unfold Oper.quietAt
           go_simp
           go_at_call 65
           exact ((beU16_calls _ _ _ _ _ _ _ _ (Rep.sl_ext HS.out (HE2.out.ext hw)) 18 (by have := HP.out; omega) (by omega)).mono (fun e w5 h5 => ⟨by rw [h5.1, HX3.out], hw.ext h5.2⟩))
         try simp only [Act.put, List.setIfInBounds_toArray, List.set_cons_zero, List.set_cons_succ]))
    refine WQ.nil ?_
    intro w3 hw3
    have HE3 := Lib.hid (HE2.out.ext hw3)
    clear hw3
    go_wp2_with fail
    refine region_ext (by kernel_rfl) (by kernel_rfl) ?_
    repeat (first
      | (refine WQ.skip (by rfl) ?_
         try simp only [Act.put, List.setIfInBounds_toArray, List.set_cons_zero, List.set_cons_succ])
      | (refine WQ.take ?_ (by rfl) (fun w' hw => ?_) ?_
         rotate_left
         · unfold Oper.quietAt
           go_simp
           first
             | done
             | exact ⟨rfl, rfl⟩
             | exact rfl
         try simp only [Act.put, List.setIfInBounds_toArray, List.set_cons_zero, List.set_cons_succ])
      | (refine WQ.take (.int .u16 b) (by rfl) (fun w' hw => ?_) ?_
         · unfold Oper.quietAt
           go_simp
           go_at_call 65
           exact ((beU16_calls _ _ _ _ _ _ _ _ (Rep.sl_ext HS.out (HE3.out.ext hw)) 16 (by have := HP.out; omega) (by omega)).mono (fun e w5 h5 => ⟨by rw [h5.1, HX4.out], hw.ext h5.2⟩))
         try simp only [Act.put, List.setIfInBounds_toArray, List.set_cons_zero, List.set_cons_succ]))
    refine WQ.nil ?_
    intro w4 hw4
    have HE4 := Lib.hid (HE3.out.ext hw4)
    clear hw4
    go_wp2
    go_ret
    exact ⟨rfl, HE4.out⟩
end Go.Proofs.YtghgjddiheebeaaDoor
/- The program's PageFault behind its head: the slots, the marks. -/
namespace Go.Proofs.YtghgjddiheebeaaDoor
open Go.RowKit
set_option linter.unusedSimpArgs false
set_option linter.unusedVariables false
theorem marks_zero : Tryd.zeroCells147 = Array.replicate 4096 (.bool false) := by kernel_rfl
theorem marks_zero_at (t : Nat) (ht : t < 4096) : (Tryd.zeroCells147)[t]? = some (.bool false) := by
  rw [marks_zero]; simp [ht]
noncomputable def tk (P : Prop) : Bool := @decide P (Classical.propDecidable P)
theorem tk_true {P : Prop} (h : P) : tk P = true := by simp [tk, h]
theorem tk_false {P : Prop} (h : ¬ P) : tk P = false := by simp [tk, h]
theorem tk_congr {P Q : Prop} (h : P ↔ Q) : tk P = tk Q := by rw [show P = Q from propext h]
/-- The marks in block B: exactly the bytes of S. -/
def Marks (w : World) (B : Nat) (S : Int → Prop) : Prop := ∀ t : Nat, t < 4096 → w.cell? ⟨B, t, none⟩ = some (.bool (tk (S t))) ∧ w.frozen? ⟨B, t, none⟩ = false
theorem Marks.set {w : World} {B : Nat} {S : Int → Prop} (h : Marks w B S) (s : Nat) (hs : s < 4096) (S' : Int → Prop) (hS : ∀ t : Int, S' t ↔ (S t ∨ t = s)) : Marks (w.setCell ⟨B, s, none⟩ (.bool true)) B S' := by
  intro t ht
  refine ⟨?_, by rw [World.frozen?_setCell]; exact (h t ht).2⟩
  by_cases e : t = s
  · subst e
    rw [World.cell?_setCell_same' _ _ _ (by rw [(h t ht).1]; rfl), tk_true ((hS t).2 (.inr rfl))]
  · have hne : (⟨B, s, none⟩ : Addr) ≠ ⟨B, t, none⟩ := fun h' => e (by injection h' with _ h'; exact h'.symm)
    have ho := World.cell?_setCell_other (w := w) (a := ⟨B, s, none⟩) (b := ⟨B, t, none⟩) (v := .bool true) hne
    rw [ho, (h t ht).1]
    have hst : S' (t : Int) ↔ S t := by rw [hS]; exact ⟨fun h' => h'.resolve_right (by omega), .inl⟩
    rw [tk_congr hst]
theorem Marks.same {w w' : World} {B : Nat} {S S' : Int → Prop} (h : Marks w B S) (hE : Ext w w') (hB : B < w.heap.size) (hS : ∀ t : Int, S' t ↔ S t) : Marks w' B S' := by
  intro t ht
  obtain ⟨h1, h2⟩ := h t ht
  refine ⟨by rw [hE.ecell h1, tk_congr (hS t)], ?_⟩
  exact hE.efroz hB h2
theorem Marks.zero (w : World) (S : Int → Prop) (hS : ∀ t, ¬ S t) : Marks (w.alloc (.cells Tryd.zeroCells147 147)) w.heap.size S := by
  intro t ht
  refine ⟨?_, World.frozen?_alloc_at _ _ _ _ rfl⟩
  rw [World.cell?_alloc_at _ _ _ _ rfl, marks_zero_at t ht, tk_false (hS t)]
theorem Marks.lt {w : World} {B : Nat} {S : Int → Prop} (h : Marks w B S) : B < w.heap.size := block_lt_of_cell (h 0 (by decide)).1
theorem slBad_false {p : List Int} {bt : Int} {i : Nat} : slBad p bt i = false ↔ ¬ ((slO p i = 0 ∧ slN p i ≠ 0) ∨ (slO p i ≠ 0 ∧ (slN p i > 1000 ∨ slO p i < bt ∨ slO p i + slN p i > 4096))) := by
  simp only [slBad, decide_eq_false_iff_not]
theorem slBad_true {p : List Int} {bt : Int} {i : Nat} : slBad p bt i = true ↔ ((slO p i = 0 ∧ slN p i ≠ 0) ∨ (slO p i ≠ 0 ∧ (slN p i > 1000 ∨ slO p i < bt ∨ slO p i + slN p i > 4096))) := by
  simp only [slBad, decide_eq_true_eq]
open Classical in
set_option maxRecDepth 100000 in
set_option maxHeartbeats 8000000 in
theorem implFault_body (w : World) (g off c : Nat) (p : List Int) (F : List Nat) (h : (Rep.int .u8).sl w (some ⟨g, off, none⟩) c p F) (hp : p.length = 4096) (num : Int) (R : Int)
    (hR : R = if ∃ i, i < 32 ∧ slBad p (beAt p 16 2) i = true then 5 else if ∃ i j k, i < 32 ∧ j < i ∧ cov p i k ∧ cov p j k then 6 else 0)
    (hx1 : beAt p 12 4 = num) (hx2 : beAt p 4 8 ≤ 1099511627776) (hx3 : beAt p 18 2 = 0) (hx4 : 148 ≤ beAt p 16 2) (hx5 : beAt p 16 2 ≤ 4096) :
    Calls Tryd.prog 81 #[.slice (some ⟨g, off, none⟩) 4096 c, .int .i64 num] w fun e w' => e = .returned (.int .i64 R) ∧ Ext w w' := by
  have hw : ∀ z ∈ p, 0 ≤ z ∧ z ≤ 255 := fun z hz => Lib.byte_of_wf (sl_wf h z hz)
  have HS := Lib.hid h; have HP := Lib.hid hp
  have hpc := h.1
  rw [hp] at hpc
  obtain ⟨r1, r2⟩ := beAt_u32 hw 12
  obtain ⟨r3, r4⟩ := beAt_u64 hw 4
  have HRO := Lib.hid (fun i => (show 0 ≤ slO p i ∧ slO p i ≤ 65535 from beAt_u16 hw _))
  have HRN := Lib.hid (fun i => (show 0 ≤ slN p i ∧ slN p i ≤ 65535 from beAt_u16 hw _))
  obtain ⟨x, hy1⟩ : ∃ x, x = beAt p 12 4 := ⟨_, rfl⟩
  obtain ⟨l, hy2⟩ : ∃ x, x = beAt p 4 8 := ⟨_, rfl⟩
  obtain ⟨b, hy4⟩ : ∃ x, x = beAt p 16 2 := ⟨_, rfl⟩
  rw [← hy1] at r1 r2 hx1
  rw [← hy2] at r3 r4 hx2
  rw [← hy4] at hR hx4 hx5
  subst hx1
  have HX1 := Lib.hid hy1; have HX2 := Lib.hid hy2; have HX3 := Lib.hid hx3.symm; have HX4 := Lib.hid hy4
  have h2' : ¬ 1099511627776 < l := by omega
  have h2d : decide (1099511627776 < l) = false := by simp; omega
  have h4' : ¬ b < 148 := by omega
  have h5' : ¬ 4096 < b := by omega
  have e1 : IntKind.i64.wrap x = x := by rw [IntKind.wrap_i64]; omega
  have e2 : IntKind.i64.wrap b = b := by rw [IntKind.wrap_i64]; omega
  have f1 : ¬ c = 12 := by omega
  have f2 : ¬ c = 4 := by omega
  have f3 : ¬ c = 18 := by omega
  have f4 : ¬ c = 16 := by omega
  have HR := Lib.hid hR
  clear hy1 hy2 hx3 hy4 h hp hw hR
  go_enter Tryd.func81, Tryd.ntmps81
  go_wp2_with fail
  refine region_ext (by kernel_rfl) (by kernel_rfl) ?_
  repeat (first
    | (refine WQ.skip (by rfl) ?_
       try simp only [Act.put, List.setIfInBounds_toArray, List.set_cons_zero, List.set_cons_succ])
    | (refine WQ.take ?_ (by rfl) (fun w' hw => ?_) ?_
       rotate_left
       · unfold Oper.quietAt
         go_simp
         first
           | done
           | exact ⟨rfl, rfl⟩
           | exact rfl
       try simp only [Act.put, List.setIfInBounds_toArray, List.set_cons_zero, List.set_cons_succ])
    | (refine WQ.take (.int .u32 x) (by rfl) (fun w' hw => ?_) ?_
       · unfold Oper.quietAt
         go_simp
         go_at_call 109
         exact ((beU32_calls _ _ _ _ _ _ _ _ (Rep.sl_ext HS.out hw) 12 (by have := HP.out; omega) (by omega)).mono (fun e w5 h5 => ⟨by rw [h5.1, HX1.out], hw.ext h5.2⟩))
       try simp only [Act.put, List.setIfInBounds_toArray, List.set_cons_zero, List.set_cons_succ]))
  refine WQ.nil ?_
  intro w2 hw2
  have HE2 := Lib.hid hw2
  clear hw2
  go_wp2_with fail
  refine region_ext (by kernel_rfl) (by kernel_rfl) ?_
  repeat (first
    | (refine WQ.skip (by rfl) ?_
       try simp only [Act.put, List.setIfInBounds_toArray, List.set_cons_zero, List.set_cons_succ])
    | (refine WQ.take ?_ (by rfl) (fun w' hw => ?_) ?_
       rotate_left
       · unfold Oper.quietAt
         go_simp
         first
           | done
           | exact ⟨rfl, rfl⟩
           | exact rfl
       try simp only [Act.put, List.setIfInBounds_toArray, List.set_cons_zero, List.set_cons_succ])
    | (refine WQ.take (.int .u64 l) (by rfl) (fun w' hw => ?_) ?_
       · unfold Oper.quietAt
         go_simp
         go_at_call 113
         exact ((beU64_calls _ _ _ _ _ _ _ _ (Rep.sl_ext HS.out (HE2.out.ext hw)) 4 (by have := HP.out; omega) (by omega)).mono (fun e w5 h5 => ⟨by rw [h5.1, HX2.out], hw.ext h5.2⟩))
       try simp only [Act.put, List.setIfInBounds_toArray, List.set_cons_zero, List.set_cons_succ])
    | (refine WQ.take (.int .u16 z) (by rfl) (fun w' hw => ?_) ?_
       · unfold Oper.quietAt
         go_simp
         go_at_call 65
         exact ((beU16_calls _ _ _ _ _ _ _ _ (Rep.sl_ext HS.out (HE2.out.ext hw)) 18 (by have := HP.out; omega) (by omega)).mono (fun e w5 h5 => ⟨by rw [h5.1, HX3.out], hw.ext h5.2⟩))
       try simp only [Act.put, List.setIfInBounds_toArray, List.set_cons_zero, List.set_cons_succ])
    | (refine WQ.take (.int .u16 0) (by rfl) (fun w' hw => ?_) ?_
       · unfold Oper.quietAt
         go_simp
         go_at_call 65
         exact ((beU16_calls _ _ _ _ _ _ _ _ (Rep.sl_ext HS.out (HE2.out.ext hw)) 18 (by have := HP.out; omega) (by omega)).mono (fun e w5 h5 => ⟨by rw [h5.1, HX3.out], hw.ext h5.2⟩))
       try simp only [Act.put, List.setIfInBounds_toArray, List.set_cons_zero, List.set_cons_succ]))
  refine WQ.nil ?_
  intro w3 hw3
  have HE3 := Lib.hid (HE2.out.ext hw3)
  clear hw3
  go_wp2_with fail
  refine region_ext (by kernel_rfl) (by kernel_rfl) ?_
  repeat (first
    | (refine WQ.skip (by rfl) ?_
       try simp only [Act.put, List.setIfInBounds_toArray, List.set_cons_zero, List.set_cons_succ])
    | (refine WQ.take ?_ (by rfl) (fun w' hw => ?_) ?_
       rotate_left
       · unfold Oper.quietAt
         go_simp
         first
           | done
           | exact ⟨rfl, rfl⟩
           | exact rfl
       try simp only [Act.put, List.setIfInBounds_toArray, List.set_cons_zero, List.set_cons_succ])
    | (refine WQ.take (.int .u16 b) (by rfl) (fun w' hw => ?_) ?_
       · unfold Oper.quietAt
         go_simp
         go_at_call 65
         exact ((beU16_calls _ _ _ _ _ _ _ _ (Rep.sl_ext HS.out (HE3.out.ext hw)) 16 (by have := HP.out; omega) (by omega)).mono (fun e w5 h5 => ⟨by rw [h5.1, HX4.out], hw.ext h5.2⟩))
       try simp only [Act.put, List.setIfInBounds_toArray, List.set_cons_zero, List.set_cons_succ]))
  refine WQ.nil ?_
  intro w4 hw4
  have HE4 := Lib.hid (HE3.out.ext hw4)
  clear hw4
  go_wp2
  go_loopg [6, 7, 8] 32 (fun m i o n wr => ∃ k : Nat, m + k = 32 ∧ i = .int .i64 k ∧ Hid (∀ j, j < k → slBad p b j = false) ∧ Ext w wr)
  case atStart => exact ⟨0, by simp, rfl, Lib.hid (fun j hj => absurd hj (by omega)), HE4.out⟩
  case round =>
    obtain ⟨k, hmk, rfl, HG, hE⟩ := hrel
    have HE5 := Lib.hid hE; have HMK := Lib.hid hmk
    clear hE hmk
    by_cases hlt : (k : Int) < 32
    · have hk : k < 32 := by omega
      have HC := Lib.hid (slotOf_calls _ g off c p F (Rep.sl_ext HS.out HE5.out) HP.out k hk)
      obtain ⟨q1, q2⟩ := HRO.out k
      obtain ⟨q3, q4⟩ := HRN.out k
      obtain ⟨o, ho⟩ : ∃ o, o = slO p k := ⟨_, rfl⟩
      obtain ⟨n, hn⟩ : ∃ o, o = slN p k := ⟨_, rfl⟩
      rw [← ho] at q1 q2
      rw [← hn] at q3 q4
      have hbt := @slBad_true p b k
      have hbf := @slBad_false p b k
      rw [← ho, ← hn] at hbt hbf
      have HO := Lib.hid ho; have HN := Lib.hid hn; have HBT := Lib.hid hbt; have HBF := Lib.hid hbf
      have e3 : IntKind.i64.wrap (o + n) = o + n := by rw [IntKind.wrap_i64]; omega
      clear ho hn hbt hbf
      have hcs : ((o = 0 ∧ ¬ n = 0) ∨ (¬ o = 0 ∧ 1000 < n) ∨ (¬ o = 0 ∧ ¬ 1000 < n ∧ o < b) ∨ (¬ o = 0 ∧ ¬ 1000 < n ∧ ¬ o < b ∧ 4096 < o + n)) ∨ ((o = 0 ∧ n = 0) ∨ (¬ o = 0 ∧ ¬ 1000 < n ∧ ¬ o < b ∧ ¬ 4096 < o + n)) := by omega
      rcases hcs with hbad | hgood
      · have HB := Lib.hid (show slBad p b k = true from HBT.out.2 (by omega))
        rcases hbad with ⟨rfl, c1⟩ | ⟨c0, c1⟩ | ⟨c0, c1, c2⟩ | ⟨c0, c1, c2, c3⟩
        all_goals
          go_wp2_with (go_at_call 61; refine HC.out.mono ?_; rintro e w5 ⟨rfl, hE⟩; simp only [← HO.out, ← HN.out]; have HE6 := Lib.hid (HE5.out.ext hE); clear hE)
          go_ret
          exact ⟨by rw [HR.out, if_pos ⟨k, hk, HB.out⟩]; rfl, HE6.out⟩
      · have HB := Lib.hid (show slBad p b k = false from HBF.out.2 (by omega))
        rcases hgood with ⟨rfl, rfl⟩ | ⟨c0, c1, c2, c3⟩
        all_goals
          go_wp2_with (go_at_call 61; refine HC.out.mono ?_; rintro e w5 ⟨rfl, hE⟩; simp only [← HO.out, ← HN.out]; have HE6 := Lib.hid (HE5.out.ext hE); clear hE)
          go_roundg (32 - (k + 1))
          case measure => have := HMK.out; omega
          case rel =>
            refine ⟨k + 1, by have := HMK.out; omega, rfl, Lib.hid (fun j hj => ?_), HE6.out⟩
            rcases Nat.lt_or_ge j k with h | h
            · exact HG.out j h
            · obtain rfl : j = k := by omega
              exact HB.out
    · have hk32 : k = 32 := by have := HMK.out; omega
      subst hk32
      have HB := Lib.hid (show ∀ i, i < 32 → slO p i + slN p i ≤ 4096 from fun i hi => by
        have h1 := slBad_false.1 (HG.out i hi)
        omega)
      have HR6 := Lib.hid (show R = if ∃ i j k, i < 32 ∧ j < i ∧ cov p i k ∧ cov p j k then 6 else 0 by
        rw [HR.out]
        refine if_neg ?_
        rintro ⟨i, hi, h⟩
        rw [HG.out i hi] at h
        cases h)
      go_wp2
      have HM := Lib.hid (Marks.zero wr (fun t => ∃ j, j < 0 ∧ cov p j t) (fun t => by rintro ⟨j, h, _⟩; omega))
      obtain ⟨Bk, hBk⟩ : ∃ b, b = wr.heap.size := ⟨_, rfl⟩
      have HBW := Lib.hid (show w.heap.size ≤ Bk from hBk ▸ HE5.out.size)
      rw [← hBk] at HM
      try rw [← hBk]
      have HBK := Lib.hid hBk
      clear hBk
      go_loopg [10, 11, 12, 13] 32 (fun m i o n q wx => ∃ k : Nat, m + k = 32 ∧ i = .int .i64 k ∧ Hid (∀ i j t, i < k → j < i → ¬ (cov p i t ∧ cov p j t)) ∧ Hid (Marks wx Bk (fun t => ∃ j, j < k ∧ cov p j t)) ∧ Ext w wx)
      case atStart => exact ⟨0, by simp, rfl, Lib.hid (fun i j t h => absurd h (by omega)), HM, HE5.out.alloc _⟩
      case round =>
        obtain ⟨k, hmk, rfl, HNO, HMM, hE⟩ := hrel
        have HE6 := Lib.hid hE; have HMK2 := Lib.hid hmk
        clear hE hmk
        by_cases hlt2 : (k : Int) < 32
        · have hk : k < 32 := by omega
          have HC := Lib.hid (slotOf_calls _ g off c p F (Rep.sl_ext HS.out HE6.out) HP.out k hk)
          obtain ⟨q1, q2⟩ := HRO.out k
          obtain ⟨q3, q4⟩ := HRN.out k
          have hb1 := HB.out k hk
          obtain ⟨o, ho⟩ : ∃ o, o = slO p k := ⟨_, rfl⟩
          obtain ⟨n, hn⟩ : ∃ o, o = slN p k := ⟨_, rfl⟩
          have hcv : ∀ t, cov p k t ↔ o ≤ t ∧ t < o + n := fun t => by rw [ho, hn]; exact Iff.rfl
          rw [← ho] at q1 q2 hb1
          rw [← hn] at q3 q4 hb1
          have HO := Lib.hid ho; have HN := Lib.hid hn; have HCV := Lib.hid hcv
          have e3 : IntKind.i64.wrap (o + n) = o + n := by rw [IntKind.wrap_i64]; omega
          clear ho hn hcv
          go_wp2_with (go_at_call 61; refine HC.out.mono ?_; rintro e w5 ⟨rfl, hE⟩; simp only [← HO.out, ← HN.out]; have HE7 := Lib.hid (HE6.out.ext hE); have HM5 := Lib.hid (HMM.out.same hE HMM.out.lt (fun t => Iff.rfl)); clear hE)
          go_loopg [13] (n.toNat) (fun m q wx => ∃ s : Nat, m + s = (o + n).toNat ∧ q = .int .i64 s ∧ Hid (o ≤ (s : Int) ∧ (s : Int) ≤ o + n) ∧ Hid (∀ t : Int, o ≤ t → t < s → ∀ j, j < k → ¬ cov p j t) ∧ Hid (Marks wx Bk (fun t => (∃ j, j < k ∧ cov p j t) ∨ (o ≤ t ∧ t < s))) ∧ Ext w wx)
          case atStart => exact ⟨o.toNat, by omega, by congr 1; omega, Lib.hid (by omega), Lib.hid (fun t h1 h2 => absurd h2 (by omega)), Lib.hid (HM5.out.same (Only.refl _ _) HM5.out.lt (fun t => ⟨fun h => h.resolve_right (by omega), .inl⟩)), HE7.out⟩
          case round =>
            obtain ⟨s, hms, rfl, HSB, HNV, HMS, hE⟩ := hrel
            have HE8 := Lib.hid hE; have HMS2 := Lib.hid hms
            clear hE hms
            by_cases hls : (s : Int) < o + n
            · have hs4 : s < 4096 := by omega
              have hs5 : (s : Int) < 4096 := by omega
              obtain ⟨m1, m2⟩ := HMS.out s hs4
              by_cases htk : ∃ j, j < k ∧ cov p j s
              · have HTK := Lib.hid htk
                rw [tk_true (.inl htk)] at m1
                clear htk
                go_wp2
                go_ret
                refine ⟨?_, HE8.out⟩
                obtain ⟨j, hj, hc⟩ := HTK.out
                rw [HR6.out, if_pos ⟨k, j, s, hk, hj, (HCV.out s).2 ⟨HSB.out.1, hls⟩, hc⟩]
                rfl
              · have HTK := Lib.hid htk
                rw [tk_false (by rintro (h | ⟨_, h⟩); exact htk h; omega)] at m1
                clear htk
                go_wp2
                go_roundg ((o + n).toNat - (s + 1))
                case measure => have := HMS2.out; omega
                case rel =>
                  refine ⟨s + 1, by have := HMS2.out; omega, rfl, Lib.hid (by have := HSB.out; omega), Lib.hid (fun t h1 h2 j hj hc => ?_), Lib.hid (HMS.out.set s hs4 _ (fun t => ?_)), ?_⟩
                  · by_cases e : t = s
                    · subst e; exact HTK.out ⟨j, hj, hc⟩
                    · exact HNV.out t h1 (by omega) j hj hc
                  · have := HSB.out
                    constructor
                    · rintro (h | h)
                      · exact .inl (.inl h)
                      · by_cases e : t = s
                        · exact .inr e
                        · exact .inl (.inr (by omega))
                    · rintro ((h | h) | h)
                      · exact .inl h
                      · exact .inr (by omega)
                      · exact .inr (by omega)
                  · exact HE8.out.setCell (fun h => absurd h (by have := HBW.out; simp only; omega)) _
            · go_wp2
              go_roundg (32 - (k + 1))
              case measure => have := HMK2.out; omega
              case rel =>
                have hso : (s : Int) = o + n := by have := HSB.out; omega
                refine ⟨k + 1, by have := HMK2.out; omega, rfl, Lib.hid (fun i j t hi hj => ?_), Lib.hid (HMS.out.same (Only.refl _ _) HMS.out.lt (fun t => ?_)), HE8.out⟩
                · rcases Nat.lt_or_ge i k with h | h
                  · exact HNO.out i j t h hj
                  · obtain rfl : i = k := by omega
                    rintro ⟨h1, h2⟩
                    have h3 := (HCV.out t).1 h1
                    exact HNV.out t h3.1 (by omega) j hj h2
                · rw [hso, ← HCV.out t]
                  constructor
                  · rintro ⟨j, hj, hc⟩
                    rcases Nat.lt_or_ge j k with h | h
                    · exact .inl ⟨j, h, hc⟩
                    · obtain rfl : j = k := by omega
                      exact .inr hc
                  · rintro (⟨j, hj, hc⟩ | hc)
                    · exact ⟨j, by omega, hc⟩
                    · exact ⟨k, by omega, hc⟩
        · have hk32 : k = 32 := by have := HMK2.out; omega
          subst hk32
          go_wp2
          go_ret
          refine ⟨?_, HE6.out⟩
          rw [HR6.out, if_neg]
          · rfl
          · rintro ⟨i, j, t, hi, hj, h1, h2⟩
            exact HNO.out i j t hi hj ⟨h1, h2⟩
end Go.Proofs.YtghgjddiheebeaaDoor
/- The program's PageFault, whole; well-formedness. -/
namespace Go.Proofs.YtghgjddiheebeaaDoor
open Go.RowKit
set_option linter.unusedSimpArgs false
set_option linter.unusedVariables false
open Classical in
theorem implPageFault_calls (w : World) (A : Option Addr) (c : Nat) (p : List Int) (F : List Nat) (h : (Rep.int .u8).sl w A c p F) (num : Int) :
    Calls Tryd.prog 81 #[.slice A p.length c, .int .i64 num] w fun e w' => e = .returned (.int .i64 (pageFault p num)) ∧ Ext w w' := by
  by_cases hp : p.length = 4096
  case neg =>
    rw [pageFault, if_pos hp]
    exact implFault_len w A p.length c num hp
  obtain ⟨g, off, rfl⟩ := sl_some h (by omega)
  have hf : pageFault p num = if beAt p 12 4 ≠ num then 2 else if beAt p 4 8 > 1099511627776 ∨ beAt p 18 2 ≠ 0 then 3
      else if beAt p 16 2 < 148 ∨ beAt p 16 2 > 4096 then 4 else if ∃ i, i < 32 ∧ slBad p (beAt p 16 2) i = true then 5
      else if ∃ i j k, i < 32 ∧ j < i ∧ cov p i k ∧ cov p j k then 6 else 0 := by
    rw [pageFault, if_neg (by simpa using hp)]
  rw [hp]
  by_cases hx : beAt p 12 4 ≠ num ∨ beAt p 4 8 > 1099511627776 ∨ beAt p 18 2 ≠ 0 ∨ beAt p 16 2 < 148 ∨ beAt p 16 2 > 4096
  · refine implFault_head w g off c p F h hp num _ ?_ hx
    rw [hf]
    by_cases h1 : beAt p 12 4 ≠ num
    · rw [if_pos h1, if_pos h1]
    · rw [if_neg h1, if_neg h1]
      by_cases h2 : beAt p 4 8 > 1099511627776 ∨ beAt p 18 2 ≠ 0
      · rw [if_pos h2, if_pos h2]
      · rw [if_neg h2, if_neg h2]
        refine if_pos ?_
        rcases hx with h | h | h | h | h
        · exact absurd h h1
        · exact absurd (.inl h) h2
        · exact absurd (.inr h) h2
        · exact .inl h
        · exact .inr h
  · have h1 : beAt p 12 4 = num := Classical.byContradiction fun h => hx (.inl h)
    have h2 : ¬ beAt p 4 8 > 1099511627776 := fun h => hx (.inr (.inl h))
    have h3 : beAt p 18 2 = 0 := Classical.byContradiction fun h => hx (.inr (.inr (.inl h)))
    have h4 : ¬ beAt p 16 2 < 148 := fun h => hx (.inr (.inr (.inr (.inl h))))
    have h5 : ¬ beAt p 16 2 > 4096 := fun h => hx (.inr (.inr (.inr (.inr h))))
    refine implFault_body w g off c p F h hp num _ ?_ h1 (by omega) h3 (by omega) (by omega)
    rw [hf, if_neg (by simpa using h1), if_neg (by rintro (h | h); exact h2 h; exact h h3), if_neg (by rintro (h | h); exact h4 h; exact h5 h)]
end Go.Proofs.YtghgjddiheebeaaDoor
/- Well-formedness: the program's. -/
namespace Go.Proofs.YtghgjddiheebeaaDoor
open Go.RowKit
set_option linter.unusedSimpArgs false
set_option linter.unusedVariables false
noncomputable def wellF (p : List Int) : Bool := decide (p.length = 4096) && decide (pageFault p (beAt p 12 4) = 0)
end Go.Proofs.YtghgjddiheebeaaDoor
/- The reference's numbers are the program's; the bottom. -/
namespace Go.Proofs.YtghgjddiheebeaaDoor
open Go.RowKit
set_option linter.unusedSimpArgs false
set_option linter.unusedVariables false
theorem numAt_short {p : List Int} (i n : Nat) (hn : n < 8) : numAt p i n = beAt p i n := by
  rw [numAt, getNum, if_neg]
  · rfl
  · rintro ⟨h, _⟩
    simp at h
    omega
theorem numAt_lsn {p : List Int} (hw : ∀ z ∈ p, 0 ≤ z ∧ z ≤ 255) (i : Nat) : (numAt p i 8 < 0 ∨ numAt p i 8 > 1099511627776) ↔ beAt p i 8 > 1099511627776 := by
  have hwt : ∀ z ∈ (p.drop i).take 8, 0 ≤ z ∧ z ≤ 255 := fun z hz => hw z (List.mem_of_mem_drop (List.mem_of_mem_take hz))
  have h0 := (beAt_u64 hw i).1
  show (getNum ((p.drop i).take 8) < 0 ∨ getNum ((p.drop i).take 8) > 1099511627776) ↔ Lib.beZ ((p.drop i).take 8) > 1099511627776
  have h0' : 0 ≤ Lib.beZ ((p.drop i).take 8) := h0
  generalize (p.drop i).take 8 = l at *
  rw [getNum]
  by_cases hb : l.length = 8 ∧ l.getD 0 0 > 127
  · rw [if_pos hb]
    refine ⟨fun _ => ?_, fun _ => .inl (by decide)⟩
    obtain ⟨z, r, rfl⟩ : ∃ z r, l = z :: r := by
      cases l with
      | nil => simp at hb
      | cons z r => exact ⟨z, r, rfl⟩
    have hz : z > 127 := by simpa using hb.2
    obtain ⟨h3, _⟩ := beFromZ_range r z (fun y hy => hwt y (by simp [hy]))
    have hlen : r.length = 7 := by simpa using hb.1
    rw [hlen] at h3
    have h5 : (256 : Int) ^ 7 = 72057594037927936 := by decide
    rw [h5] at h3
    show Lib.beFromZ 0 (z :: r) > _
    simp only [Lib.beFromZ, Int.zero_mul, Int.zero_add]
    omega
  · rw [if_neg hb]
    constructor
    · rintro (h | h)
      · omega
      · exact h
    · exact .inr
theorem beAt_two {p : List Int} (i : Nat) (hi : i + 2 ≤ p.length) : beAt p i 2 = p.getD i 0 * 256 + p.getD (i + 1) 0 := by
  have h1 : p.drop i = p[i] :: p.drop (i + 1) := List.drop_eq_getElem_cons (by omega)
  have h2 : p.drop (i + 1) = p[i + 1] :: p.drop (i + 2) := List.drop_eq_getElem_cons (by omega)
  show Lib.beFromZ 0 ((p.drop i).take 2) = _
  rw [h1, h2]
  rw [List.getD, List.getD, List.getElem?_eq_getElem (show i < p.length by omega), List.getElem?_eq_getElem (show i + 1 < p.length by omega)]
  simp only [List.take_succ_cons, List.take_zero, Lib.beFromZ, Option.getD_some]
  omega
theorem l3Bottom_calls (w : World) (g off c : Nat) (p : List Int) (F : List Nat) (h : (Rep.int .u8).sl w (some ⟨g, off, none⟩) c p F) (hp : p.length = 4096) :
    Calls Tryd.prog 60 #[.slice (some ⟨g, off, none⟩) 4096 c] w fun e w' => e = .returned (.int .i64 (beAt p 16 2)) ∧ Ext w w' := by
  have hG := l3Number_calls w g off c p F h 16 2 (by decide) (by decide) (by omega) 16 2 rfl rfl (by omega)
  rw [hp, numAt_short 16 2 (by decide)] at hG
  have HG := Lib.hid hG
  clear hG h hp
  go_enter Tryd.func60, Tryd.ntmps60
  go_wp2_with (go_at_call 108; refine HG.out.mono ?_; rintro e w1 ⟨rfl, hE⟩)
  go_ret
  exact ⟨rfl, hE⟩
end Go.Proofs.YtghgjddiheebeaaDoor
/- The reference's slots: a list of its own. -/
namespace Go.Proofs.YtghgjddiheebeaaDoor
open Go.RowKit
set_option linter.unusedSimpArgs false
set_option linter.unusedVariables false
def wfSl (x : Int × Int) : Prop := (Lit.int .i64 x.1).wf = true ∧ (Lit.int .i64 x.2).wf = true
/-- Two numbers, flat. -/
def Rep.Sl : Rep (Int × Int) where
  sz := 2
  R := fun _ x cs F => cs = [.int .i64 x.1, .int .i64 x.2] ∧ F = [] ∧ wfSl x
  val := fun cs => .agg cs.toArray
  len := fun h => by rw [h.1]; rfl
  lt := fun h g hg => by rw [h.2.1] at hg; cases hg
  keep := fun h _ => h
theorem sl_push {n : Nat} {w : World} {v : Value} {ys : List (Int × Int)} {x : Int × Int} (h : Own Rep.Sl 73 n w v ys) (hw : wfSl x) :
    ∃ cs, (w.alloc (.cells #[.int .i64 x.1, .int .i64 x.2] 73)).ownsRow n 73 2 v ys.length cs ∧ n ≤ w.heap.size ∧ ∀ v' w3, w3.ownsRow n 73 2 v' (ys.length + 1) (cs ++ [.int .i64 x.1, .int .i64 x.2]) → (w.alloc (.cells #[.int .i64 x.1, .int .i64 x.2] 73)).grownBy w3 v.ownBlock → (v'.ownBlock = v.ownBlock ∨ v'.ownBlock = some (w.alloc (.cells #[.int .i64 x.1, .int .i64 x.2] 73)).heap.size) →
      Own Rep.Sl 73 n w3 v' (ys ++ [x]) ∧ ∀ W0, Ext W0 w → W0.heap.size ≤ n → Ext W0 w3 := by
  have hE := alloc_ext w (.cells #[.int .i64 x.1, .int .i64 x.2] 73)
  obtain ⟨cs, h1, h2, h3⟩ := Own.app (x := x) (c := [.int .i64 x.1, .int .i64 x.2]) (F := []) h hE (by simp) (NewIn.nil _ _) ⟨rfl, rfl, hw⟩
  refine ⟨cs, h1, h.le, fun v' w3 a b c => ?_⟩
  obtain ⟨k1, k2⟩ := h3 v' w3 a b c
  exact ⟨k1, fun W0 hW hn => k2 [] W0 (hW.ext hE) hn⟩
end Go.Proofs.YtghgjddiheebeaaDoor
/- The reference's slots: the walk. -/
namespace Go.Proofs.YtghgjddiheebeaaDoor
open Go.RowKit
set_option linter.unusedSimpArgs false
set_option linter.unusedVariables false
theorem info73 : (Tryd.prog.info? 73).map (fun i => (i.zero, i.size, i.bytes)) = some (some (.agg #[.int .i64 0, .int .i64 0]), 2, 16) := by kernel_rfl
def slotsUp (p : List Int) (k : Nat) : List (Int × Int) := (List.range k).map (fun i => (slO p i, slN p i))
theorem slotsUp_succ (p : List Int) (k : Nat) : slotsUp p (k + 1) = slotsUp p k ++ [(slO p k, slN p k)] := by simp [slotsUp, List.range_succ]
set_option maxRecDepth 100000 in
set_option maxHeartbeats 4000000 in
theorem l3Slots_calls (w : World) (g off c : Nat) (p : List Int) (F : List Nat) (h : (Rep.int .u8).sl w (some ⟨g, off, none⟩) c p F) (hp : p.length = 4096) :
    Calls Tryd.prog 58 #[.slice (some ⟨g, off, none⟩) 4096 c] w fun e w' => ∃ v, e = .returned v ∧ Own Rep.Sl 73 w.heap.size w' v (slotsUp p 32) ∧ Ext w w' := by
  obtain ⟨i0, hi, hz0, hz1, hz2⟩ := info_parts info73
  have hw : ∀ z ∈ p, 0 ≤ z ∧ z ≤ 255 := fun z hz => Lib.byte_of_wf (sl_wf h z hz)
  have HS := Lib.hid h; have HP := Lib.hid hp; have HW := Lib.hid hw
  obtain ⟨up, hup⟩ : ∃ up, up = slotsUp p := ⟨_, rfl⟩
  have HU := Lib.hid (show ∀ k, up (k + 1) = up k ++ [(slO p k, slN p k)] by rw [hup]; exact slotsUp_succ p)
  have HU0 := Lib.hid (show up 0 = [] by rw [hup]; rfl)
  have HUL := Lib.hid (show ∀ k, (up k).length = k by rw [hup]; intro k; simp [slotsUp])
  rw [← hup]
  clear h hp hw hup
  go_enter Tryd.func58, Tryd.ntmps58
  go_wp2
  go_loopg [3, 4] 32 (fun m v i wr => ∃ k : Nat, m + k = 32 ∧ i = .int .i64 k ∧ Own Rep.Sl 73 w.heap.size wr v (up k) ∧ Ext w wr)
  case atStart => exact ⟨0, by simp, rfl, by rw [HU0.out]; exact Own.made (Nat.le_refl _) #[] 0 (by simp) (by simp), alloc_ext _ _⟩
  case round =>
    obtain ⟨k, hmk, rfl, hOWN, hE⟩ := hrel
    have HE := Lib.hid hE; have HMK := Lib.hid hmk; have HOWN := Lib.hid hOWN
    clear hE hmk hOWN
    by_cases hlt : (k : Int) < 32
    · have hk : k < 32 := by omega
      obtain ⟨a, ha⟩ : ∃ a : Int, a = 20 + 4 * (k : Int) := ⟨_, rfl⟩
      obtain ⟨b, hb⟩ : ∃ b : Int, b = a + 2 := ⟨_, rfl⟩
      have HC1 := Lib.hid (fun W (hW : Ext w W) => by
        have h := l3Number_calls W g off c p F (Rep.sl_ext HS.out hW) (20 + 4 * k) 2 (by decide) (by decide) (by have := HP.out; omega) a 2 (by omega) rfl (by have := HP.out; omega)
        rw [HP.out, numAt_short _ 2 (by decide), show beAt p (20 + 4 * k) 2 = slO p k from rfl] at h
        exact h)
      have HC2 := Lib.hid (fun W (hW : Ext w W) => by
        have h := l3Number_calls W g off c p F (Rep.sl_ext HS.out hW) (20 + 4 * k + 2) 2 (by decide) (by decide) (by have := HP.out; omega) b 2 (by omega) rfl (by have := HP.out; omega)
        rw [HP.out, numAt_short _ 2 (by decide), show beAt p (20 + 4 * k + 2) 2 = slN p k from rfl] at h
        exact h)
      have e1 : IntKind.i64.wrap (4 * (k : Int)) = 4 * (k : Int) := by rw [IntKind.wrap_i64]; omega
      have e2 : IntKind.i64.wrap (20 + 4 * (k : Int)) = a := by rw [IntKind.wrap_i64]; omega
      have e3 : IntKind.i64.wrap (a + 2) = b := by rw [IntKind.wrap_i64]; omega
      have e4 : wrap64 (20 + 4 * (k : Int)) = a := by unfold wrap64; omega
      have e5 : wrap64 (a + 2) = b := by unfold wrap64; omega
      have e6 : 20 + 4 * (k : Int) = a := ha.symm
      have e7 : a + 2 = b := hb.symm
      obtain ⟨Av, cv, hv, -⟩ := HOWN.out.form
      subst hv
      clear ha hb
      have HX := Lib.hid (show wfSl (slO p k, slN p k) from by
        have h1 := beAt_u16 HW.out (20 + 4 * k); have h2 := beAt_u16 HW.out (20 + 4 * k + 2)
        have e1 : IntKind.i64.min = -9223372036854775808 := rfl
        have e2 : IntKind.i64.max = 9223372036854775807 := rfl
        constructor <;> (simp only [Lit.wf, slO, slN, e1, e2, Bool.and_eq_true, decide_eq_true_eq]; omega))
      have hlk := HUL.out k
      go_wp2_with (first
        | (go_at_call_of 108 (Value.int .i64 a); refine (HC1.out _ HE.out).mono ?_; rintro e w1 ⟨rfl, hE1⟩; have HE1 := Lib.hid (HE.out.ext hE1); have HOW1 := Lib.hid (HOWN.out.ext hE1))
        | (go_at_call_of 108 (Value.int .i64 b); refine (HC2.out _ HE1.out).mono ?_; rintro e w2 ⟨rfl, hE2⟩; have HE2 := Lib.hid (HE1.out.ext hE2); obtain ⟨cs, ho, hle, happ⟩ := sl_push (HOW1.out.ext hE2) HX.out; rw [hlk] at ho happ; have HO1 := Lib.hid ho; have HAPP := Lib.hid happ; clear ho happ)
        | (at_builtin; (go_must (refine wpList_append_own_at _ rfl _ _ 74 rfl w.heap.size 73 i0 _ 2 16 Tryd.underlying74 hi hz0 hz1 hz2 rfl (by decide) _ _ _ rfl HO1.out ⟨w2.heap.size, 0, none⟩ 1 1 [.int .i64 (slO p k), .int .i64 (slN p k)] rfl rfl (cells_new' _ _ _ (by simp)) (by intro u hu; simp at hu; rcases hu with rfl | rfl <;> rfl) (by unfold maxLen; omega) (by omega) (by simp; omega) ?_)); intro v' w' hown hgrow hnil hat; obtain ⟨Av', cv', rfl⟩ := ownsRow_form hown))
      go_roundg (32 - (k + 1))
      case measure => have := HMK.out; omega
      case rel =>
        obtain ⟨r1, r2⟩ := HAPP.out _ w' hown hgrow hat
        exact ⟨k + 1, by have := HMK.out; omega, rfl, by rw [HU.out]; exact r1, r2 w HE2.out (Nat.le_refl _)⟩
    · have hk : k = 32 := by have := HMK.out; omega
      subst hk
      go_wp2
      go_ret
      exact ⟨_, rfl, HOWN.out, HE.out⟩
end Go.Proofs.YtghgjddiheebeaaDoor
/- The reference's PageFault. -/
namespace Go.Proofs.YtghgjddiheebeaaDoor
open Go.RowKit
set_option linter.unusedSimpArgs false
set_option linter.unusedVariables false
theorem slotsUp_length (p : List Int) (k : Nat) : (slotsUp p k).length = k := by simp [slotsUp]
theorem slotsUp_at (p : List Int) (k i : Nat) (hi : i < (slotsUp p k).length) : (slotsUp p k)[i] = (slO p i, slN p i) := by simp [slotsUp]
/-- The slots as cells. -/
theorem l3Slots_cells (w : World) (g off c : Nat) (p : List Int) (F : List Nat) (h : (Rep.int .u8).sl w (some ⟨g, off, none⟩) c p F) (hp : p.length = 4096) :
    Calls Tryd.prog 58 #[.slice (some ⟨g, off, none⟩) 4096 c] w fun e w' => ∃ B z cp : Nat, e = .returned (.slice (some ⟨B, z, none⟩) 32 cp) ∧ w.heap.size ≤ B ∧ B < w'.heap.size ∧ 32 ≤ cp ∧
      (∀ i, i < 32 → w'.cell? ⟨B, z + i * 2, none⟩ = some (.int .i64 (slO p i)) ∧ w'.cell? ⟨B, z + i * 2 + 1, none⟩ = some (.int .i64 (slN p i))) ∧ Ext w w' := by
  refine (l3Slots_calls w g off c p F h hp).mono ?_
  rintro e w' ⟨v, rfl, hO, hE⟩
  obtain ⟨F', hV, hF⟩ := hO.done
  obtain ⟨_, ⟨A, cp, rfl, hs⟩, rfl⟩ := hV
  have hlen := slotsUp_length p 32
  obtain ⟨B, z, _, _, rfl, hB, hBF, -⟩ := Rep.sl_at hs 0 (by omega)
  rw [hlen]
  refine ⟨B, z, cp, rfl, hF.ge B hBF, hB, by have := hs.1; omega, fun i hi => ?_, hE⟩
  obtain ⟨B', z', d, G, e', -, -, ⟨rfl, rfl, -⟩, -, hc⟩ := Rep.sl_at hs i (by omega)
  injection e' with e'
  injection e' with e1 e2
  subst e1; subst e2
  rw [slotsUp_at] at hc
  exact ⟨hc 0 _ rfl, hc 1 _ rfl⟩
theorem specFault_len (w : World) (A : Option Addr) (n c : Nat) (num : Int) (hp : ¬ n = 4096) :
    Calls Tryd.prog 74 #[.slice A n c, .int .i64 num] w fun e w' => e = .returned (.int .i64 1) ∧ Ext w w' := by
  have hp' : ¬ (n : Int) = 4096 := by omega
  go_enter Tryd.func74, Tryd.ntmps74
  go_wp2
  go_ret
  exact ⟨rfl, Only.refl _ _⟩
theorem head_cases (x num l L z8 z9 z b R : Int) (hl : (l < 0 ∨ l > 1099511627776) ↔ L > 1099511627776) (h2 : z = z8 * 256 + z9) (h8 : 0 ≤ z8) (h9 : 0 ≤ z9)
    (hR : R = if x ≠ num then 2 else if L > 1099511627776 ∨ z ≠ 0 then 3 else 4) (hx : x ≠ num ∨ L > 1099511627776 ∨ z ≠ 0 ∨ b < 148 ∨ b > 4096) :
    ((¬ x = num) ∧ R = 2) ∨ (x = num ∧ l < 0 ∧ R = 3) ∨ (x = num ∧ ¬ l < 0 ∧ 1099511627776 < l ∧ R = 3) ∨ (x = num ∧ ¬ l < 0 ∧ ¬ 1099511627776 < l ∧ ¬ z8 = 0 ∧ R = 3)
      ∨ (x = num ∧ ¬ l < 0 ∧ ¬ 1099511627776 < l ∧ z8 = 0 ∧ ¬ z9 = 0 ∧ R = 3) ∨ (x = num ∧ ¬ l < 0 ∧ ¬ 1099511627776 < l ∧ z8 = 0 ∧ z9 = 0 ∧ b < 148 ∧ R = 4) ∨ (x = num ∧ ¬ l < 0 ∧ ¬ 1099511627776 < l ∧ z8 = 0 ∧ z9 = 0 ∧ ¬ b < 148 ∧ 4096 < b ∧ R = 4) := by
  by_cases a1 : x = num
  case neg => exact .inl ⟨a1, by rw [hR, if_pos a1]⟩
  rw [if_neg (by simpa using a1)] at hR
  by_cases a2 : l < 0
  · exact .inr (.inl ⟨a1, a2, by rw [hR, if_pos (.inl (hl.1 (.inl a2)))]⟩)
  by_cases a3 : 1099511627776 < l
  · exact .inr (.inr (.inl ⟨a1, a2, a3, by rw [hR, if_pos (.inl (hl.1 (.inr a3)))]⟩))
  have a4 : ¬ L > 1099511627776 := fun h => (hl.2 h).elim a2 a3
  by_cases a5 : z8 = 0
  case neg => exact .inr (.inr (.inr (.inl ⟨a1, a2, a3, a5, by rw [hR, if_pos (.inr (by omega))]⟩)))
  by_cases a6 : z9 = 0
  case neg => exact .inr (.inr (.inr (.inr (.inl ⟨a1, a2, a3, a5, a6, by rw [hR, if_pos (.inr (by omega))]⟩))))
  have a7 : z = 0 := by omega
  have hR4 : R = 4 := by rw [hR, if_neg (by rintro (h | h); exact a4 h; exact h a7)]
  by_cases a8 : b < 148
  · exact .inr (.inr (.inr (.inr (.inr (.inl ⟨a1, a2, a3, a5, a6, a8, hR4⟩)))))
  refine .inr (.inr (.inr (.inr (.inr (.inr ⟨a1, a2, a3, a5, a6, a8, ?_, hR4⟩)))))
  rcases hx with h | h | h | h | h
  · exact absurd a1 h
  · exact absurd h a4
  · exact absurd a7 h
  · exact absurd h a8
  · exact h
set_option maxRecDepth 100000 in
set_option maxHeartbeats 8000000 in
theorem specFault_head (w : World) (g off c : Nat) (p : List Int) (F : List Nat) (h : (Rep.int .u8).sl w (some ⟨g, off, none⟩) c p F) (hp : p.length = 4096) (num : Int) (R : Int)
    (hR : R = if beAt p 12 4 ≠ num then 2 else if beAt p 4 8 > 1099511627776 ∨ beAt p 18 2 ≠ 0 then 3 else 4)
    (hx : beAt p 12 4 ≠ num ∨ beAt p 4 8 > 1099511627776 ∨ beAt p 18 2 ≠ 0 ∨ beAt p 16 2 < 148 ∨ beAt p 16 2 > 4096) :
    Calls Tryd.prog 74 #[.slice (some ⟨g, off, none⟩) 4096 c, .int .i64 num] w fun e w' => e = .returned (.int .i64 R) ∧ Ext w w' := by
  have hw : ∀ z ∈ p, 0 ≤ z ∧ z ≤ 255 := fun z hz => Lib.byte_of_wf (sl_wf h z hz)
  have HC12 := Lib.hid (fun W (hW : Ext w W) => by
    have h := l3Number_calls W g off c p F (Rep.sl_ext h hW) 12 4 (by decide) (by decide) (by omega) 12 4 rfl rfl (by omega)
    rw [hp, numAt_short _ 4 (by decide)] at h
    exact h)
  have HC8 := Lib.hid (fun W (hW : Ext w W) => by
    have h := l3Number_calls W g off c p F (Rep.sl_ext h hW) 4 8 (by decide) (by decide) (by omega) 4 8 rfl rfl (by omega)
    rw [hp] at h
    exact h)
  have HCB := Lib.hid (fun W (hW : Ext w W) => l3Bottom_calls W g off c p F (Rep.sl_ext h hW) hp)
  have C18 := Lib.hid (sl_byte h 18 (by omega)); have C19 := Lib.hid (sl_byte h 19 (by omega))
  have h2 := beAt_two (p := p) 18 (by omega)
  have hz8 := hw (p.getD 18 0) (by rw [List.getD, List.getElem?_eq_getElem (by omega)]; exact List.getElem_mem _)
  have hz9 := hw (p.getD 19 0) (by rw [List.getD, List.getElem?_eq_getElem (by omega)]; exact List.getElem_mem _)
  have hl := numAt_lsn hw 4
  have hcs := head_cases (beAt p 12 4) num (numAt p 4 8) (beAt p 4 8) (p.getD 18 0) (p.getD 19 0) (beAt p 18 2) (beAt p 16 2) R hl h2 hz8.1 hz9.1 hR hx
  generalize p.getD 18 0 = z8 at hcs C18
  generalize p.getD 19 0 = z9 at hcs C19
  generalize beAt p 12 4 = x at hcs HC12
  generalize numAt p 4 8 = l at hcs HC8
  generalize beAt p 16 2 = b at hcs HCB
  have hpc := h.1
  rw [hp] at hpc
  clear h hp hw h2 hz8 hz9 hl hR hx
  rcases hcs with ⟨h1, rfl⟩ | ⟨rfl, h1, rfl⟩ | ⟨rfl, h1, h2, rfl⟩ | ⟨rfl, h1, h2, h3, rfl⟩ | ⟨rfl, h1, h2, rfl, h3, rfl⟩ | ⟨rfl, h1, h2, rfl, rfl, h3, rfl⟩ | ⟨rfl, h1, h2, rfl, rfl, h3, h4, rfl⟩
  all_goals
    try (have h3' : (_ != (0 : Int)) = true := bne_iff_ne.2 h3)
    go_enter Tryd.func74, Tryd.ntmps74
    go_wp2_with (first
      | (go_at_call_of 108 (Value.int .i64 12); refine (HC12.out _ (Only.refl [] _)).mono ?_; rintro e w1 ⟨rfl, hE⟩; have HE1 := Lib.hid hE; clear hE)
      | (go_at_call_of 108 (Value.int .i64 8); refine (HC8.out _ HE1.out).mono ?_; rintro e w2 ⟨rfl, hE⟩; have HE2 := Lib.hid (HE1.out.ext hE); have c18 := HE2.out.ecell C18.out; have c19 := HE2.out.ecell C19.out; clear hE)
      | (go_at_call 60; refine (HCB.out _ HE2.out).mono ?_; rintro e w3 ⟨rfl, hE⟩; have HE3 := Lib.hid (HE2.out.ext hE); clear hE))
    go_ret
    first
      | exact ⟨rfl, HE3.out⟩
      | exact ⟨rfl, HE2.out⟩
      | exact ⟨rfl, HE1.out⟩
end Go.Proofs.YtghgjddiheebeaaDoor
/- The reference's PageFault behind its head: the slots, the marks. -/
namespace Go.Proofs.YtghgjddiheebeaaDoor
open Go.RowKit
set_option linter.unusedSimpArgs false
set_option linter.unusedVariables false
theorem Marks.made (w : World) (t : TypeId) (S : Int → Prop) (hS : ∀ t, ¬ S t) : Marks (w.alloc (.cells (Array.replicate 4096 (.bool false)) t)) w.heap.size S := by
  intro k hk
  refine ⟨?_, World.frozen?_alloc_at _ _ _ _ rfl⟩
  rw [World.cell?_alloc_at _ _ _ _ rfl, tk_false (hS k)]
  simp [hk]
theorem info4 : (Tryd.prog.info? 4).map (fun i => (i.zero, i.size, i.bytes)) = some (some (.bool false), 1, 1) := by kernel_rfl
theorem made_one (z : Value) (n : Nat) (hz : z.cells = #[z]) : madeCells z.cells n = Array.replicate n z := by
  rw [hz]
  apply Array.ext
  · simp [madeCells]
  · intro i h1 h2
    simp [madeCells, Nat.mod_one]
theorem mk_marks (w : World) : (Instr.makeSlice 141 (.int .i64 4096) (.int .i64 4096)).run Tryd.prog w = .ok (.slice (some ⟨w.heap.size, 0, none⟩) 4096 4096) (w.alloc (.cells (Array.replicate 4096 (.bool false)) 4)) := by
  obtain ⟨i0, hi, hz0, hz1, hz2⟩ := info_parts info4
  have h := run_make (P := Tryd.prog) w 141 4 i0 _ Tryd.underlying141 hi hz0 .i64 .i64 4096 4096 (by omega) (by omega) (by rw [hz2]; omega) (by omega)
  rw [hz1, made_one _ _ rfl] at h
  exact h
open Classical in
set_option maxRecDepth 100000 in
set_option maxHeartbeats 8000000 in
theorem specFault_body (w : World) (g off c : Nat) (p : List Int) (F : List Nat) (h : (Rep.int .u8).sl w (some ⟨g, off, none⟩) c p F) (hp : p.length = 4096) (num : Int) (R : Int)
    (hR : R = if ∃ i, i < 32 ∧ slBad p (beAt p 16 2) i = true then 5 else if ∃ i j k, i < 32 ∧ j < i ∧ cov p i k ∧ cov p j k then 6 else 0)
    (hx1 : beAt p 12 4 = num) (hx2 : beAt p 4 8 ≤ 1099511627776) (hx3 : beAt p 18 2 = 0) (hx4 : 148 ≤ beAt p 16 2) (hx5 : beAt p 16 2 ≤ 4096) :
    Calls Tryd.prog 74 #[.slice (some ⟨g, off, none⟩) 4096 c, .int .i64 num] w fun e w' => e = .returned (.int .i64 R) ∧ Ext w w' := by
  have hw : ∀ z ∈ p, 0 ≤ z ∧ z ≤ 255 := fun z hz => Lib.byte_of_wf (sl_wf h z hz)
  have HC12 := Lib.hid (fun W (hW : Ext w W) => by
    have h := l3Number_calls W g off c p F (Rep.sl_ext h hW) 12 4 (by decide) (by decide) (by omega) 12 4 rfl rfl (by omega)
    rw [hp, numAt_short _ 4 (by decide), hx1] at h
    exact h)
  have HC8 := Lib.hid (fun W (hW : Ext w W) => by
    have h := l3Number_calls W g off c p F (Rep.sl_ext h hW) 4 8 (by decide) (by decide) (by omega) 4 8 rfl rfl (by omega)
    rw [hp] at h
    exact h)
  have HCB := Lib.hid (fun W (hW : Ext w W) => l3Bottom_calls W g off c p F (Rep.sl_ext h hW) hp)
  have HCS := Lib.hid (fun W (hW : Ext w W) => l3Slots_cells W g off c p F (Rep.sl_ext h hW) hp)
  have C18 := Lib.hid (sl_byte h 18 (by omega)); have C19 := Lib.hid (sl_byte h 19 (by omega))
  have h2 : beAt p 18 2 = p.getD 18 0 * 256 + p.getD 19 0 := beAt_two (p := p) 18 (by omega)
  have hz8 := hw (p.getD 18 0) (by rw [List.getD, List.getElem?_eq_getElem (by omega)]; exact List.getElem_mem _)
  have hz9 := hw (p.getD 19 0) (by rw [List.getD, List.getElem?_eq_getElem (by omega)]; exact List.getElem_mem _)
  have hl := numAt_lsn hw 4
  have HRO := Lib.hid (fun i => (show 0 ≤ slO p i ∧ slO p i ≤ 65535 from beAt_u16 hw _))
  have HRN := Lib.hid (fun i => (show 0 ≤ slN p i ∧ slN p i ≤ 65535 from beAt_u16 hw _))
  have hpc := h.1
  rw [hp] at hpc
  have g1 : ¬ numAt p 4 8 < 0 := by omega
  have g2 : ¬ 1099511627776 < numAt p 4 8 := by omega
  rw [h2] at hx3
  have g3 : p.getD 18 0 = 0 := by omega
  have g4 : p.getD 19 0 = 0 := by omega
  rw [g3] at C18
  rw [g4] at C19
  generalize numAt p 4 8 = l at *
  have HX4 := Lib.hid (rfl : beAt p 16 2 = beAt p 16 2)
  obtain ⟨b, hb⟩ : ∃ b, b = beAt p 16 2 := ⟨_, rfl⟩
  rw [← hb] at hR hx4 hx5 HCB
  have g5 : ¬ b < 148 := by omega
  have g6 : ¬ 4096 < b := by omega
  have HR := Lib.hid hR
  clear h hp hw h2 hz8 hz9 hl hx1 hx2 hx3 hb hR HX4 g3 g4
  have hmk := mk_marks
  go_enter Tryd.func74, Tryd.ntmps74
  go_wp2_with (first
    | (go_at_call_of 108 (Value.int .i64 12); refine (HC12.out _ (Only.refl [] _)).mono ?_; rintro e w1 ⟨rfl, hE⟩; have HE1 := Lib.hid hE; clear hE)
    | (go_at_call_of 108 (Value.int .i64 8); refine (HC8.out _ HE1.out).mono ?_; rintro e w2 ⟨rfl, hE⟩; have HE2 := Lib.hid (HE1.out.ext hE); have c18 := HE2.out.ecell C18.out; have c19 := HE2.out.ecell C19.out; clear hE)
    | (go_at_call 60; refine (HCB.out _ HE2.out).mono ?_; rintro e w3 ⟨rfl, hE⟩; have HE3 := Lib.hid (HE2.out.ext hE); clear hE c18 c19)
    | (go_at_call 58; refine (HCS.out _ HE3.out).mono ?_; rintro e w4 ⟨Bs, zs, cps, rfl, hB1, hB2, hcp, hcell, hE⟩; have HE4 := Lib.hid (HE3.out.ext hE); have HSC := Lib.hid hcell; have HBS := Lib.hid hB2; clear hE hcell hB1 hB2))
  go_loopg [8] 32 (fun m i wr => ∃ k : Nat, m + k = 32 ∧ i = .int .i64 k ∧ Hid (∀ j, j < k → slBad p b j = false) ∧ Ext w4 wr)
  case atStart => exact ⟨0, by simp, rfl, Lib.hid (fun j hj => absurd hj (by omega)), Only.refl _ _⟩
  case round =>
    obtain ⟨k, hmk, rfl, HG, hE⟩ := hrel
    have HE5 := Lib.hid hE; have HMK := Lib.hid hmk
    clear hE hmk
    by_cases hlt : (k : Int) < 32
    · have hk : k < 32 := by omega
      obtain ⟨d1, d2⟩ := HSC.out k hk
      replace d1 := HE5.out.ecell d1
      replace d2 := HE5.out.ecell d2
      obtain ⟨q1, q2⟩ := HRO.out k
      obtain ⟨q3, q4⟩ := HRN.out k
      obtain ⟨o, ho⟩ : ∃ o, o = slO p k := ⟨_, rfl⟩
      obtain ⟨n, hn⟩ : ∃ o, o = slN p k := ⟨_, rfl⟩
      rw [← ho] at q1 q2 d1
      rw [← hn] at q3 q4 d2
      have hbt := @slBad_true p b k
      have hbf := @slBad_false p b k
      rw [← ho, ← hn] at hbt hbf
      have HBT := Lib.hid hbt; have HBF := Lib.hid hbf
      have e3 : IntKind.i64.wrap (o + n) = o + n := by rw [IntKind.wrap_i64]; omega
      clear ho hn hbt hbf
      have hcs : ((o = 0 ∧ ¬ n = 0) ∨ (¬ o = 0 ∧ 1000 < n) ∨ (¬ o = 0 ∧ ¬ 1000 < n ∧ o < b) ∨ (¬ o = 0 ∧ ¬ 1000 < n ∧ ¬ o < b ∧ 4096 < o + n)) ∨ ((o = 0 ∧ n = 0) ∨ (¬ o = 0 ∧ ¬ 1000 < n ∧ ¬ o < b ∧ ¬ 4096 < o + n)) := by omega
      rcases hcs with hbad | hgood
      · have HB := Lib.hid (show slBad p b k = true from HBT.out.2 (by omega))
        rcases hbad with ⟨rfl, c1⟩ | ⟨c0, c1⟩ | ⟨c0, c1, c2⟩ | ⟨c0, c1, c2, c3⟩
        all_goals
          go_wp2
          go_ret
          exact ⟨by rw [HR.out, if_pos ⟨k, hk, HB.out⟩]; rfl, (HE4.out.ext HE5.out).alloc _⟩
      · have HB := Lib.hid (show slBad p b k = false from HBF.out.2 (by omega))
        rcases hgood with ⟨rfl, rfl⟩ | ⟨c0, c1, c2, c3⟩
        all_goals
          go_wp2
          go_roundg (32 - (k + 1))
          case measure => have := HMK.out; omega
          case rel =>
            refine ⟨k + 1, by have := HMK.out; omega, rfl, Lib.hid (fun j hj => ?_), HE5.out.alloc _⟩
            rcases Nat.lt_or_ge j k with h | h
            · exact HG.out j h
            · obtain rfl : j = k := by omega
              exact HB.out
    · have hk32 : k = 32 := by have := HMK.out; omega
      subst hk32
      have HB := Lib.hid (show ∀ i, i < 32 → slO p i + slN p i ≤ 4096 from fun i hi => by
        have h1 := slBad_false.1 (HG.out i hi)
        omega)
      have HR6 := Lib.hid (show R = if ∃ i j k, i < 32 ∧ j < i ∧ cov p i k ∧ cov p j k then 6 else 0 by
        rw [HR.out]
        refine if_neg ?_
        rintro ⟨i, hi, h⟩
        rw [HG.out i hi] at h
        cases h)
      go_wp2
      clear hmk
      have HM := Lib.hid (Marks.made wr 4 (fun t => ∃ j, j < 0 ∧ cov p j t) (fun t => by rintro ⟨j, h, _⟩; omega))
      obtain ⟨Bk, hBk⟩ : ∃ b, b = wr.heap.size := ⟨_, rfl⟩
      have HBW := Lib.hid (show w4.heap.size ≤ Bk from hBk ▸ HE5.out.size)
      rw [← hBk] at HM
      try rw [← hBk]
      have HBK := Lib.hid hBk
      clear hBk
      go_loopg [11, 12] 32 (fun m i q wx => ∃ k : Nat, m + k = 32 ∧ i = .int .i64 k ∧ Hid (∀ i j t, i < k → j < i → ¬ (cov p i t ∧ cov p j t)) ∧ Hid (Marks wx Bk (fun t => ∃ j, j < k ∧ cov p j t)) ∧ Ext w4 wx)
      case atStart => exact ⟨0, by simp, rfl, Lib.hid (fun i j t h => absurd h (by omega)), HM, HE5.out.alloc _⟩
      case round =>
        obtain ⟨k, hmk, rfl, HNO, HMM, hE⟩ := hrel
        have HE6 := Lib.hid hE; have HMK2 := Lib.hid hmk
        clear hE hmk
        by_cases hlt2 : (k : Int) < 32
        · have hk : k < 32 := by omega
          obtain ⟨d1, d2⟩ := HSC.out k hk
          obtain ⟨q1, q2⟩ := HRO.out k
          obtain ⟨q3, q4⟩ := HRN.out k
          have hb1 := HB.out k hk
          obtain ⟨o, ho⟩ : ∃ o, o = slO p k := ⟨_, rfl⟩
          obtain ⟨n, hn⟩ : ∃ o, o = slN p k := ⟨_, rfl⟩
          have hcv : ∀ t, cov p k t ↔ o ≤ t ∧ t < o + n := fun t => by rw [ho, hn]; exact Iff.rfl
          rw [← ho] at q1 q2 hb1 d1
          rw [← hn] at q3 q4 hb1 d2
          have HCV := Lib.hid hcv; have D1 := Lib.hid d1; have D2 := Lib.hid d2
          have d3 := HE6.out.ecell d1
          have e3 : IntKind.i64.wrap (o + n) = o + n := by rw [IntKind.wrap_i64]; omega
          have k0 : (0 : Int) ≤ k := by omega
          have k1 : (k : Int).toNat = k := by omega
          clear ho hn hcv d1 d2
          go_wp2
          go_loopg [12] (n.toNat) (fun m q wy => ∃ s : Nat, m + s = (o + n).toNat ∧ q = .int .i64 s ∧ Hid (o ≤ (s : Int) ∧ (s : Int) ≤ o + n) ∧ Hid (∀ t : Int, o ≤ t → t < s → ∀ j, j < k → ¬ cov p j t) ∧ Hid (Marks wy Bk (fun t => (∃ j, j < k ∧ cov p j t) ∨ (o ≤ t ∧ t < s))) ∧ Ext w4 wy)
          case atStart => exact ⟨o.toNat, by omega, by congr 1; omega, Lib.hid (by omega), Lib.hid (fun t h1 h2 => absurd h2 (by omega)), Lib.hid (HMM.out.same (Only.refl _ _) HMM.out.lt (fun t => ⟨fun h => h.resolve_right (by omega), .inl⟩)), HE6.out⟩
          case round =>
            obtain ⟨s, hms, rfl, HSB, HNV, HMS, hE⟩ := hrel
            have HE8 := Lib.hid hE; have HMS2 := Lib.hid hms
            clear hE hms
            have d4 := HE8.out.ecell D1.out
            have d5 := HE8.out.ecell D2.out
            by_cases hls : (s : Int) < o + n
            · have hs4 : s < 4096 := by omega
              have hs5 : (s : Int) < 4096 := by omega
              have hs6 : decide ((s : Int) < o + n) = true := by simpa using hls
              obtain ⟨m1, m2⟩ := HMS.out s hs4
              go_wp2_with fail
              refine region_ext (by kernel_rfl) (by kernel_rfl) ?_
              repeat (first
                | (refine WQ.skip (by rfl) ?_
                   try simp only [Act.put, List.setIfInBounds_toArray, List.set_cons_zero, List.set_cons_succ])
                | (refine WQ.take ?_ (by rfl) (fun w' hw => ?_) ?_
                   rotate_left
                   · have cq0 := hw.ecell d4
                     have cq1 := hw.ecell d5
                     unfold Oper.quietAt
                     go_simp
                     first
                       | done
                       | exact ⟨rfl, rfl⟩
                       | exact rfl
                   try simp only [Act.put, List.setIfInBounds_toArray, List.set_cons_zero, List.set_cons_succ]))
              refine WQ.nil ?_
              intro wz hwz
              have HR9 := Lib.hid hwz
              clear hwz
              replace m1 := HR9.out.ecell m1
              replace m2 := HR9.out.efroz HMS.out.lt m2
              have HMT := Lib.hid (HMS.out.same HR9.out HMS.out.lt (fun t => Iff.rfl))
              by_cases htk : ∃ j, j < k ∧ cov p j s
              · have HTK := Lib.hid htk
                rw [tk_true (.inl htk)] at m1
                clear htk
                go_wp2
                go_ret
                refine ⟨?_, HE4.out.ext (HE8.out.ext HR9.out)⟩
                obtain ⟨j, hj, hc⟩ := HTK.out
                rw [HR6.out, if_pos ⟨k, j, s, hk, hj, (HCV.out s).2 ⟨HSB.out.1, hls⟩, hc⟩]
                rfl
              · have HTK := Lib.hid htk
                rw [tk_false (by rintro (h | ⟨_, h⟩); exact htk h; omega)] at m1
                clear htk
                go_wp2
                go_roundg ((o + n).toNat - (s + 1))
                case measure => have := HMS2.out; omega
                case rel =>
                  refine ⟨s + 1, by have := HMS2.out; omega, rfl, Lib.hid (by have := HSB.out; omega), Lib.hid (fun t h1 h2 j hj hc => ?_), Lib.hid (HMT.out.set s hs4 _ (fun t => ?_)), ?_⟩
                  · by_cases e : t = s
                    · subst e; exact HTK.out ⟨j, hj, hc⟩
                    · exact HNV.out t h1 (by omega) j hj hc
                  · have := HSB.out
                    constructor
                    · rintro (h | h)
                      · exact .inl (.inl h)
                      · by_cases e : t = s
                        · exact .inr e
                        · exact .inl (.inr (by omega))
                    · rintro ((h | h) | h)
                      · exact .inl h
                      · exact .inr (by omega)
                      · exact .inr (by omega)
                  · exact (HE8.out.ext HR9.out).setCell (fun h => absurd h (by have := HBW.out; simp only; omega)) _
            · have hs6 : decide ((s : Int) < o + n) = false := by simpa using hls
              go_wp2_with fail
              refine region_ext (by kernel_rfl) (by kernel_rfl) ?_
              repeat (first
                | (refine WQ.skip (by rfl) ?_
                   try simp only [Act.put, List.setIfInBounds_toArray, List.set_cons_zero, List.set_cons_succ])
                | (refine WQ.take ?_ (by rfl) (fun w' hw => ?_) ?_
                   rotate_left
                   · have cq0 := hw.ecell d4
                     have cq1 := hw.ecell d5
                     unfold Oper.quietAt
                     go_simp
                     first
                       | done
                       | exact ⟨rfl, rfl⟩
                       | exact rfl
                   try simp only [Act.put, List.setIfInBounds_toArray, List.set_cons_zero, List.set_cons_succ]))
              refine WQ.nil ?_
              intro wz hwz
              have HR9 := Lib.hid hwz
              clear hwz
              go_wp2
              go_roundg (32 - (k + 1))
              case measure => have := HMK2.out; omega
              case rel =>
                have hso : (s : Int) = o + n := by have := HSB.out; omega
                refine ⟨k + 1, by have := HMK2.out; omega, rfl, Lib.hid (fun i j t hi hj => ?_), Lib.hid (HMS.out.same HR9.out HMS.out.lt (fun t => ?_)), HE8.out.ext HR9.out⟩
                · rcases Nat.lt_or_ge i k with h | h
                  · exact HNO.out i j t h hj
                  · obtain rfl : i = k := by omega
                    rintro ⟨h1, h2⟩
                    have h3 := (HCV.out t).1 h1
                    exact HNV.out t h3.1 (by omega) j hj h2
                · rw [hso, ← HCV.out t]
                  constructor
                  · rintro ⟨j, hj, hc⟩
                    rcases Nat.lt_or_ge j k with h | h
                    · exact .inl ⟨j, h, hc⟩
                    · obtain rfl : j = k := by omega
                      exact .inr hc
                  · rintro (⟨j, hj, hc⟩ | hc)
                    · exact ⟨j, by omega, hc⟩
                    · exact ⟨k, by omega, hc⟩
        · have hk32 : k = 32 := by have := HMK2.out; omega
          subst hk32
          go_wp2
          go_ret
          refine ⟨?_, HE4.out.ext HE6.out⟩
          rw [HR6.out, if_neg]
          · rfl
          · rintro ⟨i, j, t, hi, hj, h1, h2⟩
            exact HNO.out i j t hi hj ⟨h1, h2⟩
end Go.Proofs.YtghgjddiheebeaaDoor
/- The reference's PageFault, whole; its well-formedness; the bytes that the slots cover. -/
namespace Go.Proofs.YtghgjddiheebeaaDoor
open Go.RowKit
set_option linter.unusedSimpArgs false
set_option linter.unusedVariables false
open Classical in
theorem specPageFault_calls (w : World) (A : Option Addr) (c : Nat) (p : List Int) (F : List Nat) (h : (Rep.int .u8).sl w A c p F) (num : Int) :
    Calls Tryd.prog 74 #[.slice A p.length c, .int .i64 num] w fun e w' => e = .returned (.int .i64 (pageFault p num)) ∧ Ext w w' := by
  by_cases hp : p.length = 4096
  case neg =>
    rw [pageFault, if_pos hp]
    exact specFault_len w A p.length c num hp
  obtain ⟨g, off, rfl⟩ := sl_some h (by omega)
  have hf : pageFault p num = if beAt p 12 4 ≠ num then 2 else if beAt p 4 8 > 1099511627776 ∨ beAt p 18 2 ≠ 0 then 3
      else if beAt p 16 2 < 148 ∨ beAt p 16 2 > 4096 then 4 else if ∃ i, i < 32 ∧ slBad p (beAt p 16 2) i = true then 5
      else if ∃ i j k, i < 32 ∧ j < i ∧ cov p i k ∧ cov p j k then 6 else 0 := by
    rw [pageFault, if_neg (by simpa using hp)]
  rw [hp]
  by_cases hx : beAt p 12 4 ≠ num ∨ beAt p 4 8 > 1099511627776 ∨ beAt p 18 2 ≠ 0 ∨ beAt p 16 2 < 148 ∨ beAt p 16 2 > 4096
  · refine specFault_head w g off c p F h hp num _ ?_ hx
    rw [hf]
    by_cases h1 : beAt p 12 4 ≠ num
    · rw [if_pos h1, if_pos h1]
    · rw [if_neg h1, if_neg h1]
      by_cases h2 : beAt p 4 8 > 1099511627776 ∨ beAt p 18 2 ≠ 0
      · rw [if_pos h2, if_pos h2]
      · rw [if_neg h2, if_neg h2]
        refine if_pos ?_
        rcases hx with h | h | h | h | h
        · exact absurd h h1
        · exact absurd (.inl h) h2
        · exact absurd (.inr h) h2
        · exact .inl h
        · exact .inr h
  · have h1 : beAt p 12 4 = num := Classical.byContradiction fun h => hx (.inl h)
    have h2 : ¬ beAt p 4 8 > 1099511627776 := fun h => hx (.inr (.inl h))
    have h3 : beAt p 18 2 = 0 := Classical.byContradiction fun h => hx (.inr (.inr (.inl h)))
    have h4 : ¬ beAt p 16 2 < 148 := fun h => hx (.inr (.inr (.inr (.inl h))))
    have h5 : ¬ beAt p 16 2 > 4096 := fun h => hx (.inr (.inr (.inr (.inr h))))
    refine specFault_body w g off c p F h hp num _ ?_ h1 (by omega) h3 (by omega) (by omega)
    rw [hf, if_neg (by simpa using h1), if_neg (by rintro (h | h); exact h2 h; exact h h3), if_neg (by rintro (h | h); exact h4 h; exact h5 h)]
open Classical in
noncomputable def cnt (P : Nat → Prop) : Nat → Nat
  | 0 => 0
  | n + 1 => cnt P n + (if P n then 1 else 0)
theorem cnt_or {P Q R : Nat → Prop} (n : Nat) (hR : ∀ k, R k ↔ (P k ∨ Q k)) (hd : ∀ k, k < n → ¬ (P k ∧ Q k)) : cnt R n = cnt P n + cnt Q n := by
  induction n with
  | zero => rfl
  | succ n ih =>
    have h1 := ih (fun k hk => hd k (by omega))
    have h2 := hd n (by omega)
    have h3 := hR n
    simp only [cnt]
    by_cases hp : P n <;> by_cases hq : Q n
    · exact absurd ⟨hp, hq⟩ h2
    · rw [if_pos (h3.2 (.inl hp)), if_pos hp, if_neg hq]; omega
    · rw [if_pos (h3.2 (.inr hq)), if_neg hp, if_pos hq]; omega
    · rw [if_neg (fun h => (h3.1 h).elim hp hq), if_neg hp, if_neg hq]; omega
theorem cnt_iv {P : Nat → Prop} {a b : Nat} (hP : ∀ k, P k ↔ a ≤ k ∧ k < b) (n : Nat) : cnt P n = min b n - min a n := by
  induction n with
  | zero => simp [cnt]
  | succ n ih =>
    simp only [cnt]
    rw [ih]
    have := hP n
    by_cases h : P n
    · rw [if_pos h]; have := this.1 h; omega
    · rw [if_neg h]
      have h' : ¬ (a ≤ n ∧ n < b) := fun x => h (this.2 x)
      omega
theorem cnt_le {P : Nat → Prop} {b : Nat} (hP : ∀ k, P k → b ≤ k) (n : Nat) : cnt P n ≤ n - b := by
  induction n with
  | zero => simp [cnt]
  | succ n ih =>
    simp only [cnt]
    by_cases h : P n
    · rw [if_pos h]; have := hP n h; omega
    · rw [if_neg h]; omega
theorem fault_zero {p : List Int} {num : Int} (h : pageFault p num = 0) : p.length = 4096 ∧ beAt p 12 4 = num ∧ beAt p 4 8 ≤ 1099511627776 ∧ beAt p 18 2 = 0 ∧ 148 ≤ beAt p 16 2 ∧ beAt p 16 2 ≤ 4096 ∧
    (∀ i, i < 32 → (slO p i = 0 ∧ slN p i = 0) ∨ (slO p i ≠ 0 ∧ slN p i ≤ 1000 ∧ beAt p 16 2 ≤ slO p i ∧ slO p i + slN p i ≤ 4096)) ∧ (∀ i j k, i < 32 → j < i → ¬ (cov p i k ∧ cov p j k)) := by
  unfold pageFault at h
  split at h
  · omega
  split at h
  · omega
  split at h
  · omega
  split at h
  · omega
  split at h
  · omega
  split at h
  · omega
  rename_i h1 h2 h3 h4 h5 h6
  refine ⟨by omega, by omega, by omega, by omega, by omega, by omega, fun i hi => ?_, fun i j k hi hj hc => h6 ⟨i, j, k, hi, hj, hc⟩⟩
  have h7 : ¬ slBad p (beAt p 16 2) i = true := fun h => h5 ⟨i, hi, h⟩
  rw [slBad_true] at h7
  omega
theorem wellF_iff {p : List Int} : wellF p = true ↔ pageFault p (beAt p 12 4) = 0 := by
  constructor
  · intro h
    simp only [wellF, Bool.and_eq_true, decide_eq_true_eq] at h
    exact h.2
  · intro h
    have := (fault_zero h).1
    simp [wellF, this, h]
def sumN (p : List Int) : Nat → Nat
  | 0 => 0
  | k + 1 => sumN p k + (slN p k).toNat
theorem sumN_mono (p : List Int) {i j : Nat} (h : i ≤ j) : sumN p i ≤ sumN p j := by
  induction j with
  | zero => have : i = 0 := by omega
            subst this; exact Nat.le_refl _
  | succ j ih =>
    rcases Nat.lt_or_ge i (j + 1) with h1 | h1
    · have := ih (by omega)
      simp only [sumN]; omega
    · have : i = j + 1 := by omega
      subst this; exact Nat.le_refl _
theorem cover_cnt {p : List Int} (hw : ∀ z ∈ p, 0 ≤ z ∧ z ≤ 255)
    (h7 : ∀ i, i < 32 → (slO p i = 0 ∧ slN p i = 0) ∨ (slO p i ≠ 0 ∧ slN p i ≤ 1000 ∧ beAt p 16 2 ≤ slO p i ∧ slO p i + slN p i ≤ 4096)) (h8 : ∀ i j k, i < 32 → j < i → ¬ (cov p i k ∧ cov p j k)) :
    ∀ m, m ≤ 32 → cnt (fun k => ∃ i, i < m ∧ cov p i k) 4096 = sumN p m := by
  intro m
  induction m with
  | zero =>
    intro _
    have h0 : cnt (fun k => ∃ i, i < 0 ∧ cov p i k) 4096 ≤ 4096 - 4096 := cnt_le (by rintro k ⟨i, h, _⟩; omega) 4096
    show _ = 0
    omega
  | succ m ih =>
    intro hm
    have hm' : m < 32 := by omega
    have h1 := cnt_or (P := fun k => ∃ i, i < m ∧ cov p i k) (Q := fun k => cov p m k) (R := fun k => ∃ i, i < m + 1 ∧ cov p i k) 4096 (fun k => by
      constructor
      · rintro ⟨i, hi, hc⟩
        rcases Nat.lt_or_ge i m with h | h
        · exact .inl ⟨i, h, hc⟩
        · have : i = m := by omega
          subst this; exact .inr hc
      · rintro (⟨i, hi, hc⟩ | hc)
        · exact ⟨i, by omega, hc⟩
        · exact ⟨m, by omega, hc⟩) (fun k _ ⟨⟨i, hi, hc⟩, hq⟩ => h8 m i k hm' hi ⟨hq, hc⟩)
    rw [h1, ih (by omega)]
    have h2 : 0 ≤ slO p m := (beAt_u16 hw _).1
    have h3 : 0 ≤ slN p m := (beAt_u16 hw _).1
    have h4 := cnt_iv (P := fun k => cov p m k) (a := (slO p m).toNat) (b := (slO p m).toNat + (slN p m).toNat) (fun k => by
      show (slO p m ≤ (k : Int) ∧ (k : Int) < slO p m + slN p m) ↔ _
      omega) 4096
    rw [h4]
    have h5 := h7 m hm'
    simp only [sumN]
    omega
/-- All records fit between the bottom and the end. -/
theorem sumN_room {p : List Int} {num : Int} (hw : ∀ z ∈ p, 0 ≤ z ∧ z ≤ 255) (h : pageFault p num = 0) : sumN p 32 ≤ 4096 - (beAt p 16 2).toNat := by
  obtain ⟨_, _, _, _, h5, h6, h7, h8⟩ := fault_zero h
  rw [← cover_cnt hw h7 h8 32 (Nat.le_refl _)]
  refine cnt_le ?_ 4096
  rintro k ⟨i, hi, hc⟩
  have h9 := h7 i hi
  obtain ⟨c1, c2⟩ := hc
  omega
end Go.Proofs.YtghgjddiheebeaaDoor
