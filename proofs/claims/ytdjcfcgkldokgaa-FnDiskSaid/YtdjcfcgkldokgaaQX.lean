/- A region that draws its order, with one new struct laid (alloc) at whatever time: reads, calls that only lay new blocks, then a tail in the one order: one walk serves every order. -/
import Derived.Test.YtdjcfcgkldokgaaQT
namespace Go.Proofs.Ytdjcfcgkldokgaa
open Go.RowKit
set_option linter.unusedVariables false
section
variable {P : Program} {ops : Array Oper} {md : Region.Mode} {w0 : World} {k : Nat}
def xAt (P : Program) (o : Oper) (a : Act) (w : World) (v : Value) : Prop := Oper.quietUpon P (fun w'' => Ext w w'') w v ((execOp a.eval o).run P w)
def xQ (P : Program) (w0 : World) (o : Oper) (a : Act) (next : Act → Prop) : Prop := ∃ v, (∀ w, Ext w0 w → xAt P o a w v) ∧ next (a.put o.dst v)
/-- The lexical walk; operation k (the new struct) is passed by. -/
def wpX (P : Program) (ops : Array Oper) (w0 : World) (k : Nat) (Q : Act → Prop) : Nat → List Oper → Act → Prop
  | _, [], a => Q a
  | i, o :: rest, a => if i = k then wpX P ops w0 k Q (i + 1) rest (a.put o.dst undef) else if Region.wanted o (yielded ops a.tmps) then xQ P w0 o a (wpX P ops w0 k Q (i + 1) rest) else wpX P ops w0 k Q (i + 1) rest (a.put o.dst undef)
theorem wpX_nil {Q : Act → Prop} {i : Nat} {a : Act} (h : Q a) : wpX P ops w0 k Q i [] a := h
theorem wpX_float {Q : Act → Prop} {i : Nat} {a : Act} {o : Oper} {rest : List Oper} (hik : i = k) (h : wpX P ops w0 k Q (i + 1) rest (a.put o.dst undef)) : wpX P ops w0 k Q i (o :: rest) a := by
  unfold wpX; rw [if_pos hik]; exact h
theorem wpX_skip {Q : Act → Prop} {i : Nat} {a : Act} {o : Oper} {rest : List Oper} (hik : (i == k) = false) (hw : Region.wanted o (yielded ops a.tmps) = false) (h : wpX P ops w0 k Q (i + 1) rest (a.put o.dst undef)) : wpX P ops w0 k Q i (o :: rest) a := by
  unfold wpX; rw [if_neg (by simpa using hik), if_neg (by simp [hw])]; exact h
theorem wpX_take {Q : Act → Prop} {i : Nat} {a : Act} {o : Oper} {rest : List Oper} (v : Value) (hik : (i == k) = false) (hw : Region.wanted o (yielded ops a.tmps) = true) (hv : ∀ w, Ext w0 w → xAt P o a w v) (h : wpX P ops w0 k Q (i + 1) rest (a.put o.dst v)) : wpX P ops w0 k Q i (o :: rest) a := by
  unfold wpX; rw [if_neg (by simpa using hik), if_pos hw]; exact ⟨v, hv, h⟩
def xOp (P : Program) (ops : Array Oper) (w0 : World) (k i : Nat) (K : Act → Prop) (a : Act) : Prop :=
  match ops[i]? with
  | none => K a
  | some o => if i = k then K (a.put o.dst undef) else if Region.wanted o (yielded ops a.tmps) then xQ P w0 o a K else K (a.put o.dst undef)
theorem xQ_mono {o : Oper} {a : Act} {K K' : Act → Prop} (h : ∀ a, K a → K' a) (hh : xQ P w0 o a K) : xQ P w0 o a K' :=
  let ⟨v, h1, h2⟩ := hh
  ⟨v, h1, h _ h2⟩
theorem xOp_mono {i : Nat} {a : Act} {K K' : Act → Prop} (h : ∀ a, K a → K' a) (hh : xOp P ops w0 k i K a) : xOp P ops w0 k i K' a := by
  unfold xOp at *
  split
  · exact h _ (by simpa [*] using hh)
  · rename_i o ho
    simp only [ho] at hh
    split
    · rename_i hk; simp only [hk, if_true] at hh; exact h _ hh
    · rename_i hk
      simp only [hk, if_false] at hh
      split
      · rename_i hw; simp only [hw, if_true] at hh; exact xQ_mono h hh
      · rename_i hw; simp only [hw] at hh; exact h _ hh
def YieldsX (P : Program) (ops : Array Oper) (w0 : World) (k i : Nat) (o : Oper) (v : Value) (a : Act) : Prop :=
  (i = k ∧ v = undef) ∨ (i ≠ k ∧ ((Region.wanted o (yielded ops a.tmps) = true ∧ ∀ w, Ext w0 w → xAt P o a w v) ∨ (Region.wanted o (yielded ops a.tmps) = false ∧ v = undef)))
theorem YieldsX.xOp {i : Nat} {o : Oper} {v : Value} {a : Act} (hi : ops[i]? = some o) (hy : YieldsX P ops w0 k i o v a) {K : Act → Prop} (h : K (a.put o.dst v)) : xOp P ops w0 k i K a := by
  unfold Go.Proofs.Ytdjcfcgkldokgaa.xOp
  simp only [hi]
  rcases hy with ⟨hk, rfl⟩ | ⟨hk, ⟨hw, hv⟩ | ⟨hw, rfl⟩⟩
  · simp only [hk, if_true]; exact h
  · simp only [hk, hw, if_false, if_true]; exact ⟨v, hv, h⟩
  · simp only [hk, hw, Bool.false_eq_true, if_false]; exact h
theorem YieldsX.of_same {i : Nat} {o : Oper} {v : Value} {a a' : Act} (hy : YieldsX P ops w0 k i o v a) (he : execOp a'.eval o = execOp a.eval o)
    (hw : Region.wanted o (yielded ops a'.tmps) = Region.wanted o (yielded ops a.tmps)) : YieldsX P ops w0 k i o v a' := by
  unfold YieldsX xAt at *
  rw [he, hw]
  exact hy
theorem yieldsX_of_xOp {i : Nat} {o : Oper} {a : Act} {K : Act → Prop} (hi : ops[i]? = some o) (h : xOp P ops w0 k i K a) : ∃ v, YieldsX P ops w0 k i o v a ∧ K (a.put o.dst v) := by
  unfold xOp at h
  simp only [hi] at h
  by_cases hk : i = k
  · simp only [hk, if_true] at h
    exact ⟨undef, .inl ⟨hk, rfl⟩, h⟩
  · simp only [hk, if_false] at h
    by_cases hw : Region.wanted o (yielded ops a.tmps) = true
    · simp only [hw, if_true] at h
      obtain ⟨v, h1, h2⟩ := h
      exact ⟨v, .inr ⟨hk, .inl ⟨hw, h1⟩⟩, h2⟩
    · simp only [hw] at h
      exact ⟨undef, .inr ⟨hk, .inr ⟨by simpa using hw, rfl⟩⟩, h⟩
theorem xOp_put {i j : Nat} {oi oj : Oper} {v : Value} (hj : ops[j]? = some oj) (hap : oi.apart ops oj = true)
    (hsi : ∀ cs b, oi.op ≠ .select cs b) (hsj : ∀ cs b, oj.op ≠ .select cs b) {K : Act → Prop} {a : Act}
    (hy : YieldsX P ops w0 k i oi v a) (h : xOp P ops w0 k j K (a.put oi.dst v)) :
    xOp P ops w0 k j (fun a' => YieldsX P ops w0 k i oi v a' ∧ K (a'.put oi.dst v)) a := by
  obtain ⟨h1, h2, h3⟩ := Oper.apart_spec hap
  have keep : ∀ (a : Act), YieldsX P ops w0 k i oi v a → ∀ u, YieldsX P ops w0 k i oi v (a.put oj.dst u) := fun a hy u =>
    hy.of_same (execOp_put oi hsi a oj.dst u h3) (wanted_put oi a oj.dst u h3)
  unfold xOp at *
  simp only [hj] at *
  rw [wanted_put oj a oi.dst v h1] at h
  split
  · rename_i hk
    simp only [hk, if_true] at h
    exact ⟨keep a hy _, by rw [← Act.put_comm a v undef h2]; exact h⟩
  · rename_i hk
    simp only [hk, if_false] at h
    split
    · rename_i hw
      simp only [hw, if_true] at h
      obtain ⟨u, hu, hn⟩ := h
      refine ⟨u, fun w hw' => ?_, keep a hy u, by rw [← Act.put_comm a v u h2]; exact hn⟩
      have := hu w hw'
      unfold xAt at *
      rwa [execOp_put oj hsj a oi.dst v h1] at this
    · rename_i hw
      simp only [hw] at h
      exact ⟨keep a hy _, by rw [← Act.put_comm a v undef h2]; exact h⟩
def wpAnyX (P : Program) (md : Region.Mode) (ops : Array Oper) (w0 : World) (k n : Nat) (L : Array Bool → Act → Prop) : Nat → Array Bool → Act → Prop
  | 0, listed, a => L listed a
  | f + 1, listed, a =>
    Region.ready md ops listed ≠ [] ∧ ∀ i ∈ Region.ready md ops listed, i < n ∧ xOp P ops w0 k i (wpAnyX P md ops w0 k n L f (listed.setIfInBounds i true)) a
theorem wpAnyX_first {n i : Nat} {oi : Oper} {v : Value} {L : Array Bool → Act → Prop} (hi : ops[i]? = some oi) (hsel : ∀ (j : Nat) (o : Oper) cs b, ops[j]? = some o → o.op ≠ .select cs b)
    (hs : Region.sinkB md ops n = true) (hc : Region.chainB md ops n = true) (hn : n < ops.size) (hin : i < n)
    (hdone : ∀ listed a, L listed a → ∀ j ∈ Region.ready md ops listed, n ≤ j) :
    ∀ (f : Nat) (listed : Array Bool) (a : Act), HeadInv md ops n listed →
      (∀ j oj, ops[j]? = some oj → j ≠ i → listed.getD j true = false → (∀ e ∈ oj.after, Region.binds md e = true → e.on ≠ i) → oi.apart ops oj = true) →
      i ∈ Region.ready md ops listed → YieldsX P ops w0 k i oi v a →
      wpAnyX P md ops w0 k n L f (listed.setIfInBounds i true) (a.put oi.dst v) → wpAnyX P md ops w0 k n L (f + 1) listed a := by
  intro f
  induction f with
  | zero =>
    intro listed a inv _ hr hy H
    have hun := (mem_ready.1 hr).1
    refine ⟨fun h => (by rw [h] at hr; cases hr), fun j hj => ?_⟩
    have hjn : j < n := by
      rcases Nat.lt_or_ge j n with h | h
      · exact h
      · exact absurd hj (tail_waits hs hc hn inv _ i rfl hin hun j h)
    refine ⟨hjn, ?_⟩
    by_cases hji : j = i
    · subst hji; exact hy.xOp hi H
    · have := hdone _ _ H j (ready_mono hj hji)
      omega
  | succ f ih =>
    intro listed a inv hfree hr hy H
    have hun := (mem_ready.1 hr).1
    refine ⟨fun h => (by rw [h] at hr; cases hr), fun j hj => ?_⟩
    have hjn : j < n := by
      rcases Nat.lt_or_ge j n with h | h
      · exact h
      · exact absurd hj (tail_waits hs hc hn inv _ i rfl hin hun j h)
    refine ⟨hjn, ?_⟩
    by_cases hji : j = i
    · subst hji; exact hy.xOp hi H
    · have h1 := (H.2 j (ready_mono hj hji)).2
      obtain ⟨hjun, oj, hoj, hall⟩ := mem_ready.1 hj
      have hnot : ∀ e ∈ oj.after, Region.binds md e = true → e.on ≠ i := fun e he hb heq => by
        have h1 := hall e he hb
        rw [heq, getD_both hun] at h1
        cases h1
      have h2 := xOp_put hoj (hfree j oj hoj hji hjun hnot) (fun cs b => hsel i oi cs b hi) (fun cs b => hsel j oj cs b hoj) hy h1
      have hfree' : ∀ k ok, ops[k]? = some ok → k ≠ i → (listed.setIfInBounds j true).getD k true = false →
          (∀ e ∈ ok.after, Region.binds md e = true → e.on ≠ i) → oi.apart ops ok = true := fun k ok hk hki hun hno => by
        refine hfree k ok hk hki ?_ hno
        by_cases hjk : j = k
        · subst hjk; exact hjun
        · rw [getD_set_ne true hjk] at hun; exact hun
      refine xOp_mono (fun a' h3 => ih (listed.setIfInBounds j true) a' (inv.set hj hjn) hfree' (ready_mono hr (Ne.symm hji)) h3.1 ?_) h2
      rw [Array.setIfInBounds_comm _ _ hji]
      exact h3.2
theorem wpAnyX_lex {n g : Nat} {Lq : Act → Prop} (hsel : Region.noSelect ops = true) (hs : Region.sinkB md ops n = true) (hc : Region.chainB md ops n = true) (hn : n < ops.size) (hkn : k < n) :
    ∀ (l : List Oper) (i : Nat) (listed : Array Bool) (a : Act), (∀ j, j < l.length → l[j]? = ops[i + j]?) → i + l.length = n → (k < i → listed.getD k false = true) → HeadInv md ops n listed →
    Region.lexHead md ops g l.length i listed = true → wpX P ops w0 k Lq i l a →
    wpAnyX P md ops w0 k n (fun listed' a' => Region.seqB md ops g n listed' = true ∧ listed'.getD k false = true ∧ Lq a') l.length listed a
  | [], i, listed, a, _, hk, hd, _, hB, h => by
    have : i = n := by simpa using hk
    subst this
    exact ⟨by simpa [Region.lexHead] using hB, hd hkn, h⟩
  | o :: l, i, listed, a, hl, hk, hd, inv, hB, h => by
    have h0 : ops[i]? = some o := by simpa using (hl 0 (by simp)).symm
    simp only [List.length_cons, Region.lexHead, Bool.and_eq_true] at hB
    obtain ⟨⟨hr, hf⟩, hB'⟩ := hB
    have hin : i < n := by simp only [List.length_cons] at hk; omega
    have hr' : i ∈ Region.ready md ops listed := by simpa using hr
    have hst : xOp P ops w0 k i (wpX P ops w0 k Lq (i + 1) l) a := by unfold xOp; simp only [h0]; unfold wpX at h; exact h
    obtain ⟨v, hy, hK⟩ := yieldsX_of_xOp h0 hst
    have hsz : i < listed.size := by rw [inv.size]; omega
    exact wpAnyX_first h0 (Region.noSelect_spec hsel) hs hc hn hin (fun listed' a' hL => seqB_ready hL.1) l.length listed a inv (Region.free_spec h0 hf) hr' hy
      (wpAnyX_lex hsel hs hc hn hkn l (i + 1) _ _ (fun j hj => by have := hl (j + 1) (by simp; omega); simpa [Nat.add_assoc, Nat.add_comm 1 j] using this) (by simp only [List.length_cons] at hk; omega)
        (fun hki => by
          by_cases he : i = k
          · subst he; simp [hsz]
          · rw [getD_set_ne false he]; exact hd (by omega)) (inv.set hr' hin) hB' hK)
theorem xwp {o : Oper} {a : Act} {K : Act → Prop} {K' : Act → World → Prop} {Q' : Exit → Act → World → Prop} {w : World} (hw : Ext w0 w) (h : ∀ a w', Ext w w' → K a → K' a w') (hh : xQ P w0 o a K) : o.wp P a w K' Q' := by
  obtain ⟨v, h1, h2⟩ := hh
  have h3 := h1 w hw
  unfold xAt at h3
  unfold Oper.wp
  generalize (execOp a.eval o).run P w = r at *
  cases r with
  | ok n w' =>
    cases n <;> simp only [Oper.quietUpon] at h3 <;> simp only [Oper.upon]
    case value u =>
      obtain ⟨e1, e2⟩ := h3
      rw [e1, e2]
      exact h _ _ (Only.refl [] w) h2
    case skip =>
      obtain ⟨e1, e2⟩ := h3
      rw [e1, ← e2]
      exact h _ _ (Only.refl [] w) h2
    case enter f args =>
      obtain ⟨e1, hc⟩ := h3
      rw [e1]
      exact hc.mono fun e w'' ⟨he, hw''⟩ => by subst he; exact h _ _ hw'' h2
  | halt x w' => simp only [Oper.quietUpon] at h3
theorem put_put (a : Act) (d : Tmp) (u v : Value) : (a.put (some d) u).put (some d) v = a.put (some d) v := by
  cases a; simp [Act.put]
/-- From the model to what runs. -/
theorem wpAny_of_X {n g : Nat} {L : Array Bool → Act → Prop} {Q' : Exit → Act → World → Prop} {ok : Oper} {d : Tmp} {T : TypeId} {zc : Array Value} (hk : ops[k]? = some ok) (hd : ok.dst = some d) (hg : ok.guard = none)
    (hrun : ∀ (ev : Operand → Value) (w : World), (execOp ev ok).run P w = .ok (.value (.pointer (some ⟨w.heap.size, 0, none⟩))) (w.alloc (.cells zc T)))
    (hsel : ∀ (j : Nat) (o : Oper) cs b, ops[j]? = some o → o.op ≠ .select cs b)
    (hap : ∀ j oj, ops[j]? = some oj → j < n → j ≠ k → ok.apart ops oj = true)
    (hLk : ∀ listed a, L listed a → listed.getD k false = true)
    (hL : ∀ listed a w b, Ext w0 w → w0.heap.size ≤ b → w.heap[b]? = some (.cells zc T (0, 0)) → L listed a → wpAny P md ops Q' g listed (a.put (some d) (.pointer (some ⟨b, 0, none⟩))) w) :
    ∀ (f : Nat) (listed : Array Bool) (a : Act) (w : World), listed.size = ops.size → Ext w0 w → wpAnyX P md ops w0 k n L f listed a →
      (listed.getD k false = false → wpAny P md ops Q' (f + g) listed a w) ∧
      (listed.getD k false = true → ∀ b, w0.heap.size ≤ b → w.heap[b]? = some (.cells zc T (0, 0)) → wpAny P md ops Q' (f + g) listed (a.put (some d) (.pointer (some ⟨b, 0, none⟩))) w)
  | 0, listed, a, w, hs, hw, h => by
    rw [Nat.zero_add]
    exact ⟨fun hf => (by rw [hLk _ _ h] at hf; cases hf), fun _ b hb hc => hL _ _ _ _ hw hb hc h⟩
  | f + 1, listed, a, w, hs, hw, h => by
    rw [show f + 1 + g = (f + g) + 1 by omega]
    have hks : k < ops.size := (Array.getElem?_eq_some_iff.1 hk).1
    have hkl : k < listed.size := by omega
    refine ⟨fun hf => ⟨fun h0 => absurd h0 h.1, fun i hi => ?_⟩, fun ht b hb hc => ⟨fun h0 => absurd h0 h.1, fun i hi => ?_⟩⟩
    · obtain ⟨hin, hx⟩ := h.2 i hi
      by_cases hik : i = k
      · rw [hik] at hx ⊢
        unfold xOp at hx
        simp only [hk, if_true] at hx
        unfold wpOp
        simp only [hk]
        have hwt : Region.wanted ok (yielded ops a.tmps) = true := by simp [Region.wanted, hg]
        rw [if_pos hwt]
        refine .inl ?_
        unfold Oper.wp
        rw [hrun]
        simp only [Oper.upon]
        have ih := (wpAny_of_X hk hd hg hrun hsel hap hLk hL f _ _ (w.alloc (.cells zc T)) (by simpa using hs) (hw.alloc _) hx).2 (by simp [hkl]) w.heap.size hw.size (heap_alloc_new w _)
        rw [hd] at ih ⊢
        rwa [put_put] at ih
      · unfold xOp at hx
        unfold wpOp
        split
        · rename_i ho
          simp only [ho] at hx
          exact (wpAny_of_X hk hd hg hrun hsel hap hLk hL f _ _ w (by simpa using hs) hw hx).1 (by rw [getD_set_ne false hik]; exact hf)
        · rename_i o ho
          simp only [ho, hik, if_false] at hx
          split
          · rename_i hwt
            simp only [hwt, if_true] at hx
            exact .inl (xwp hw (fun a' w' hw' h' => (wpAny_of_X hk hd hg hrun hsel hap hLk hL f _ _ w' (by simpa using hs) (hw.ext hw') h').1 (by rw [getD_set_ne false hik]; exact hf)) hx)
          · rename_i hwt
            simp only [hwt] at hx
            exact (wpAny_of_X hk hd hg hrun hsel hap hLk hL f _ _ w (by simpa using hs) hw hx).1 (by rw [getD_set_ne false hik]; exact hf)
    · obtain ⟨hin, hx⟩ := h.2 i hi
      have hun := (mem_ready.1 hi).1
      have hik : i ≠ k := by
        rintro rfl
        rw [getD_both hun] at ht; cases ht
      unfold xOp at hx
      unfold wpOp
      split
      · rename_i ho
        simp only [ho] at hx
        exact (wpAny_of_X hk hd hg hrun hsel hap hLk hL f _ _ w (by simpa using hs) hw hx).2 (by rw [getD_set_ne false hik]; exact ht) b hb hc
      · rename_i o ho
        obtain ⟨h1, h2, h3⟩ := Oper.apart_spec (hap i o ho hin hik)
        simp only [ho, hik, if_false] at hx
        rw [hd] at h1 h2
        rw [wanted_put o a (some d) _ h1]
        split
        · rename_i hwt
          simp only [hwt, if_true] at hx
          refine .inl ?_
          have hx' : xQ P w0 o (a.put (some d) (.pointer (some ⟨b, 0, none⟩))) (fun a' => ∃ a0, a' = a0.put (some d) (.pointer (some ⟨b, 0, none⟩)) ∧ wpAnyX P md ops w0 k n L f (listed.setIfInBounds i true) a0) := by
            obtain ⟨v, hv, hn⟩ := hx
            refine ⟨v, fun w' hw' => ?_, _, Act.put_comm a _ v h2, hn⟩
            have := hv w' hw'
            unfold xAt at *
            rwa [execOp_put o (fun cs b => hsel i o cs b ho) a (some d) _ h1]
          refine xwp hw (fun a' w' hw' h' => ?_) hx'
          obtain ⟨a0, rfl, hX⟩ := h'
          exact (wpAny_of_X hk hd hg hrun hsel hap hLk hL f _ _ w' (by simpa using hs) (hw.ext hw') hX).2 (by rw [getD_set_ne false hik]; exact ht) b hb (hw'.heap hc (by simp))
        · rename_i hwt
          simp only [hwt] at hx
          rw [Act.put_comm a _ _ h2]
          exact (wpAny_of_X hk hd hg hrun hsel hap hLk hL f _ _ w (by simpa using hs) hw hx).2 (by rw [getD_set_ne false hik]; exact ht) b hb hc
def apartB (ops : Array Oper) (k n : Nat) (ok : Oper) : Bool := (List.range n).all fun j => decide (j = k) || match ops[j]? with | some oj => ok.apart ops oj | none => true
theorem wp_region_float {id : Nat} {Q : Exit → Act → World → Prop} {a : Act} {w : World} {l : List Oper} (n k d : Nat) (ok : Oper) (T : TypeId) (zc : Array Value) (hm : P.follows .mixedOrders = true) (hB : Region.lexTailB .any l.toArray n = true)
    (hkn : k < n) (hk : l.toArray[k]? = some ok) (hd : ok.dst = some d) (hg : ok.guard = none)
    (hrun : ∀ (ev : Operand → Value) (w : World), (execOp ev ok).run P w = .ok (.value (.pointer (some ⟨w.heap.size, 0, none⟩))) (w.alloc (.cells zc T)))
    (hap : apartB l.toArray k n ok = true)
    (h : wpX P l.toArray w.drew k (fun a' => ∀ w' b, Ext w.drew w' → w.heap.size ≤ b → w'.heap[b]? = some (.cells zc T (0, 0)) → wpList P l.toArray Q (l.drop n) (a'.put (some d) (.pointer (some ⟨b, 0, none⟩))) w') 0 (l.take n) a) : (Code.region id l.toArray true).wp P Q a w := by
  simp only [Region.lexTailB, Bool.and_eq_true, decide_eq_true_eq] at hB
  obtain ⟨⟨⟨⟨hsel, hn⟩, hs⟩, hc⟩, hlex⟩ := hB
  have hn' : n < l.length := by simpa using hn
  have htl : (l.take n).length = n := by simp; omega
  have hdl : (l.drop n).length = l.toArray.size - n := by simp
  have inv0 : HeadInv .any l.toArray n (Array.replicate l.toArray.size false) :=
    ⟨by simp, fun j oj _ hl => (by rw [getD_replicate_false] at hl; cases hl), fun t _ ht => getD_in (by simpa using ht) (getD_replicate_false _ _)⟩
  have H := wpAnyX_lex (md := .any) (g := l.toArray.size - n) hsel hs hc hn hkn (l.take n) 0 _ a (fun j hj => by
    have hj' : j < n := by rw [htl] at hj; exact hj
    simp [hj']) (by simpa using htl) (fun h => absurd h (Nat.not_lt_zero _)) inv0 (by rw [htl]; exact hlex) h
  refine wp_region_any hm ?_
  have hap' : ∀ j oj, l.toArray[j]? = some oj → j < n → j ≠ k → ok.apart l.toArray oj = true := fun j oj hj hjn hjk => by
    have := List.all_eq_true.1 hap j (List.mem_range.2 hjn)
    simp only [hj, Bool.or_eq_true, decide_eq_true_eq] at this
    rcases this with h | h
    · exact absurd h hjk
    · exact h
  have := (wpAny_of_X (Q' := Q) (g := l.toArray.size - n) hk hd hg hrun (Region.noSelect_spec hsel) hap' (fun listed a' hL => hL.2.1) (fun listed a' w' b hw' hb hc' hL => by
    have := wpAny_of_seq (md := .any) (Q' := Q) (l.drop n) n listed _ w' (fun j => by simp [List.getElem?_drop]) (by rw [hdl]; exact hL.1) (hL.2.2 w' b hw' hb hc')
    rwa [hdl] at this) _ _ _ w.drew (by simp) (Only.refl [] _) H).1 (getD_replicate_false _ _)
  rwa [htl, Nat.add_sub_cancel' (by simpa using Nat.le_of_lt hn')] at this
structure WX (P : Program) (ops : Array Oper) (w0 : World) (k : Nat) (Q : Act → Prop) (i : Nat) (l : List Oper) (a : Act) : Prop where
  out : wpX P ops w0 k Q i l a
variable {Q : Act → Prop} {i : Nat} {a : Act} {o : Oper} {rest : List Oper}
theorem WX.nil (h : Q a) : WX P ops w0 k Q i [] a := ⟨h⟩
theorem WX.float (hik : i = k) (h : WX P ops w0 k Q (i + 1) rest (a.put o.dst undef)) : WX P ops w0 k Q i (o :: rest) a := ⟨wpX_float hik h.out⟩
theorem WX.skip (hik : (i == k) = false) (hw : Region.wanted o (yielded ops a.tmps) = false) (h : WX P ops w0 k Q (i + 1) rest (a.put o.dst undef)) : WX P ops w0 k Q i (o :: rest) a := ⟨wpX_skip hik hw h.out⟩
theorem WX.take (v : Value) (hik : (i == k) = false) (hw : Region.wanted o (yielded ops a.tmps) = true) (hv : ∀ w, Ext w0 w → xAt P o a w v) (h : WX P ops w0 k Q (i + 1) rest (a.put o.dst v)) : WX P ops w0 k Q i (o :: rest) a := ⟨wpX_take v hik hw hv h.out⟩
theorem region_float {id : Nat} {Q : Exit → Act → World → Prop} {a : Act} {w : World} {l : List Oper} (n k d : Nat) (ok : Oper) (T : TypeId) (zc : Array Value) (hm : P.follows .mixedOrders = true) (hB : Region.lexTailB .any l.toArray n = true)
    (hkn : k < n) (hk : l.toArray[k]? = some ok) (hd : ok.dst = some d) (hg : ok.guard = none)
    (hrun : ∀ (ev : Operand → Value) (w : World), (execOp ev ok).run P w = .ok (.value (.pointer (some ⟨w.heap.size, 0, none⟩))) (w.alloc (.cells zc T)))
    (hap : apartB l.toArray k n ok = true)
    (h : WX P l.toArray w.drew k (fun a' => ∀ w' b, Ext w.drew w' → w.heap.size ≤ b → w'.heap[b]? = some (.cells zc T (0, 0)) → wpList P l.toArray Q (l.drop n) (a'.put (some d) (.pointer (some ⟨b, 0, none⟩))) w') 0 (l.take n) a) : (Code.region id l.toArray true).wp P Q a w :=
  wp_region_float n k d ok T zc hm hB hkn hk hd hg hrun hap h.out
end
end Go.Proofs.Ytdjcfcgkldokgaa
