/- The bytes of a record: the plain model. -/
import Derived.Test.YtghgjddiheebeaaDoorMG3
import Derived.Test.YtghgjddiheebeaaDoorMU1
import Derived.Deep.RegionHeld3
namespace Go.Proofs.YtghgjddiheebeaaDoor
set_option linter.unusedVariables false
def encT (t : DTxnEntry) : List Int := beL 4 t.Txn.toNat ++ (beL 1 t.State.toNat ++ (beL 8 t.Last.toNat ++ beL 8 t.UndoNext.toNat))
def encD (d : DDirtyEntry) : List Int := beL 2 d.Page.toNat ++ beL 8 d.RecLSN.toNat
/-- The bytes of a record behind its kind, its transaction and its Prev. -/
def encBody (x : DLogRecord) : List Int :=
  if x.Kind = 1 then beL 2 x.Page.toNat ++ (beL 2 x.Slot.toNat ++ (slotB x.Before.Used x.Before.Data ++ slotB x.After.Used x.After.Data))
  else if x.Kind = 2 then beL 2 x.Page.toNat ++ (beL 2 x.Slot.toNat ++ (slotB x.After.Used x.After.Data ++ beL 8 x.UndoNext.toNat))
  else if x.Kind = 7 then beL 4 x.NextTxn.toNat ++ (beL 1 x.Txns.length ++ (x.Txns.flatMap encT ++ (beL 1 x.Dirty.length ++ x.Dirty.flatMap encD)))
  else if x.Kind = 8 then beL 2 x.Page.toNat ++ x.Image
  else []
/-- The bytes of a record, its faults aside. -/
def encR (x : DLogRecord) : List Int := beL 1 x.Kind.toNat ++ (beL 4 x.Txn.toNat ++ (beL 8 x.Prev.toNat ++ encBody x))
/-- What EncodeRecord answers. -/
noncomputable def encRec (x : DLogRecord) : List Int := if recFault x = 0 then encR x else []
theorem encR_len (x : DLogRecord) : 13 ≤ (encR x).length := by simp [encR, beL_length]; omega
end Go.Proofs.YtghgjddiheebeaaDoor
/- What a record without fault holds. -/
namespace Go.Proofs.YtghgjddiheebeaaDoor
set_option linter.unusedVariables false
structure RecOk (x : DLogRecord) : Prop where
  kind : 1 ≤ x.Kind ∧ x.Kind ≤ 8
  txn : 0 ≤ x.Txn ∧ x.Txn ≤ 2147483647
  prev : 0 ≤ x.Prev ∧ x.Prev ≤ 1099511627776
  page : 0 ≤ x.Page ∧ x.Page ≤ 15
  slot : 0 ≤ x.Slot ∧ x.Slot ≤ 31
  bef : x.Kind ≤ 2 → x.Before.Data.length ≤ 1000 ∧ (x.Before.Used = true ∨ x.Before.Data.length = 0)
  aft : x.Kind ≤ 2 → x.After.Data.length ≤ 1000 ∧ (x.After.Used = true ∨ x.After.Data.length = 0)
  un : x.Kind = 2 → 0 ≤ x.UndoNext ∧ x.UndoNext ≤ 1099511627776
  tab : x.Kind = 7 → tabBad x.NextTxn x.Txns x.Dirty = false
  img : x.Kind = 8 → pageFault x.Image x.Page = 0
theorem recOk {x : DLogRecord} (h : recFault x = 0) : RecOk x := by
  unfold recFault recF at h
  repeat' split at h
  all_goals first
    | (exact absurd h (by decide))
    | skip
  rename_i h1 h2 h3 h4 h5 h6 h7 h8 h9
  have k := inR_true.1 (by simpa using h1)
  have hb : x.Kind ≤ 2 → bR x.Before.Used x.Before.Data.length = false ∧ bR x.After.Used x.After.Data.length = false := fun hk => by
    constructor
    · cases hq : bR x.Before.Used x.Before.Data.length with
      | false => rfl
      | true => exact absurd ⟨hk, Or.inl hq⟩ h6
    · cases hq : bR x.After.Used x.After.Data.length with
      | false => rfl
      | true => exact absurd ⟨hk, Or.inr (Or.inl hq)⟩ h6
  have e2 : extraF x.Kind x.Txn x.Prev x.Page x.Slot x.Before.Used x.Before.Data.length x.After.Used x.After.Data.length x.UndoNext x.NextTxn x.Txns.length x.Dirty.length x.Image.length = false := by simpa using h2
  have ht : 5 < x.Kind → x.Txn = 0 := fun hk => by
    have e3 := e2
    simp only [extraF, Bool.or_eq_false_iff] at e3
    have e4 := e3.1.1.1.1.1.1
    simp [hk] at e4
    exact e4.1
  refine ⟨k, ?_, inR_true.1 (by simpa using h4), inR_true.1 ?_, inR_true.1 ?_, fun hk => bR_false.1 (hb hk).1, fun hk => bR_false.1 (hb hk).2, fun hk => inR_true.1 ?_, fun hk => ?_, fun hk => ?_⟩
  · by_cases h5' : 5 < x.Kind
    · rw [ht h5']; decide
    · have := inR_true.1 (show inR x.Txn 1 2147483647 = true by
        cases hq : inR x.Txn 1 2147483647 with
        | true => rfl
        | false => exact absurd ⟨by omega, hq⟩ h3)
      omega
  · cases hq : inR x.Page 0 15 with
    | true => rfl
    | false => exact absurd (Or.inl hq) h5
  · cases hq : inR x.Slot 0 31 with
    | true => rfl
    | false => exact absurd (Or.inr hq) h5
  · cases hq : inR x.UndoNext 0 1099511627776 with
    | true => rfl
    | false => exact absurd ⟨hk, hq⟩ h7
  · cases hq : tabBad x.NextTxn x.Txns x.Dirty with
    | false => rfl
    | true => exact absurd ⟨hk, hq⟩ h8
  · exact Classical.byContradiction fun hq => h9 ⟨hk, hq⟩
end Go.Proofs.YtghgjddiheebeaaDoor
/- EncodeRecord, the specification's: bytes that are put behind bytes. -/
namespace Go.Proofs.YtghgjddiheebeaaDoor
open Go.RowKit Go.Shelf
set_option linter.unusedSimpArgs false
set_option linter.unusedVariables false
/-- v holds the bytes xs, in a block from n on; below n all is as in w0. -/
structure SP (n : Nat) (w0 : World) (xs : List Int) (v : Value) (W : World) : Prop where
  own : W.ownsRow n 5 1 v xs.length (xs.map (.int .u8))
  wf : ∀ z ∈ xs, (Lit.int .u8 z).wf = true
  le : n ≤ W.heap.size
  below : Below n w0 W
/-- Rows of another kind stand. -/
def KeptT (W w' : World) : Prop := ∀ (k : Nat) (cs : Array Value) (T : TypeId) (fz : Nat × Nat), W.heap[k]? = some (Obj.cells cs T fz) → T ≠ 5 → w'.heap[k]? = some (Obj.cells cs T fz)
theorem KeptT.trans {a b c : World} (h : KeptT a b) (k : KeptT b c) : KeptT a c := fun n cs T fz h1 h2 => k n cs T fz (h n cs T fz h1 h2) h2
theorem KeptT.ext {a b : World} (h : Ext a b) : KeptT a b := fun n cs T fz h1 _ => h.heap h1 (by simp)
theorem SP.form {n : Nat} {w0 W : World} {xs : List Int} {v : Value} (h : SP n w0 xs v W) : ∃ A c, v = .slice A xs.length c := ownsRow_form h.own
theorem SP.ext {n : Nat} {w0 W W' : World} {xs : List Int} {v : Value} (h : SP n w0 xs v W) (k : Ext W W') : SP n w0 xs v W' :=
  ⟨ownsRow_only h.own k (by simp), h.wf, Nat.le_trans h.le k.size, h.below.trans (k.below.mono h.le)⟩
theorem SP.row {n : Nat} {w0 W : World} {xs : List Int} {v : Value} (h : SP n w0 xs v W) {k : Nat} {o : Obj} (hb : w0.heap[k]? = some o) (hk : k < n) : W.heap[k]? = some o := (h.below.block k hk).trans hb
/-- What an append of bytes into the own row leaves. -/
theorem SP.grown {n : Nat} {w0 W W' : World} {xs ys : List Int} {v v' : Value} (h : SP n w0 xs v W) (hy : ∀ z ∈ ys, (Lit.int .u8 z).wf = true) (ho : W'.ownsRow n 5 1 v' (xs.length + ys.length) (xs.map (.int .u8) ++ ys.map (.int .u8))) (hg : W.grownBy W' v.ownBlock) :
    SP n w0 (xs ++ ys) v' W' ∧ KeptT W W' := by
  have hge : ∀ k, v.ownBlock = some k → n ≤ k ∧ ∃ cur, W.heap[k]? = some (.cells cur 5 (0, 0)) := by
    intro k hk
    rcases h.own.2 with ⟨e, _⟩ | ⟨g, cap, cur, e, hb, hh, _⟩
    · rw [e] at hk; cases hk
    · rw [e] at hk; injection hk with hk; subst hk; exact ⟨hb, cur, hh⟩
  refine ⟨⟨by simpa using ho, fun z hz => ?_, Nat.le_trans h.le hg.size, ?_⟩, fun k cs T fz hk hT => ?_⟩
  · rcases List.mem_append.1 hz with hz | hz
    · exact h.wf z hz
    · exact hy z hz
  · exact h.below.grown hg h.le (fun k hk => (hge k hk).1)
  · refine (hg.block k (Array.getElem?_eq_some_iff.1 hk).1 (fun e => ?_)).trans hk
    obtain ⟨-, cur, hc⟩ := hge k e.symm
    rw [hc] at hk
    injection hk with hk
    injection hk with _ hk2
    exact hT hk2.symm
theorem beL_wf (n v : Nat) : ∀ z ∈ beL n v, (Lit.int .u8 z).wf = true := by
  intro z hz
  have h := beL_byte n v z hz
  simp only [Lit.wf, IntKind.min, IntKind.max, IntKind.signed, IntKind.bits]
  simp
  omega
set_option maxRecDepth 100000 in
set_option maxHeartbeats 4000000 in
theorem SP.put {n0 : Nat} {w0 W : World} {xs : List Int} {v : Value} (h : SP n0 w0 xs v W) (n u : Nat) (z nz : Int) (hz : z = u) (hnz : nz = n) (h1 : 1 ≤ n) (h8 : n ≤ 8) (hv : u < 256 ^ n) (hv2 : u < 4611686018427387904) (hlim : xs.length ≤ 1073741824) :
    Calls Tryd.prog 90 #[v, .int .i64 z, .int .i64 nz] W fun e w' => ∃ v', e = .returned v' ∧ SP n0 w0 (xs ++ beL n u) v' w' ∧ KeptT W w' := by
  obtain ⟨A, c, rfl⟩ := h.form
  obtain ⟨i0, hi, hz0, hz1, hz2⟩ := info_parts info5
  have HS := Lib.hid h
  have HZ := Lib.hid hz; have HNZ := Lib.hid hnz
  clear h hz hnz
  go_enter Tryd.func90, Tryd.ntmps90
  go_wp2_with (first
    | (go_at_call 54; refine (putNumber_calls _ n u _ _ HZ.out HNZ.out h1 h8 hv hv2).mono ?_; rintro e w1 ⟨B, rfl, hB, hb, hE⟩; have H1 := Lib.hid (HS.out.ext hE); have HB := Lib.hid hb; clear hb)
    | (at_builtin; go_loud (refine wpList_append_own_at _ rfl _ _ 22 rfl n0 5 i0 (.int .u8 0) 1 1 Tryd.underlying22 hi hz0 hz1 hz2 rfl (by decide) (.slice A xs.length c) xs.length (xs.map (.int .u8)) rfl H1.out.own ⟨B, 0, none⟩ n n ((beL n u).map (.int .u8)) rfl (by simp [beL_length]) (sl_all HB.out.sl) (ints_cells1 _) (by unfold maxLen; omega) (by omega) H1.out.le ?_; intro v' w' hown hgrow hnil hat; obtain ⟨A', c', rfl⟩ := ownsRow_form hown; have HR := Lib.hid (H1.out.grown (beL_wf n u) (by rw [beL_length]; exact hown) hgrow); clear hown hgrow hnil hat)))
  go_ret
  exact ⟨_, rfl, HR.out.1, (KeptT.ext hE).trans HR.out.2⟩
end Go.Proofs.YtghgjddiheebeaaDoor
/- EncodeRecord, the specification's: a slot put behind bytes. -/
namespace Go.Proofs.YtghgjddiheebeaaDoor
open Go.RowKit Go.Shelf
set_option linter.unusedSimpArgs false
set_option linter.unusedVariables false
theorem step_append_own {P : Program} {ops : Array Oper} {o : Oper} {a : Act} {w : World} {K : Act → World → Prop} {Q : Exit → Act → World → Prop} {E : Prop} (hgd : o.guard = none) (s x : Operand) (t : TypeId)
    (ho : o.op = .call { callee := .builtin .append, args := #[s, x], argTypes := #[t, t] })
    (base : Nat) (e : TypeId) (i : TypeInfo) (z : Value) (size bytes : Nat) (ht : P.underlying t = some (.slice e)) (hi : P.info? e = some i) (hz : i.zero = some z)
    (hsize : i.size = size) (hby : i.bytes = bytes) (hzs : z.cells.size = size) (hsz : 0 < size)
    (v : Value) (n : Nat) (xs : List Value) (hs : a.eval s = v) (hown : w.ownsRow base e size v n xs)
    (ad : Addr) (m c : Nat) (news : List Value) (hx : a.eval x = .slice (some ad) m c) (hl : news.length = m * size) (hnews : ∀ j u, news[j]? = some u → w.cell? (ad.add j) = some u) (h1 : ∀ u ∈ news, u.oneCell' = true)
    (h63 : n + m ≤ maxLen) (hbytes : (n + m) * bytes ≤ 140737488355328) (hbase : base ≤ w.heap.size)
    (h : ∀ v' w', w'.ownsRow base e size v' (n + m) (xs ++ news) → w.grownBy w' v.ownBlock → (v' = .slice none 0 0 ↔ v = .slice none 0 0 ∧ m = 0) → (v'.ownBlock = v.ownBlock ∨ v'.ownBlock = some w.heap.size) → K (a.put o.dst v') w') :
    if Region.wanted o (yielded ops a.tmps) = true then Oper.wp P o a w K Q else E := by
  have hw : Region.wanted o (yielded ops a.tmps) = true := by simp [Region.wanted, hgd]
  rw [if_pos hw]
  obtain ⟨v', w', hr, h2, h3, h4, h5⟩ := run_append_own_at (P := P) w base t o.type e i z size bytes ht hi hz hsize hby hzs hsz v n xs hown ad m c news hl hnews h1 h63 hbytes hbase
  unfold Oper.wp execOp
  simp only [ho, resolve, invoke, builtin, Sem.run_bind, Sem.run_pure, Result.andThen_ok, List.map_toArray, List.map_cons, List.map_nil, hs, hx, hr]
  exact h v' w' h2 h3 h4 h5
theorem sl_ad {w : World} {ad : Addr} {c : Nat} {xs : List Int} {F : List Nat} (h : (Rep.int .u8).sl w (some ad) c xs F) : ∀ j u, (xs.map (Value.int .u8))[j]? = some u → w.cell? (ad.add j) = some u := by
  by_cases hx : xs = []
  · subst hx; exact fun j u hu => by simp at hu
  · obtain ⟨g, off, e, hg, hc⟩ := sl_ints h hx
    injection e with e
    subst e
    exact hc
theorem run_append_zero {P : Program} {w : World} (base : Nat) (t ty e : TypeId) (i : TypeInfo) (size : Nat) (ht : P.underlying t = some (.slice e)) (hi : P.info? e = some i)
    (v : Value) (n : Nat) (xs : List Value) (hown : w.ownsRow base e size v n xs) (c : Nat) : (Builtin.append_ #[t, t] ty #[v, .slice none 0 c]).run P w = .ok v w := by
  rcases hown.2 with ⟨rfl, rfl⟩ | ⟨g, cap, cur, rfl, _, _, hnc, _⟩
  · simp [Builtin.append_, run_underlying ht, sizeOf, typeInfo, hi, Builtin.lenOf, Builtin.firstCells]
  · simp [Builtin.append_, run_underlying ht, sizeOf, typeInfo, hi, Builtin.lenOf, Builtin.firstCells, hnc, storeCells]
/-- append of a row of bytes to the own row: what the builtin answers. -/
theorem SP.run {n0 : Nat} {w0 W : World} {xs : List Int} {v : Value} (h : SP n0 w0 xs v W) (ty : TypeId) (A : Option Addr) (c : Nat) (bs : List Int) (G : List Nat) (hs : (Rep.int .u8).sl W A c bs G) (hlim : xs.length + bs.length ≤ 1073741824) :
    ∃ v' W', (Builtin.append_ #[22, 22] ty #[v, .slice A bs.length c]).run Tryd.prog W = .ok v' W' ∧ SP n0 w0 (xs ++ bs) v' W' ∧ KeptT W W' := by
  obtain ⟨i0, hi, hz0, hz1, hz2⟩ := info_parts info5
  rcases A with _ | ad
  · obtain rfl : bs = [] := by
      rcases hs.2.2 with ⟨e, _⟩ | ⟨_, _, _, _, e, _⟩
      · exact e
      · cases e
    exact ⟨v, W, run_append_zero n0 _ _ 5 i0 1 Tryd.underlying22 hi v _ _ h.own c, by rw [List.append_nil]; exact h, fun _ _ _ _ h1 _ => h1⟩
  · obtain ⟨v', w', hr, h2, h3, -, -⟩ := run_append_own_at (P := Tryd.prog) W n0 22 ty 5 i0 (.int .u8 0) 1 1 Tryd.underlying22 hi hz0 hz1 hz2 rfl (by decide) v xs.length (xs.map (.int .u8)) h.own ad bs.length c (bs.map (.int .u8)) (by simp) (sl_ad hs) (ints_cells1 _) (by unfold maxLen; omega) (by omega) h.le
    exact ⟨v', w', hr, h.grown (sl_wf hs) h2 h3⟩
theorem SP.step {n0 : Nat} {w0 w : World} {xs : List Int} {v : Value} (h : SP n0 w0 xs v w) {ops : Array Oper} {o : Oper} {a : Act} {K : Act → World → Prop} {Q : Exit → Act → World → Prop} {E : Prop} (hgd : o.guard = none) (s x : Operand)
    (ho : o.op = .call { callee := .builtin .append, args := #[s, x], argTypes := #[22, 22] }) (hs : a.eval s = v) (A : Option Addr) (c n : Nat) (bs : List Int) (G : List Nat) (hn : n = bs.length) (hx : a.eval x = .slice A n c) (hsl : (Rep.int .u8).sl w A c bs G) (hlim : xs.length + bs.length ≤ 1073741824)
    (hk : ∀ v' w', SP n0 w0 (xs ++ bs) v' w' → KeptT w w' → K (a.put o.dst v') w') : if Region.wanted o (yielded ops a.tmps) = true then Oper.wp Tryd.prog o a w K Q else E := by
  have hw : Region.wanted o (yielded ops a.tmps) = true := by simp [Region.wanted, hgd]
  subst hn
  rw [if_pos hw]
  obtain ⟨v', w', hr, h2, h3⟩ := h.run o.type A c bs G hsl hlim
  unfold Oper.wp execOp
  simp only [ho, resolve, invoke, builtin, Sem.run_bind, Sem.run_pure, Result.andThen_ok, List.map_toArray, List.map_cons, List.map_nil, hs, hx, hr]
  exact hk v' w' h2 h3
theorem SP.list {n0 : Nat} {w0 w : World} {xs : List Int} {v : Value} (h : SP n0 w0 xs v w) {ops : Array Oper} {rest : List Oper} {o : Oper} {a : Act} {Q : Exit → Act → World → Prop} (hgd : o.guard = none) (s x : Operand)
    (ho : o.op = .call { callee := .builtin .append, args := #[s, x], argTypes := #[22, 22] }) (hs : a.eval s = v) (A : Option Addr) (c n : Nat) (bs : List Int) (G : List Nat) (hn : n = bs.length) (hx : a.eval x = .slice A n c) (hsl : (Rep.int .u8).sl w A c bs G) (hlim : xs.length + bs.length ≤ 1073741824)
    (hk : ∀ v' w', SP n0 w0 (xs ++ bs) v' w' → KeptT w w' → wpList Tryd.prog ops Q rest (a.put o.dst v') w') : wpList Tryd.prog ops Q (o :: rest) a w := by
  refine wpList_plain hgd fun K hK => ?_
  subst hn
  obtain ⟨v', w', hr, h2, h3⟩ := h.run o.type A c bs G hsl hlim
  unfold Oper.wp execOp
  simp only [ho, resolve, invoke, builtin, Sem.run_bind, Sem.run_pure, Result.andThen_ok, List.map_toArray, List.map_cons, List.map_nil, hs, hx, hr]
  exact hK _ _ (hk v' w' h2 h3)
/-- A byte laid anew reads as a list of one. -/
theorem one_sl (w : World) (z : Int) (hz : (Lit.int .u8 z).wf = true) (k : Nat) (hk : k = w.heap.size) : (Rep.int .u8).sl (w.alloc (.cells #[.int .u8 z] 5)) (some ⟨k, 0, none⟩) 1 [z] [k] := by
  subst hk
  refine ⟨Nat.le_refl 1, by decide, .inr ⟨w.heap.size, 0, [], [.int .u8 z], rfl, rfl, by simp, cells_ints [z] (by simpa using hz), fun j u hu => ?_⟩⟩
  rw [Nat.zero_add, cell_of_row _ _ _ _ _ _ (heap_alloc_new w _)]
  simpa using hu
set_option maxRecDepth 100000 in
set_option maxHeartbeats 4000000 in
theorem SP.slot {n0 : Nat} {w0 W : World} {xs : List Int} {v : Value} (h : SP n0 w0 xs v W) (u : Bool) (A : Option Addr) (c : Nat) (bs : List Int) (G : List Nat) (hs : (Rep.int .u8).sl w0 A c bs G) (hG : ∀ g ∈ G, g < n0) (hb : bs.length ≤ 1000) (hlim : xs.length ≤ 536870912) :
    Calls Tryd.prog 91 #[v, .agg #[.bool u, .slice A bs.length c]] W fun e w' => ∃ v', e = .returned v' ∧ SP n0 w0 (xs ++ slotB u bs) v' w' ∧ KeptT W w' := by
  have hu := Tryd.underlying33
  obtain ⟨A0, c0, rfl⟩ := h.form
  have HSL := Lib.hid hs; have HG := Lib.hid hG
  have HB0 := Lib.hid (heap_alloc_new W (.cells #[.bool u, .slice A bs.length c] 33))
  have HS1 := Lib.hid (h.ext (alloc_ext W (.cells #[.bool u, .slice A bs.length c] 33)))
  have HK1 := Lib.hid (KeptT.ext (alloc_ext W (.cells #[.bool u, .slice A bs.length c] 33)))
  clear h hs hG
  cases u
  · have HS2 := Lib.hid (HS1.out.ext (alloc_ext _ (.cells #[.int .u8 0] 5)))
    have HK2 := Lib.hid (HK1.out.trans (KeptT.ext (alloc_ext _ (.cells #[.int .u8 0] 5))))
    go_enter Tryd.func91, Tryd.ntmps91
    go_wp2_with (at_builtin; refine HS2.out.list rfl _ _ rfl rfl _ 1 1 [0] _ rfl rfl (one_sl _ 0 rfl _ (by simp)) (by simp; omega) ?_; intro v' w' h' k'; obtain ⟨A', c', rfl⟩ := h'.form; have HR := Lib.hid h'; have HK := Lib.hid k'; clear h' k')
    go_ret
    refine ⟨_, rfl, ?_, HK2.out.trans HK.out⟩
    have := HR.out
    simpa [slotB, beL] using this
  · have HS2 := Lib.hid ((HS1.out.ext (alloc_ext _ (.cells #[.int .u8 1] 5))).ext (Only.refl [] _).drew)
    have HB1 := Lib.hid ((alloc_ext (W.alloc (.cells #[.bool true, .slice A bs.length c] 33)) (.cells #[.int .u8 1] 5)).heap HB0.out (by simp))
    have b0 := fun o => cell_of_row _ _ o _ _ _ HB0.out
    have b1 := fun o => cell_of_row _ _ o _ _ _ HB1.out
    go_enter Tryd.func91, Tryd.ntmps91
    go_wp2_with fail
    go_region_held3 (fun w' => w'.cell? ⟨W.heap.size, 1, none⟩ = some (.slice A bs.length c)) (first | exact b0 1 | exact b1 1 | exact b2 1 | exact b3 1 | exact b4 1) (first
      | (refine HS2.out.step rfl _ _ rfl rfl _ 1 1 [1] _ rfl rfl (Rep.sl_ext (one_sl _ 1 rfl _ (by simp)) (Only.refl [] _).drew) (by simp only [List.length_cons, List.length_nil]; omega) ?_; intro v2 w2 h2 k2; obtain ⟨L2, hL2⟩ : ∃ L, xs ++ [1] = L := ⟨_, rfl⟩; rw [hL2] at h2; have hl2 := congrArg List.length hL2; simp only [List.length_append, List.length_cons, List.length_nil] at hl2; have HL2 := Lib.hid hL2; have Hl2 := Lib.hid hl2; clear hL2 hl2; obtain ⟨A2, c2, rfl⟩ := h2.form; have HR2 := Lib.hid h2; have HK2 := Lib.hid k2; have HB2 := Lib.hid (k2 _ _ _ _ HB1.out (by decide)); have b2 := fun o => cell_of_row _ _ o _ _ _ HB2.out)
      | (go_at_call 90; refine (HR2.out.put 2 bs.length _ _ rfl rfl (by decide) (by decide) (by omega) (by omega) (by have := Hl2.out; omega)).mono ?_; rintro e w3 ⟨v3, rfl, h3, k3⟩; obtain ⟨L3, hL3⟩ : ∃ L, L2 ++ beL 2 bs.length = L := ⟨_, rfl⟩; rw [hL3] at h3; have hl3 := congrArg List.length hL3; simp only [List.length_append, beL_length] at hl3; have HL3 := Lib.hid hL3; have Hl3 := Lib.hid hl3; clear hL3 hl3; obtain ⟨A3, c3, rfl⟩ := h3.form; have HR3 := Lib.hid h3; have HSL3 := Lib.hid (show (Rep.int .u8).sl w3 A c bs G from Rep.sl_keep HSL.out (fun g hg => h3.below.block g (HG.out g hg))); have HB3 := Lib.hid (k3 _ _ _ _ HB2.out (by decide)); have b3 := fun o => cell_of_row _ _ o _ _ _ HB3.out; have HK3 := Lib.hid (HK2.out.trans k3))
      | (refine HR3.out.step rfl _ _ rfl rfl A c bs.length bs G rfl rfl HSL3.out (by have := Hl3.out; have := Hl2.out; omega) ?_; intro v4 w4 h4 k4; obtain ⟨A4, c4, rfl⟩ := h4.form; have HR4 := Lib.hid h4; have HK4 := Lib.hid (HK3.out.trans k4); have b4 := fun o => cell_of_row _ _ o _ _ _ (k4 _ _ _ _ HB3.out (by decide))))
    go_wp2
    go_ret
    refine ⟨_, rfl, ?_, ?_⟩
    · have e : L3 ++ bs = xs ++ slotB true bs := by rw [← HL3.out, ← HL2.out]; simp [slotB, List.append_assoc, beL]
      rw [← e]
      simpa using HR4.out
    · exact (HK1.out.trans (KeptT.ext (alloc_ext _ _))).trans HK4.out
end Go.Proofs.YtghgjddiheebeaaDoor
/- EncodeRecord, the program's: the state of its walk, and how each write changes it. -/
namespace Go.Proofs.YtghgjddiheebeaaDoor
open Go.RowKit Go.Shelf
set_option linter.unusedSimpArgs false
set_option linter.unusedVariables false
/-- The writer (block B) holds xs; below it all is as in w0; the blocks of O (from B on, rows of other kinds) as in w1. -/
structure ES (B : Nat) (w0 : World) (xs : List Int) (W : World) : Prop where
  buf : WB B B xs W
  below : Below B w0 W
theorem ES.start (w0 : World) : ES w0.heap.size w0 [] (w0.alloc (.cells #[.slice none 0 0, .int .i64 0, .int .i8 0] 112)) :=
  ⟨LibA.zero_isBuffer (Nat.le_refl _) (LibA.three_whole (heap_alloc_new w0 _)), (Below.refl _ _).alloc (Nat.le_refl _) _⟩
theorem ES.row {B : Nat} {w0 W : World} {xs : List Int} (h : ES B w0 xs W) {n : Nat} {o : Obj} (hb : w0.heap[n]? = some o) (hn : n < B) : W.heap[n]? = some o := (h.below.block n hn).trans hb
theorem ES.le {B : Nat} {w0 W : World} {xs : List Int} (h : ES B w0 xs W) : B ≤ W.heap.size := Nat.le_of_lt h.buf.lt
theorem ES.ext {B : Nat} {w0 W W' : World} {xs : List Int} (h : ES B w0 xs W) (k : Ext W W') : ES B w0 xs W' :=
  ⟨h.buf.ext k, h.below.trans (WK.ext (b := B) k h.le).below⟩
theorem ES.num {B : Nat} {w0 W : World} {xs : List Int} (h : ES B w0 xs W) (n v : Nat) (z nz : Int) (hz : z = v) (hnz : nz = n) (hn : n = 1 ∨ n = 2 ∨ n = 4 ∨ n = 8) (hv : v < 256 ^ n) (hv2 : v < 4611686018427387904) (hlim : xs.length ≤ 1073741824) :
    Calls Tryd.prog 92 #[.pointer (some ⟨B, 0, none⟩), .int .i64 z, .int .i64 nz] W fun e w' => e = .returned (.tuple #[]) ∧ ES B w0 (xs ++ beL n v) w' ∧ WK B B W w' :=
  (h.buf.num n v z nz hz hnz hn hv hv2 hlim).mono (fun e w' ⟨h1, h2, h3⟩ => ⟨h1, ⟨h2, h.below.trans h3.below⟩, h3⟩)
theorem ES.slot {B : Nat} {w0 W : World} {xs : List Int} (h : ES B w0 xs W) (u : Bool) (A : Option Addr) (c : Nat) (bs : List Int) (G : List Nat) (hs : (Rep.int .u8).sl w0 A c bs G) (hG : ∀ g ∈ G, g < B) (hb : bs.length ≤ 1000) (hlim : xs.length ≤ 536870912) :
    Calls Tryd.prog 93 #[.pointer (some ⟨B, 0, none⟩), .agg #[.bool u, .slice A bs.length c]] W fun e w' => e = .returned (.tuple #[]) ∧ ES B w0 (xs ++ slotB u bs) w' ∧ WK B B W w' :=
  (h.buf.slot u A c bs G (Rep.sl_keep hs (fun g hg => h.below.block g (hG g hg))) hG hb hlim).mono (fun e w' ⟨h1, h2, h3⟩ => ⟨h1, ⟨h2, h.below.trans h3.below⟩, h3⟩)
theorem ES.write {B : Nat} {w0 W : World} {xs : List Int} (h : ES B w0 xs W) (A : Option Addr) (c : Nat) (bs : List Int) (G : List Nat) (hs : (Rep.int .u8).sl w0 A c bs G) (hG : ∀ g ∈ G, g < B) (hlim : xs.length + bs.length ≤ 140737488355328) :
    Calls Tryd.prog 94 #[.pointer (some ⟨B, 0, none⟩), .slice A bs.length c] W fun e w' => e = .returned (.tuple #[.int .i64 bs.length, .nilIface]) ∧ ES B w0 (xs ++ bs) w' ∧ WK B B W w' :=
  (h.buf.writeV A c bs G (Rep.sl_keep hs (fun g hg => h.below.block g (hG g hg))) (fun g hg => by have := hG g hg; omega) hlim).mono (fun e w' ⟨h1, h2, h3⟩ => ⟨h1, ⟨h2, h.below.trans h3.below⟩, h3⟩)
theorem ES.bytes {B : Nat} {w0 W : World} {xs : List Int} (h : ES B w0 xs W) (hB : B = w0.heap.size) (hx : 0 < xs.length) (hby : ∀ x ∈ xs, (Lit.int .u8 x).wf = true) :
    Calls Tryd.prog 95 #[.pointer (some ⟨B, 0, none⟩)] W (NewPost (Rep.int .u8).slice xs w0) := by
  refine (h.buf.bytes hx).mono ?_
  rintro e w' ⟨g, c, cur, rfl, hg, hb, hc, hcm, hcs, ht, hE⟩
  have hb' := hE.heap hb (by simp)
  refine ⟨_, [g], rfl, Rep.slice_mk ⟨hc, hcm, .inr ⟨g, 0, [], xs.map (.int .u8), rfl, rfl, (Array.getElem?_eq_some_iff.1 hb').1, cells_ints xs hby, fun j u hu => ?_⟩⟩, ⟨?_, by simp; omega, by simp, ?_⟩⟩
  · rw [Nat.zero_add, cell_of_row _ _ _ _ _ _ hb', ← Array.getElem?_toList]
    have : (cur.toList.take xs.length)[j]? = some u := by rw [ht]; exact hu
    rw [List.getElem?_take] at this
    split at this
    · exact this
    · cases this
  · subst hB
    exact Only.of_below (h.below.trans (Only.below hE |>.mono h.le))
  · intro k hk j
    simp at hk
    subst hk
    exact frozen_of_row _ _ _ _ _ hb'
end Go.Proofs.YtghgjddiheebeaaDoor
/- EncodeRecord, the program's: kinds without a body; images. -/
namespace Go.Proofs.YtghgjddiheebeaaDoor
open Go.RowKit Go.Shelf
set_option linter.unusedSimpArgs false
set_option linter.unusedVariables false

theorem slotB_len (u : Bool) (bs : List Int) : (slotB u bs).length = if u then 3 + bs.length else 1 := by
  cases u <;> simp [slotB, beL_length]; omega
theorem slotB_wf (u : Bool) (bs : List Int) (h : ∀ z ∈ bs, (Lit.int .u8 z).wf = true) : ∀ z ∈ slotB u bs, (Lit.int .u8 z).wf = true := by
  intro z hz
  cases u
  · exact beL_wf _ _ z hz
  · simp only [slotB, if_true, List.mem_append] at hz
    rcases hz with hz | hz | hz
    · exact beL_wf _ _ z hz
    · exact beL_wf _ _ z hz
    · exact h z hz
theorem encR_wf (x : DLogRecord) (h1 : ∀ z ∈ x.Before.Data, (Lit.int .u8 z).wf = true) (h2 : ∀ z ∈ x.After.Data, (Lit.int .u8 z).wf = true) (h3 : ∀ z ∈ x.Image, (Lit.int .u8 z).wf = true) : ∀ z ∈ encR x, (Lit.int .u8 z).wf = true := by
  intro z hz
  have hs1 := slotB_wf x.Before.Used _ h1
  have hs2 := slotB_wf x.After.Used _ h2
  simp only [encR, encBody] at hz
  repeat' split at hz
  all_goals
    simp only [List.mem_append, List.mem_flatMap, encT, encD, List.not_mem_nil, or_false] at hz
    grind [beL_wf]

set_option maxRecDepth 100000 in
set_option maxHeartbeats 8000000 in
theorem implEnc_plain (w : World) (k t pv pg sl : Int) (u1 : Bool) (A1 : Option Addr) (c1 : Nat) (d1 : List Int) (F1 : List Nat) (u2 : Bool) (A2 : Option Addr) (c2 : Nat) (d2 : List Int) (F2 : List Nat) (un nt : Int) (A3 : Option Addr) (c3 : Nat) (ts : List DTxnEntry) (F3 : List Nat) (A4 : Option Addr) (c4 : Nat) (ds : List DDirtyEntry) (F4 : List Nat) (A5 : Option Addr) (c5 : Nat) (im : List Int) (F5 : List Nat) (s1 : (Rep.int .u8).sl w A1 c1 d1 F1) (s2 : (Rep.int .u8).sl w A2 c2 d2 F2) (s3 : Rep.TxnEntry.sl w A3 c3 ts F3) (s4 : Rep.DirtyEntry.sl w A4 c4 ds F4) (s5 : (Rep.int .u8).sl w A5 c5 im F5) (hk : 3 ≤ k ∧ k ≤ 6)
    (ok : RecOk ⟨k, t, pv, pg, sl, ⟨u1, d1⟩, ⟨u2, d2⟩, un, nt, ts, ds, im⟩) (HC : Hid (∀ W, Ext w W → Calls Tryd.prog 29 #[.agg #[.int .i64 k, .int .i64 t, .int .i64 pv, .int .i64 pg, .int .i64 sl, .bool u1, .slice A1 d1.length c1, .bool u2, .slice A2 d2.length c2, .int .i64 un, .int .i64 nt, .slice A3 ts.length c3, .slice A4 ds.length c4, .slice A5 im.length c5]] W fun e w' => e = .returned (.int .i64 0) ∧ Ext W w')) :
    Calls Tryd.prog 38 #[.agg #[.int .i64 k, .int .i64 t, .int .i64 pv, .int .i64 pg, .int .i64 sl, .bool u1, .slice A1 d1.length c1, .bool u2, .slice A2 d2.length c2, .int .i64 un, .int .i64 nt, .slice A3 ts.length c3, .slice A4 ds.length c4, .slice A5 im.length c5]] w (NewPost (Rep.int .u8).slice (encR ⟨k, t, pv, pg, sl, ⟨u1, d1⟩, ⟨u2, d2⟩, un, nt, ts, ds, im⟩) w) := by
  have hu := Tryd.underlying49
  have hWF := Lib.hid (encR_wf ⟨k, t, pv, pg, sl, ⟨u1, d1⟩, ⟨u2, d2⟩, un, nt, ts, ds, im⟩ (sl_wf s1) (sl_wf s2) (sl_wf s5))
  obtain ⟨ok0, ok1, ok2, ok3, ok4, ok5, ok6, ok7, ok8, ok9⟩ := ok
  dsimp only at ok0 ok1 ok2 ok3 ok4 ok5 ok6 ok7 ok8 ok9
  have k1 : ¬ k = 1 := by omega
  have k2 : ¬ k = 2 := by omega
  have k7 : ¬ k = 7 := by omega
  have k8 : ¬ k = 8 := by omega
  have encE := Lib.hid (show [] ++ beL 1 k.toNat ++ beL 4 t.toNat ++ beL 8 pv.toNat = encR ⟨k, t, pv, pg, sl, ⟨u1, d1⟩, ⟨u2, d2⟩, un, nt, ts, ds, im⟩ by simp [encR, encBody, List.append_assoc, k1, k2, k7, k8])
  have HE0 := Lib.hid (alloc_ext w (.cells #[.int .i64 k, .int .i64 t, .int .i64 pv, .int .i64 pg, .int .i64 sl, .bool u1, .slice A1 d1.length c1, .bool u2, .slice A2 d2.length c2, .int .i64 un, .int .i64 nt, .slice A3 ts.length c3, .slice A4 ds.length c4, .slice A5 im.length c5] 49))
  have HB0 := Lib.hid (heap_alloc_new w (.cells #[.int .i64 k, .int .i64 t, .int .i64 pv, .int .i64 pg, .int .i64 sl, .bool u1, .slice A1 d1.length c1, .bool u2, .slice A2 d2.length c2, .int .i64 un, .int .i64 nt, .slice A3 ts.length c3, .slice A4 ds.length c4, .slice A5 im.length c5] 49))
  have S1 := Lib.hid s1; have S2 := Lib.hid s2; have S3 := Lib.hid s3; have S4 := Lib.hid s4; have S5 := Lib.hid s5
  clear s1 s2 s3 s4 s5
  go_enter Tryd.func38, Tryd.ntmps38
  go_wp2_with (first
    | (go_at_call 29; refine (HC.out _ HE0.out).mono ?_; rintro e v1 ⟨rfl, hE⟩; have hb := hE.heap HB0.out (by simp); have m := fun o => cell_of_row _ _ o _ _ _ hb; have n0 := fun o => cell_of_row _ _ o _ _ _ ((alloc_ext v1 (.cells #[.slice none 0 0, .int .i64 0, .int .i8 0] 112)).heap hb (by simp)); have HBX := Lib.hid hb; have hlt := (Array.getElem?_eq_some_iff.1 hb).1; have hlt0 := hlt; have HE1 := Lib.hid (HE0.out.ext hE); have ST0 := Lib.hid (ES.start v1); clear hE hb)
    | (go_at_call 92; refine (ST0.out.num 1 k.toNat _ _ (by omega) rfl (by decide) (by omega) (by omega) (by simp only [List.length_append, List.length_nil, beL_length, slotB_len]; (repeat' split); all_goals omega)).mono ?_; rintro e w1 ⟨rfl, h, -⟩; have n1 := fun o => cell_of_row _ _ o _ _ _ (h.row HBX.out hlt); have ST1 := Lib.hid h; clear h n0; refine Hid.out ?_))
  refine Lib.hid ?_
  go_wp2_with (go_at_call 92; refine (ST1.out.num 4 t.toNat _ _ (by omega) rfl (by decide) (by omega) (by omega) (by simp only [List.length_append, List.length_nil, beL_length, slotB_len]; (repeat' split); all_goals omega)).mono ?_; rintro e w2 ⟨rfl, h, -⟩; have n2 := fun o => cell_of_row _ _ o _ _ _ (h.row HBX.out hlt); have ST2 := Lib.hid h; clear h n1; refine Hid.out ?_)
  refine Lib.hid ?_
  go_wp2_with (go_at_call 92; refine (ST2.out.num 8 pv.toNat _ _ (by omega) rfl (by decide) (by omega) (by omega) (by simp only [List.length_append, List.length_nil, beL_length, slotB_len]; (repeat' split); all_goals omega)).mono ?_; rintro e w3 ⟨rfl, h, -⟩; have n3 := fun o => cell_of_row _ _ o _ _ _ (h.row HBX.out hlt); have ST3 := Lib.hid h; clear h n2; refine Hid.out ?_)
  refine Lib.hid ?_
  go_wp2_with (go_at_call 95; refine (ST3.out.bytes rfl (by first | (rw [encE.out]; exact Nat.lt_of_lt_of_le (by decide) (encR_len _)) | exact Nat.lt_of_lt_of_le (by decide) (encR_len _)) (by first | (rw [encE.out]; exact hWF.out) | exact hWF.out)).mono ?_; rintro e wz ⟨vz, Gz, rfl, hVz, hNz⟩; have HNz := Lib.hid hNz; have HVz := Lib.hid hVz; clear hNz hVz)
  go_ret
  have HVz := HVz.out
  try rw [encE.out] at HVz
  exact ⟨_, Gz, rfl, HVz, HE1.out.ext HNz.out.ext, fun g hg => Nat.le_trans HE1.out.size (HNz.out.new g hg), HNz.out.nodup, HNz.out.unfr⟩
set_option maxRecDepth 100000 in
set_option maxHeartbeats 8000000 in
theorem implEnc_8 (w : World) (t pv pg sl : Int) (u1 : Bool) (A1 : Option Addr) (c1 : Nat) (d1 : List Int) (F1 : List Nat) (u2 : Bool) (A2 : Option Addr) (c2 : Nat) (d2 : List Int) (F2 : List Nat) (un nt : Int) (A3 : Option Addr) (c3 : Nat) (ts : List DTxnEntry) (F3 : List Nat) (A4 : Option Addr) (c4 : Nat) (ds : List DDirtyEntry) (F4 : List Nat) (A5 : Option Addr) (c5 : Nat) (im : List Int) (F5 : List Nat) (s1 : (Rep.int .u8).sl w A1 c1 d1 F1) (s2 : (Rep.int .u8).sl w A2 c2 d2 F2) (s3 : Rep.TxnEntry.sl w A3 c3 ts F3) (s4 : Rep.DirtyEntry.sl w A4 c4 ds F4) (s5 : (Rep.int .u8).sl w A5 c5 im F5) 
    (ok : RecOk ⟨8, t, pv, pg, sl, ⟨u1, d1⟩, ⟨u2, d2⟩, un, nt, ts, ds, im⟩) (HC : Hid (∀ W, Ext w W → Calls Tryd.prog 29 #[.agg #[.int .i64 8, .int .i64 t, .int .i64 pv, .int .i64 pg, .int .i64 sl, .bool u1, .slice A1 d1.length c1, .bool u2, .slice A2 d2.length c2, .int .i64 un, .int .i64 nt, .slice A3 ts.length c3, .slice A4 ds.length c4, .slice A5 im.length c5]] W fun e w' => e = .returned (.int .i64 0) ∧ Ext W w')) :
    Calls Tryd.prog 38 #[.agg #[.int .i64 8, .int .i64 t, .int .i64 pv, .int .i64 pg, .int .i64 sl, .bool u1, .slice A1 d1.length c1, .bool u2, .slice A2 d2.length c2, .int .i64 un, .int .i64 nt, .slice A3 ts.length c3, .slice A4 ds.length c4, .slice A5 im.length c5]] w (NewPost (Rep.int .u8).slice (encR ⟨8, t, pv, pg, sl, ⟨u1, d1⟩, ⟨u2, d2⟩, un, nt, ts, ds, im⟩) w) := by
  have hu := Tryd.underlying49
  have hWF := Lib.hid (encR_wf ⟨8, t, pv, pg, sl, ⟨u1, d1⟩, ⟨u2, d2⟩, un, nt, ts, ds, im⟩ (sl_wf s1) (sl_wf s2) (sl_wf s5))
  obtain ⟨ok0, ok1, ok2, ok3, ok4, ok5, ok6, ok7, ok8, ok9⟩ := ok
  dsimp only at ok0 ok1 ok2 ok3 ok4 ok5 ok6 ok7 ok8 ok9
  have HIL := Lib.hid (fault_zero (ok9 rfl)).1
  have HPF := Lib.hid (ok9 rfl)
  clear ok9
  have encE := Lib.hid (show [] ++ beL 1 8 ++ beL 4 t.toNat ++ beL 8 pv.toNat ++ beL 2 pg.toNat ++ im = encR ⟨8, t, pv, pg, sl, ⟨u1, d1⟩, ⟨u2, d2⟩, un, nt, ts, ds, im⟩ by simp [encR, encBody, List.append_assoc])
  have HE0 := Lib.hid (alloc_ext w (.cells #[.int .i64 8, .int .i64 t, .int .i64 pv, .int .i64 pg, .int .i64 sl, .bool u1, .slice A1 d1.length c1, .bool u2, .slice A2 d2.length c2, .int .i64 un, .int .i64 nt, .slice A3 ts.length c3, .slice A4 ds.length c4, .slice A5 im.length c5] 49))
  have HB0 := Lib.hid (heap_alloc_new w (.cells #[.int .i64 8, .int .i64 t, .int .i64 pv, .int .i64 pg, .int .i64 sl, .bool u1, .slice A1 d1.length c1, .bool u2, .slice A2 d2.length c2, .int .i64 un, .int .i64 nt, .slice A3 ts.length c3, .slice A4 ds.length c4, .slice A5 im.length c5] 49))
  have S1 := Lib.hid s1; have S2 := Lib.hid s2; have S3 := Lib.hid s3; have S4 := Lib.hid s4; have S5 := Lib.hid s5
  clear s1 s2 s3 s4 s5
  go_enter Tryd.func38, Tryd.ntmps38
  go_wp2_with (first
    | (go_at_call 29; refine (HC.out _ HE0.out).mono ?_; rintro e v1 ⟨rfl, hE⟩; have hb := hE.heap HB0.out (by simp); have m := fun o => cell_of_row _ _ o _ _ _ hb; have n0 := fun o => cell_of_row _ _ o _ _ _ ((alloc_ext v1 (.cells #[.slice none 0 0, .int .i64 0, .int .i8 0] 112)).heap hb (by simp)); have HBX := Lib.hid hb; have hlt := (Array.getElem?_eq_some_iff.1 hb).1; have hlt0 := hlt; have HE1 := Lib.hid (HE0.out.ext hE); have ST0 := Lib.hid (ES.start v1); clear hE hb)
    | (go_at_call 92; refine (ST0.out.num 1 8 _ _ (by omega) rfl (by decide) (by omega) (by omega) (by simp only [List.length_append, List.length_nil, beL_length, slotB_len]; (repeat' split); all_goals omega)).mono ?_; rintro e w1 ⟨rfl, h, -⟩; have n1 := fun o => cell_of_row _ _ o _ _ _ (h.row HBX.out hlt); have ST1 := Lib.hid h; clear h n0; refine Hid.out ?_))
  refine Lib.hid ?_
  go_wp2_with (go_at_call 92; refine (ST1.out.num 4 t.toNat _ _ (by omega) rfl (by decide) (by omega) (by omega) (by simp only [List.length_append, List.length_nil, beL_length, slotB_len]; (repeat' split); all_goals omega)).mono ?_; rintro e w2 ⟨rfl, h, -⟩; have n2 := fun o => cell_of_row _ _ o _ _ _ (h.row HBX.out hlt); have ST2 := Lib.hid h; clear h n1; refine Hid.out ?_)
  refine Lib.hid ?_
  go_wp2_with (go_at_call 92; refine (ST2.out.num 8 pv.toNat _ _ (by omega) rfl (by decide) (by omega) (by omega) (by simp only [List.length_append, List.length_nil, beL_length, slotB_len]; (repeat' split); all_goals omega)).mono ?_; rintro e w3 ⟨rfl, h, -⟩; have n3 := fun o => cell_of_row _ _ o _ _ _ (h.row HBX.out hlt); have ST3 := Lib.hid h; clear h n2; refine Hid.out ?_)
  refine Lib.hid ?_
  go_wp2_with (go_at_call 92; refine (ST3.out.num 2 pg.toNat _ _ (by omega) rfl (by decide) (by omega) (by omega) (by simp only [List.length_append, List.length_nil, beL_length, slotB_len]; (repeat' split); all_goals omega)).mono ?_; rintro e w4 ⟨rfl, h, -⟩; have n4 := fun o => cell_of_row _ _ o _ _ _ (h.row HBX.out hlt); have ST4 := Lib.hid h; clear h n3; refine Hid.out ?_)
  refine Lib.hid ?_
  go_wp2_with (go_at_call 94; refine (ST4.out.write A5 c5 im F5 (Rep.sl_ext S5.out HE1.out) (fun g hg => Nat.lt_of_lt_of_le (Rep.sl_lt S5.out g hg) HE1.out.size) (by have := HIL.out; simp only [List.length_append, List.length_nil, beL_length]; omega)).mono ?_; rintro e w5 ⟨rfl, h, -⟩; have n5 := fun o => cell_of_row _ _ o _ _ _ (h.row HBX.out hlt); have ST5 := Lib.hid h; clear h n4; refine Hid.out ?_)
  refine Lib.hid ?_
  go_wp2_with (go_at_call 95; refine (ST5.out.bytes rfl (by first | (rw [encE.out]; exact Nat.lt_of_lt_of_le (by decide) (encR_len _)) | exact Nat.lt_of_lt_of_le (by decide) (encR_len _)) (by first | (rw [encE.out]; exact hWF.out) | exact hWF.out)).mono ?_; rintro e wz ⟨vz, Gz, rfl, hVz, hNz⟩; have HNz := Lib.hid hNz; have HVz := Lib.hid hVz; clear hNz hVz)
  go_ret
  have HVz := HVz.out
  try rw [encE.out] at HVz
  exact ⟨_, Gz, rfl, HVz, HE1.out.ext HNz.out.ext, fun g hg => Nat.le_trans HE1.out.size (HNz.out.new g hg), HNz.out.nodup, HNz.out.unfr⟩
end Go.Proofs.YtghgjddiheebeaaDoor
/- EncodeRecord, the program's: changes. -/
namespace Go.Proofs.YtghgjddiheebeaaDoor
open Go.RowKit Go.Shelf
set_option linter.unusedSimpArgs false
set_option linter.unusedVariables false

set_option maxRecDepth 100000 in
set_option maxHeartbeats 8000000 in
theorem implEnc_1 (w : World) (t pv pg sl : Int) (u1 : Bool) (A1 : Option Addr) (c1 : Nat) (d1 : List Int) (F1 : List Nat) (u2 : Bool) (A2 : Option Addr) (c2 : Nat) (d2 : List Int) (F2 : List Nat) (un nt : Int) (A3 : Option Addr) (c3 : Nat) (ts : List DTxnEntry) (F3 : List Nat) (A4 : Option Addr) (c4 : Nat) (ds : List DDirtyEntry) (F4 : List Nat) (A5 : Option Addr) (c5 : Nat) (im : List Int) (F5 : List Nat) (s1 : (Rep.int .u8).sl w A1 c1 d1 F1) (s2 : (Rep.int .u8).sl w A2 c2 d2 F2) (s3 : Rep.TxnEntry.sl w A3 c3 ts F3) (s4 : Rep.DirtyEntry.sl w A4 c4 ds F4) (s5 : (Rep.int .u8).sl w A5 c5 im F5) 
    (ok : RecOk ⟨1, t, pv, pg, sl, ⟨u1, d1⟩, ⟨u2, d2⟩, un, nt, ts, ds, im⟩) (HC : Hid (∀ W, Ext w W → Calls Tryd.prog 29 #[.agg #[.int .i64 1, .int .i64 t, .int .i64 pv, .int .i64 pg, .int .i64 sl, .bool u1, .slice A1 d1.length c1, .bool u2, .slice A2 d2.length c2, .int .i64 un, .int .i64 nt, .slice A3 ts.length c3, .slice A4 ds.length c4, .slice A5 im.length c5]] W fun e w' => e = .returned (.int .i64 0) ∧ Ext W w')) :
    Calls Tryd.prog 38 #[.agg #[.int .i64 1, .int .i64 t, .int .i64 pv, .int .i64 pg, .int .i64 sl, .bool u1, .slice A1 d1.length c1, .bool u2, .slice A2 d2.length c2, .int .i64 un, .int .i64 nt, .slice A3 ts.length c3, .slice A4 ds.length c4, .slice A5 im.length c5]] w (NewPost (Rep.int .u8).slice (encR ⟨1, t, pv, pg, sl, ⟨u1, d1⟩, ⟨u2, d2⟩, un, nt, ts, ds, im⟩) w) := by
  have hu := Tryd.underlying49
  have hWF := Lib.hid (encR_wf ⟨1, t, pv, pg, sl, ⟨u1, d1⟩, ⟨u2, d2⟩, un, nt, ts, ds, im⟩ (sl_wf s1) (sl_wf s2) (sl_wf s5))
  obtain ⟨ok0, ok1, ok2, ok3, ok4, ok5, ok6, ok7, ok8, ok9⟩ := ok
  dsimp only at ok0 ok1 ok2 ok3 ok4 ok5 ok6 ok7 ok8 ok9
  have hd1 := (ok5 (by decide)).1
  have hd2 := (ok6 (by decide)).1
  clear ok5 ok6 ok7 ok8 ok9
  have encE := Lib.hid (show [] ++ beL 1 1 ++ beL 4 t.toNat ++ beL 8 pv.toNat ++ beL 2 pg.toNat ++ beL 2 sl.toNat ++ slotB u1 d1 ++ slotB u2 d2 = encR ⟨1, t, pv, pg, sl, ⟨u1, d1⟩, ⟨u2, d2⟩, un, nt, ts, ds, im⟩ by simp [encR, encBody, List.append_assoc])
  have HE0 := Lib.hid (alloc_ext w (.cells #[.int .i64 1, .int .i64 t, .int .i64 pv, .int .i64 pg, .int .i64 sl, .bool u1, .slice A1 d1.length c1, .bool u2, .slice A2 d2.length c2, .int .i64 un, .int .i64 nt, .slice A3 ts.length c3, .slice A4 ds.length c4, .slice A5 im.length c5] 49))
  have HB0 := Lib.hid (heap_alloc_new w (.cells #[.int .i64 1, .int .i64 t, .int .i64 pv, .int .i64 pg, .int .i64 sl, .bool u1, .slice A1 d1.length c1, .bool u2, .slice A2 d2.length c2, .int .i64 un, .int .i64 nt, .slice A3 ts.length c3, .slice A4 ds.length c4, .slice A5 im.length c5] 49))
  have S1 := Lib.hid s1; have S2 := Lib.hid s2; have S3 := Lib.hid s3; have S4 := Lib.hid s4; have S5 := Lib.hid s5
  clear s1 s2 s3 s4 s5
  go_enter Tryd.func38, Tryd.ntmps38
  go_wp2_with (first
    | (go_at_call 29; refine (HC.out _ HE0.out).mono ?_; rintro e v1 ⟨rfl, hE⟩; have hb := hE.heap HB0.out (by simp); have m := fun o => cell_of_row _ _ o _ _ _ hb; have n0 := fun o => cell_of_row _ _ o _ _ _ ((alloc_ext v1 (.cells #[.slice none 0 0, .int .i64 0, .int .i8 0] 112)).heap hb (by simp)); have HBX := Lib.hid hb; have hlt := (Array.getElem?_eq_some_iff.1 hb).1; have hlt0 := hlt; have HE1 := Lib.hid (HE0.out.ext hE); have ST0 := Lib.hid (ES.start v1); clear hE hb)
    | (go_at_call 92; refine (ST0.out.num 1 1 _ _ (by omega) rfl (by decide) (by omega) (by omega) (by simp only [List.length_append, List.length_nil, beL_length, slotB_len]; (repeat' split); all_goals omega)).mono ?_; rintro e w1 ⟨rfl, h, -⟩; have n1 := fun o => cell_of_row _ _ o _ _ _ (h.row HBX.out hlt); have ST1 := Lib.hid h; clear h n0; refine Hid.out ?_))
  refine Lib.hid ?_
  go_wp2_with (go_at_call 92; refine (ST1.out.num 4 t.toNat _ _ (by omega) rfl (by decide) (by omega) (by omega) (by simp only [List.length_append, List.length_nil, beL_length, slotB_len]; (repeat' split); all_goals omega)).mono ?_; rintro e w2 ⟨rfl, h, -⟩; have n2 := fun o => cell_of_row _ _ o _ _ _ (h.row HBX.out hlt); have ST2 := Lib.hid h; clear h n1; refine Hid.out ?_)
  refine Lib.hid ?_
  go_wp2_with (go_at_call 92; refine (ST2.out.num 8 pv.toNat _ _ (by omega) rfl (by decide) (by omega) (by omega) (by simp only [List.length_append, List.length_nil, beL_length, slotB_len]; (repeat' split); all_goals omega)).mono ?_; rintro e w3 ⟨rfl, h, -⟩; have n3 := fun o => cell_of_row _ _ o _ _ _ (h.row HBX.out hlt); have ST3 := Lib.hid h; clear h n2; refine Hid.out ?_)
  refine Lib.hid ?_
  go_wp2_with (go_at_call 92; refine (ST3.out.num 2 pg.toNat _ _ (by omega) rfl (by decide) (by omega) (by omega) (by simp only [List.length_append, List.length_nil, beL_length, slotB_len]; (repeat' split); all_goals omega)).mono ?_; rintro e w4 ⟨rfl, h, -⟩; have n4 := fun o => cell_of_row _ _ o _ _ _ (h.row HBX.out hlt); have ST4 := Lib.hid h; clear h n3; refine Hid.out ?_)
  refine Lib.hid ?_
  go_wp2_with (go_at_call 92; refine (ST4.out.num 2 sl.toNat _ _ (by omega) rfl (by decide) (by omega) (by omega) (by simp only [List.length_append, List.length_nil, beL_length, slotB_len]; (repeat' split); all_goals omega)).mono ?_; rintro e w5 ⟨rfl, h, -⟩; have n5 := fun o => cell_of_row _ _ o _ _ _ (h.row HBX.out hlt); have ST5 := Lib.hid h; clear h n4; refine Hid.out ?_)
  refine Lib.hid ?_
  go_wp2_with (go_at_call 93; refine (ST5.out.slot u1 A1 c1 d1 F1 (Rep.sl_ext S1.out HE1.out) (fun g hg => Nat.lt_of_lt_of_le (Rep.sl_lt S1.out g hg) HE1.out.size) (by omega) (by simp only [List.length_append, List.length_nil, beL_length, slotB_len]; (repeat' split); all_goals omega)).mono ?_; rintro e w6 ⟨rfl, h, -⟩; have n6 := fun o => cell_of_row _ _ o _ _ _ (h.row HBX.out hlt); have ST6 := Lib.hid h; clear h n5; refine Hid.out ?_)
  refine Lib.hid ?_
  go_wp2_with (go_at_call 93; refine (ST6.out.slot u2 A2 c2 d2 F2 (Rep.sl_ext S2.out HE1.out) (fun g hg => Nat.lt_of_lt_of_le (Rep.sl_lt S2.out g hg) HE1.out.size) (by omega) (by simp only [List.length_append, List.length_nil, beL_length, slotB_len]; (repeat' split); all_goals omega)).mono ?_; rintro e w7 ⟨rfl, h, -⟩; have n7 := fun o => cell_of_row _ _ o _ _ _ (h.row HBX.out hlt); have ST7 := Lib.hid h; clear h n6; refine Hid.out ?_)
  refine Lib.hid ?_
  go_wp2_with (go_at_call 95; refine (ST7.out.bytes rfl (by first | (rw [encE.out]; exact Nat.lt_of_lt_of_le (by decide) (encR_len _)) | exact Nat.lt_of_lt_of_le (by decide) (encR_len _)) (by first | (rw [encE.out]; exact hWF.out) | exact hWF.out)).mono ?_; rintro e wz ⟨vz, Gz, rfl, hVz, hNz⟩; have HNz := Lib.hid hNz; have HVz := Lib.hid hVz; clear hNz hVz)
  go_ret
  have HVz := HVz.out
  try rw [encE.out] at HVz
  exact ⟨_, Gz, rfl, HVz, HE1.out.ext HNz.out.ext, fun g hg => Nat.le_trans HE1.out.size (HNz.out.new g hg), HNz.out.nodup, HNz.out.unfr⟩
set_option maxRecDepth 100000 in
set_option maxHeartbeats 8000000 in
theorem implEnc_2 (w : World) (t pv pg sl : Int) (u1 : Bool) (A1 : Option Addr) (c1 : Nat) (d1 : List Int) (F1 : List Nat) (u2 : Bool) (A2 : Option Addr) (c2 : Nat) (d2 : List Int) (F2 : List Nat) (un nt : Int) (A3 : Option Addr) (c3 : Nat) (ts : List DTxnEntry) (F3 : List Nat) (A4 : Option Addr) (c4 : Nat) (ds : List DDirtyEntry) (F4 : List Nat) (A5 : Option Addr) (c5 : Nat) (im : List Int) (F5 : List Nat) (s1 : (Rep.int .u8).sl w A1 c1 d1 F1) (s2 : (Rep.int .u8).sl w A2 c2 d2 F2) (s3 : Rep.TxnEntry.sl w A3 c3 ts F3) (s4 : Rep.DirtyEntry.sl w A4 c4 ds F4) (s5 : (Rep.int .u8).sl w A5 c5 im F5) 
    (ok : RecOk ⟨2, t, pv, pg, sl, ⟨u1, d1⟩, ⟨u2, d2⟩, un, nt, ts, ds, im⟩) (HC : Hid (∀ W, Ext w W → Calls Tryd.prog 29 #[.agg #[.int .i64 2, .int .i64 t, .int .i64 pv, .int .i64 pg, .int .i64 sl, .bool u1, .slice A1 d1.length c1, .bool u2, .slice A2 d2.length c2, .int .i64 un, .int .i64 nt, .slice A3 ts.length c3, .slice A4 ds.length c4, .slice A5 im.length c5]] W fun e w' => e = .returned (.int .i64 0) ∧ Ext W w')) :
    Calls Tryd.prog 38 #[.agg #[.int .i64 2, .int .i64 t, .int .i64 pv, .int .i64 pg, .int .i64 sl, .bool u1, .slice A1 d1.length c1, .bool u2, .slice A2 d2.length c2, .int .i64 un, .int .i64 nt, .slice A3 ts.length c3, .slice A4 ds.length c4, .slice A5 im.length c5]] w (NewPost (Rep.int .u8).slice (encR ⟨2, t, pv, pg, sl, ⟨u1, d1⟩, ⟨u2, d2⟩, un, nt, ts, ds, im⟩) w) := by
  have hu := Tryd.underlying49
  have hWF := Lib.hid (encR_wf ⟨2, t, pv, pg, sl, ⟨u1, d1⟩, ⟨u2, d2⟩, un, nt, ts, ds, im⟩ (sl_wf s1) (sl_wf s2) (sl_wf s5))
  obtain ⟨ok0, ok1, ok2, ok3, ok4, ok5, ok6, ok7, ok8, ok9⟩ := ok
  dsimp only at ok0 ok1 ok2 ok3 ok4 ok5 ok6 ok7 ok8 ok9
  have hd2 := (ok6 (by decide)).1
  have hun := ok7 rfl
  clear ok5 ok6 ok7 ok8 ok9
  have encE := Lib.hid (show [] ++ beL 1 2 ++ beL 4 t.toNat ++ beL 8 pv.toNat ++ beL 2 pg.toNat ++ beL 2 sl.toNat ++ slotB u2 d2 ++ beL 8 un.toNat = encR ⟨2, t, pv, pg, sl, ⟨u1, d1⟩, ⟨u2, d2⟩, un, nt, ts, ds, im⟩ by simp [encR, encBody, List.append_assoc])
  have HE0 := Lib.hid (alloc_ext w (.cells #[.int .i64 2, .int .i64 t, .int .i64 pv, .int .i64 pg, .int .i64 sl, .bool u1, .slice A1 d1.length c1, .bool u2, .slice A2 d2.length c2, .int .i64 un, .int .i64 nt, .slice A3 ts.length c3, .slice A4 ds.length c4, .slice A5 im.length c5] 49))
  have HB0 := Lib.hid (heap_alloc_new w (.cells #[.int .i64 2, .int .i64 t, .int .i64 pv, .int .i64 pg, .int .i64 sl, .bool u1, .slice A1 d1.length c1, .bool u2, .slice A2 d2.length c2, .int .i64 un, .int .i64 nt, .slice A3 ts.length c3, .slice A4 ds.length c4, .slice A5 im.length c5] 49))
  have S1 := Lib.hid s1; have S2 := Lib.hid s2; have S3 := Lib.hid s3; have S4 := Lib.hid s4; have S5 := Lib.hid s5
  clear s1 s2 s3 s4 s5
  go_enter Tryd.func38, Tryd.ntmps38
  go_wp2_with (first
    | (go_at_call 29; refine (HC.out _ HE0.out).mono ?_; rintro e v1 ⟨rfl, hE⟩; have hb := hE.heap HB0.out (by simp); have m := fun o => cell_of_row _ _ o _ _ _ hb; have n0 := fun o => cell_of_row _ _ o _ _ _ ((alloc_ext v1 (.cells #[.slice none 0 0, .int .i64 0, .int .i8 0] 112)).heap hb (by simp)); have HBX := Lib.hid hb; have hlt := (Array.getElem?_eq_some_iff.1 hb).1; have hlt0 := hlt; have HE1 := Lib.hid (HE0.out.ext hE); have ST0 := Lib.hid (ES.start v1); clear hE hb)
    | (go_at_call 92; refine (ST0.out.num 1 2 _ _ (by omega) rfl (by decide) (by omega) (by omega) (by simp only [List.length_append, List.length_nil, beL_length, slotB_len]; (repeat' split); all_goals omega)).mono ?_; rintro e w1 ⟨rfl, h, -⟩; have n1 := fun o => cell_of_row _ _ o _ _ _ (h.row HBX.out hlt); have ST1 := Lib.hid h; clear h n0; refine Hid.out ?_))
  refine Lib.hid ?_
  go_wp2_with (go_at_call 92; refine (ST1.out.num 4 t.toNat _ _ (by omega) rfl (by decide) (by omega) (by omega) (by simp only [List.length_append, List.length_nil, beL_length, slotB_len]; (repeat' split); all_goals omega)).mono ?_; rintro e w2 ⟨rfl, h, -⟩; have n2 := fun o => cell_of_row _ _ o _ _ _ (h.row HBX.out hlt); have ST2 := Lib.hid h; clear h n1; refine Hid.out ?_)
  refine Lib.hid ?_
  go_wp2_with (go_at_call 92; refine (ST2.out.num 8 pv.toNat _ _ (by omega) rfl (by decide) (by omega) (by omega) (by simp only [List.length_append, List.length_nil, beL_length, slotB_len]; (repeat' split); all_goals omega)).mono ?_; rintro e w3 ⟨rfl, h, -⟩; have n3 := fun o => cell_of_row _ _ o _ _ _ (h.row HBX.out hlt); have ST3 := Lib.hid h; clear h n2; refine Hid.out ?_)
  refine Lib.hid ?_
  go_wp2_with (go_at_call 92; refine (ST3.out.num 2 pg.toNat _ _ (by omega) rfl (by decide) (by omega) (by omega) (by simp only [List.length_append, List.length_nil, beL_length, slotB_len]; (repeat' split); all_goals omega)).mono ?_; rintro e w4 ⟨rfl, h, -⟩; have n4 := fun o => cell_of_row _ _ o _ _ _ (h.row HBX.out hlt); have ST4 := Lib.hid h; clear h n3; refine Hid.out ?_)
  refine Lib.hid ?_
  go_wp2_with (go_at_call 92; refine (ST4.out.num 2 sl.toNat _ _ (by omega) rfl (by decide) (by omega) (by omega) (by simp only [List.length_append, List.length_nil, beL_length, slotB_len]; (repeat' split); all_goals omega)).mono ?_; rintro e w5 ⟨rfl, h, -⟩; have n5 := fun o => cell_of_row _ _ o _ _ _ (h.row HBX.out hlt); have ST5 := Lib.hid h; clear h n4; refine Hid.out ?_)
  refine Lib.hid ?_
  go_wp2_with (go_at_call 93; refine (ST5.out.slot u2 A2 c2 d2 F2 (Rep.sl_ext S2.out HE1.out) (fun g hg => Nat.lt_of_lt_of_le (Rep.sl_lt S2.out g hg) HE1.out.size) (by omega) (by simp only [List.length_append, List.length_nil, beL_length, slotB_len]; (repeat' split); all_goals omega)).mono ?_; rintro e w6 ⟨rfl, h, -⟩; have n6 := fun o => cell_of_row _ _ o _ _ _ (h.row HBX.out hlt); have ST6 := Lib.hid h; clear h n5; refine Hid.out ?_)
  refine Lib.hid ?_
  go_wp2_with (go_at_call 92; refine (ST6.out.num 8 un.toNat _ _ (by omega) rfl (by decide) (by omega) (by omega) (by simp only [List.length_append, List.length_nil, beL_length, slotB_len]; (repeat' split); all_goals omega)).mono ?_; rintro e w7 ⟨rfl, h, -⟩; have n7 := fun o => cell_of_row _ _ o _ _ _ (h.row HBX.out hlt); have ST7 := Lib.hid h; clear h n6; refine Hid.out ?_)
  refine Lib.hid ?_
  go_wp2_with (go_at_call 95; refine (ST7.out.bytes rfl (by first | (rw [encE.out]; exact Nat.lt_of_lt_of_le (by decide) (encR_len _)) | exact Nat.lt_of_lt_of_le (by decide) (encR_len _)) (by first | (rw [encE.out]; exact hWF.out) | exact hWF.out)).mono ?_; rintro e wz ⟨vz, Gz, rfl, hVz, hNz⟩; have HNz := Lib.hid hNz; have HVz := Lib.hid hVz; clear hNz hVz)
  go_ret
  have HVz := HVz.out
  try rw [encE.out] at HVz
  exact ⟨_, Gz, rfl, HVz, HE1.out.ext HNz.out.ext, fun g hg => Nat.le_trans HE1.out.size (HNz.out.new g hg), HNz.out.nodup, HNz.out.unfr⟩
end Go.Proofs.YtghgjddiheebeaaDoor
/- EncodeRecord, the program's: the tables. -/
namespace Go.Proofs.YtghgjddiheebeaaDoor
open Go.RowKit Go.Shelf
set_option linter.unusedSimpArgs false
set_option linter.unusedVariables false

structure TabOk (nt : Int) (ts : List DTxnEntry) (ds : List DDirtyEntry) : Prop where
  nt : 1 ≤ nt ∧ nt ≤ 2147483648
  lt : ts.length ≤ 8
  ld : ds.length ≤ 16
  t : ∀ x ∈ ts, (0 ≤ x.Txn ∧ x.Txn ≤ 2147483647) ∧ (0 ≤ x.State ∧ x.State ≤ 3) ∧ (0 ≤ x.Last ∧ x.Last ≤ 1099511627776) ∧ 0 ≤ x.UndoNext ∧ x.UndoNext ≤ 1099511627776
  d : ∀ x ∈ ds, (0 ≤ x.Page ∧ x.Page ≤ 15) ∧ 0 ≤ x.RecLSN ∧ x.RecLSN ≤ 1099511627776
theorem any_range {n : Nat} {f : Nat → Bool} (h : (List.range n).any f = false) (k : Nat) (hk : k < n) : f k = false := by
  cases hq : f k with
  | false => rfl
  | true => rw [any_true hk hq] at h; exact h
theorem inR_of {x lo hi : Int} (h : (!inR x lo hi) = false) : lo ≤ x ∧ x ≤ hi := inR_true.1 (by simpa using h)
theorem tabOk {nt : Int} {ts : List DTxnEntry} {ds : List DDirtyEntry} (h : tabBad nt ts ds = false) : TabOk nt ts ds := by
  simp only [tabBad, Bool.or_eq_false_iff, decide_eq_false_iff_not] at h
  obtain ⟨⟨⟨⟨h1, h2⟩, h3⟩, h4⟩, h5⟩ := h
  refine ⟨inR_of h1, by omega, by omega, fun x hx => ?_, fun x hx => ?_⟩
  · obtain ⟨k, hk, rfl⟩ := List.mem_iff_getElem.1 hx
    have := any_range h4 k hk
    rw [tBad_at hk] at this
    simp only [tB, Bool.or_eq_false_iff] at this
    obtain ⟨⟨⟨⟨-, q1⟩, q2⟩, q3⟩, q4⟩ := this
    have q1 := inR_of q1
    have q2 := inR_of q2
    have q3 := inR_of q3
    have q4 := inR_of q4
    omega
  · obtain ⟨k, hk, rfl⟩ := List.mem_iff_getElem.1 hx
    have := any_range h5 k hk
    rw [dBad_at hk] at this
    simp only [dB, Bool.or_eq_false_iff] at this
    obtain ⟨⟨-, q1⟩, q2⟩ := this
    have q1 := inR_of q1
    have q2 := inR_of q2
    omega
theorem flat_take {α : Type} (f : α → List Int) (l : List α) (j : Nat) (h : j < l.length) : (l.take (j + 1)).flatMap f = (l.take j).flatMap f ++ f l[j] := by
  rw [← List.take_append_getElem h, List.flatMap_append, List.flatMap_cons, List.flatMap_nil, List.append_nil]
theorem flat_len {α : Type} (f : α → List Int) (n : Nat) (hf : ∀ x, (f x).length = n) : ∀ l : List α, (l.flatMap f).length = n * l.length
  | [] => by simp
  | x :: l => by rw [List.flatMap_cons, List.length_append, hf, flat_len f n hf l, List.length_cons, Nat.mul_succ]; omega
theorem encT_len (t : DTxnEntry) : (encT t).length = 21 := by simp [encT, beL_length]
theorem encD_len (t : DDirtyEntry) : (encD t).length = 10 := by simp [encD, beL_length]

set_option maxRecDepth 100000 in
set_option maxHeartbeats 8000000 in
theorem implEnc_7 (w : World) (t pv pg sl : Int) (u1 : Bool) (A1 : Option Addr) (c1 : Nat) (d1 : List Int) (F1 : List Nat) (u2 : Bool) (A2 : Option Addr) (c2 : Nat) (d2 : List Int) (F2 : List Nat) (un nt : Int) (A3 : Option Addr) (c3 : Nat) (ts : List DTxnEntry) (F3 : List Nat) (A4 : Option Addr) (c4 : Nat) (ds : List DDirtyEntry) (F4 : List Nat) (A5 : Option Addr) (c5 : Nat) (im : List Int) (F5 : List Nat) (s1 : (Rep.int .u8).sl w A1 c1 d1 F1) (s2 : (Rep.int .u8).sl w A2 c2 d2 F2) (s3 : Rep.TxnEntry.sl w A3 c3 ts F3) (s4 : Rep.DirtyEntry.sl w A4 c4 ds F4) (s5 : (Rep.int .u8).sl w A5 c5 im F5) 
    (ok : RecOk ⟨7, t, pv, pg, sl, ⟨u1, d1⟩, ⟨u2, d2⟩, un, nt, ts, ds, im⟩) (HC : Hid (∀ W, Ext w W → Calls Tryd.prog 29 #[.agg #[.int .i64 7, .int .i64 t, .int .i64 pv, .int .i64 pg, .int .i64 sl, .bool u1, .slice A1 d1.length c1, .bool u2, .slice A2 d2.length c2, .int .i64 un, .int .i64 nt, .slice A3 ts.length c3, .slice A4 ds.length c4, .slice A5 im.length c5]] W fun e w' => e = .returned (.int .i64 0) ∧ Ext W w')) :
    Calls Tryd.prog 38 #[.agg #[.int .i64 7, .int .i64 t, .int .i64 pv, .int .i64 pg, .int .i64 sl, .bool u1, .slice A1 d1.length c1, .bool u2, .slice A2 d2.length c2, .int .i64 un, .int .i64 nt, .slice A3 ts.length c3, .slice A4 ds.length c4, .slice A5 im.length c5]] w (NewPost (Rep.int .u8).slice (encR ⟨7, t, pv, pg, sl, ⟨u1, d1⟩, ⟨u2, d2⟩, un, nt, ts, ds, im⟩) w) := by
  have hu := Tryd.underlying49
  have hWF := Lib.hid (encR_wf ⟨7, t, pv, pg, sl, ⟨u1, d1⟩, ⟨u2, d2⟩, un, nt, ts, ds, im⟩ (sl_wf s1) (sl_wf s2) (sl_wf s5))
  obtain ⟨ok0, ok1, ok2, ok3, ok4, ok5, ok6, ok7, ok8, ok9⟩ := ok
  dsimp only at ok0 ok1 ok2 ok3 ok4 ok5 ok6 ok7 ok8 ok9
  obtain ⟨tk1, tk2, tk3, tk4, tk5⟩ := tabOk (ok8 rfl)
  have HMts := Lib.hid tk4; have HMds := Lib.hid tk5
  have HLts := Lib.hid tk2; have HLds := Lib.hid tk3
  clear ok5 ok6 ok7 ok8 ok9 tk4 tk5
  have encE := Lib.hid (show [] ++ beL 1 7 ++ beL 4 t.toNat ++ beL 8 pv.toNat ++ beL 4 nt.toNat ++ beL 1 ts.length ++ ts.flatMap encT ++ beL 1 ds.length ++ ds.flatMap encD = encR ⟨7, t, pv, pg, sl, ⟨u1, d1⟩, ⟨u2, d2⟩, un, nt, ts, ds, im⟩ by simp [encR, encBody, List.append_assoc])
  have HE0 := Lib.hid (alloc_ext w (.cells #[.int .i64 7, .int .i64 t, .int .i64 pv, .int .i64 pg, .int .i64 sl, .bool u1, .slice A1 d1.length c1, .bool u2, .slice A2 d2.length c2, .int .i64 un, .int .i64 nt, .slice A3 ts.length c3, .slice A4 ds.length c4, .slice A5 im.length c5] 49))
  have HB0 := Lib.hid (heap_alloc_new w (.cells #[.int .i64 7, .int .i64 t, .int .i64 pv, .int .i64 pg, .int .i64 sl, .bool u1, .slice A1 d1.length c1, .bool u2, .slice A2 d2.length c2, .int .i64 un, .int .i64 nt, .slice A3 ts.length c3, .slice A4 ds.length c4, .slice A5 im.length c5] 49))
  have S1 := Lib.hid s1; have S2 := Lib.hid s2; have S3 := Lib.hid s3; have S4 := Lib.hid s4; have S5 := Lib.hid s5
  clear s1 s2 s3 s4 s5
  go_enter Tryd.func38, Tryd.ntmps38
  go_wp2_with (first
    | (go_at_call 29; refine (HC.out _ HE0.out).mono ?_; rintro e v1 ⟨rfl, hE⟩; have hb := hE.heap HB0.out (by simp); have m := fun o => cell_of_row _ _ o _ _ _ hb; have n0 := fun o => cell_of_row _ _ o _ _ _ ((alloc_ext v1 (.cells #[.slice none 0 0, .int .i64 0, .int .i8 0] 112)).heap hb (by simp)); have HBX := Lib.hid hb; have hlt := (Array.getElem?_eq_some_iff.1 hb).1; have hlt0 := hlt; have HE1 := Lib.hid (HE0.out.ext hE); have ST0 := Lib.hid (ES.start v1); clear hE hb)
    | (go_at_call 92; refine (ST0.out.num 1 7 _ _ (by omega) rfl (by decide) (by omega) (by omega) (by simp only [List.length_append, List.length_nil, beL_length, slotB_len]; (repeat' split); all_goals omega)).mono ?_; rintro e w1 ⟨rfl, h, -⟩; have n1 := fun o => cell_of_row _ _ o _ _ _ (h.row HBX.out hlt); have ST1 := Lib.hid h; clear h n0; refine Hid.out ?_))
  refine Lib.hid ?_
  go_wp2_with (go_at_call 92; refine (ST1.out.num 4 t.toNat _ _ (by omega) rfl (by decide) (by omega) (by omega) (by simp only [List.length_append, List.length_nil, beL_length, slotB_len]; (repeat' split); all_goals omega)).mono ?_; rintro e w2 ⟨rfl, h, -⟩; have n2 := fun o => cell_of_row _ _ o _ _ _ (h.row HBX.out hlt); have ST2 := Lib.hid h; clear h n1; refine Hid.out ?_)
  refine Lib.hid ?_
  go_wp2_with (go_at_call 92; refine (ST2.out.num 8 pv.toNat _ _ (by omega) rfl (by decide) (by omega) (by omega) (by simp only [List.length_append, List.length_nil, beL_length, slotB_len]; (repeat' split); all_goals omega)).mono ?_; rintro e w3 ⟨rfl, h, -⟩; have n3 := fun o => cell_of_row _ _ o _ _ _ (h.row HBX.out hlt); have ST3 := Lib.hid h; clear h n2; refine Hid.out ?_)
  refine Lib.hid ?_
  go_wp2_with (go_at_call 92; refine (ST3.out.num 4 nt.toNat _ _ (by omega) rfl (by decide) (by omega) (by omega) (by simp only [List.length_append, List.length_nil, beL_length, slotB_len]; (repeat' split); all_goals omega)).mono ?_; rintro e w4 ⟨rfl, h, -⟩; have n4 := fun o => cell_of_row _ _ o _ _ _ (h.row HBX.out hlt); have ST4 := Lib.hid h; clear h n3; refine Hid.out ?_)
  refine Lib.hid ?_
  go_wp2_with (go_at_call 92; refine (ST4.out.num 1 ts.length _ _ (by omega) rfl (by decide) (by omega) (by omega) (by simp only [List.length_append, List.length_nil, beL_length, slotB_len]; (repeat' split); all_goals omega)).mono ?_; rintro e w5 ⟨rfl, h, -⟩; have n5 := fun o => cell_of_row _ _ o _ _ _ (h.row HBX.out hlt); have ST5 := Lib.hid h; clear h n4; refine Hid.out ?_)
  refine Lib.hid ?_
  obtain ⟨X0, hX0⟩ : ∃ x, [] ++ beL 1 7 ++ beL 4 t.toNat ++ beL 8 pv.toNat ++ beL 4 nt.toNat ++ beL 1 ts.length = x := ⟨_, rfl⟩
  rw [hX0] at ST5 encE
  have HXX0 := Lib.hid (show X0.length = 18 by rw [← hX0]; simp [beL_length])
  clear hX0
  go_wp2_with fail
  go_loopg [58] (ts.length) (fun m i wr => ∃ j : Nat, m + j = ts.length ∧ i = .int .i64 j ∧ ES v1.heap.size v1 (X0 ++ (ts.take j).flatMap encT) wr)
  case atStart => exact ⟨0, by simp, rfl, by simpa using ST5.out⟩
  case round =>
    obtain ⟨j, hj, rfl, hES⟩ := hrel
    have HES := Lib.hid hES; have HJ := Lib.hid hj
    have HLN := Lib.hid (show (X0 ++ (ts.take j).flatMap encT).length ≤ 1000 by rw [List.length_append, flat_len _ _ encT_len, List.length_take]; have := HXX0.out; have := HLts.out; omega)
    clear hES hj
    by_cases hlt : j < ts.length
    · have hmem := HMts.out _ (List.getElem_mem hlt)
      obtain ⟨g, off, rfl, hg, hw, k0, k1, k2, k3⟩ := sl_TxnEntry (Rep.sl_keep (Rep.sl_ext S3.out HE1.out) (fun g hg => HES.out.below.block g (Nat.lt_of_lt_of_le (Rep.sl_lt S3.out g hg) HE1.out.size))) j hlt
      have HF := Lib.hid (flat_take encT ts j hlt)
      obtain ⟨⟨ta, tb, tc, td⟩, hte⟩ : ∃ x, x = ts[j] := ⟨_, rfl⟩
      rw [← hte] at HF hmem k0 k1 k2 k3
      dsimp only at hmem k0 k1 k2 k3
      clear hte hw
      have HTB0 := Lib.hid (heap_alloc_new wr (.cells #[.int .i64 ta, .int .i64 tb, .int .i64 tc, .int .i64 td] 104)); have HEX := Lib.hid (alloc_ext wr (.cells #[.int .i64 ta, .int .i64 tb, .int .i64 tc, .int .i64 td] 104))
      have HT0 := Lib.hid (HES.out.ext HEX.out)
      have HNE := Lib.hid (show some wr.heap.size ≠ some v1.heap.size from fun e => absurd HES.out.buf.lt (by injection e with e; omega))
      have q0 := fun o => cell_of_row _ _ o _ _ _ HTB0.out
      go_wp2_with (go_at_call 92; refine (HT0.out.num 4 ta.toNat _ _ (by omega) rfl (by decide) (by omega) (by omega) (by have := HLN.out; simp only [List.length_append, beL_length] at this ⊢; omega)).mono ?_; rintro e w101 ⟨rfl, h, k⟩; have b := k.kept _ _ HTB0.out HNE.out (by intro c fz; simp); have q1 := fun o => cell_of_row _ _ o _ _ _ b; have HTB1 := Lib.hid b; have HT1 := Lib.hid h; clear h k b q0; refine Hid.out ?_)
      refine Lib.hid ?_
      go_wp2_with (go_at_call 92; refine (HT1.out.num 1 tb.toNat _ _ (by omega) rfl (by decide) (by omega) (by omega) (by have := HLN.out; simp only [List.length_append, beL_length] at this ⊢; omega)).mono ?_; rintro e w102 ⟨rfl, h, k⟩; have b := k.kept _ _ HTB1.out HNE.out (by intro c fz; simp); have q2 := fun o => cell_of_row _ _ o _ _ _ b; have HTB2 := Lib.hid b; have HT2 := Lib.hid h; clear h k b q1; refine Hid.out ?_)
      refine Lib.hid ?_
      go_wp2_with (go_at_call 92; refine (HT2.out.num 8 tc.toNat _ _ (by omega) rfl (by decide) (by omega) (by omega) (by have := HLN.out; simp only [List.length_append, beL_length] at this ⊢; omega)).mono ?_; rintro e w103 ⟨rfl, h, k⟩; have b := k.kept _ _ HTB2.out HNE.out (by intro c fz; simp); have q3 := fun o => cell_of_row _ _ o _ _ _ b; have HTB3 := Lib.hid b; have HT3 := Lib.hid h; clear h k b q2; refine Hid.out ?_)
      refine Lib.hid ?_
      go_wp2_with (go_at_call 92; refine (HT3.out.num 8 td.toNat _ _ (by omega) rfl (by decide) (by omega) (by omega) (by have := HLN.out; simp only [List.length_append, beL_length] at this ⊢; omega)).mono ?_; rintro e w104 ⟨rfl, h, k⟩; have b := k.kept _ _ HTB3.out HNE.out (by intro c fz; simp); have q4 := fun o => cell_of_row _ _ o _ _ _ b; have HTB4 := Lib.hid b; have HT4 := Lib.hid h; clear h k b q3; refine Hid.out ?_)
      refine Lib.hid ?_
      go_wp2
      go_roundg (ts.length - (j + 1))
      case measure => have := HJ.out; omega
      case rel =>
        refine ⟨j + 1, by omega, by go_num, ?_⟩
        rw [HF.out, ← List.append_assoc]
        simpa [encT, List.append_assoc] using HT4.out
    · have hjj : j = ts.length := by have := HJ.out; omega
      subst hjj
      have HES := HES.out
      rw [List.take_length] at HES
      have STn := Lib.hid HES
      clear HES
      have n9 := fun o => cell_of_row _ _ o _ _ _ (STn.out.row HBX.out hlt0)
      have HLX := Lib.hid (show (X0 ++ ts.flatMap encT).length ≤ 1000 by rw [List.length_append, flat_len _ _ encT_len]; have := HXX0.out; have := HLts.out; omega)
      go_wp2_with (go_at_call 92; refine (STn.out.num 1 ds.length _ _ (by omega) rfl (by decide) (by have := HLds.out; omega) (by have := HLds.out; omega) (by have := HLX.out; omega)).mono ?_; rintro e w9 ⟨rfl, h, -⟩; have n10 := fun o => cell_of_row _ _ o _ _ _ (h.row HBX.out hlt0); have STm := Lib.hid h; clear h n9; refine Hid.out ?_)
      refine Lib.hid ?_
      obtain ⟨Y0, hY0⟩ : ∃ x, X0 ++ ts.flatMap encT ++ beL 1 ds.length = x := ⟨_, rfl⟩
      rw [hY0] at STm encE
      have HXY0 := Lib.hid (show Y0.length ≤ 200 by rw [← hY0, List.length_append, beL_length, List.length_append, flat_len _ _ encT_len]; have := HXX0.out; have := HLts.out; omega)
      clear hY0
      go_wp2_with fail
      go_loopg [82] (ds.length) (fun m i wr => ∃ j : Nat, m + j = ds.length ∧ i = .int .i64 j ∧ ES v1.heap.size v1 (Y0 ++ (ds.take j).flatMap encD) wr)
      case atStart => exact ⟨0, by simp, rfl, by simpa using STm.out⟩
      case round =>
        obtain ⟨j, hj, rfl, hES⟩ := hrel
        have HES := Lib.hid hES; have HJ := Lib.hid hj
        have HLN := Lib.hid (show (Y0 ++ (ds.take j).flatMap encD).length ≤ 1000 by rw [List.length_append, flat_len _ _ encD_len, List.length_take]; have := HXY0.out; have := HLds.out; omega)
        clear hES hj
        by_cases hlt : j < ds.length
        · have hmem := HMds.out _ (List.getElem_mem hlt)
          obtain ⟨g, off, rfl, hg, hw, k0, k1⟩ := sl_DirtyEntry (Rep.sl_keep (Rep.sl_ext S4.out HE1.out) (fun g hg => HES.out.below.block g (Nat.lt_of_lt_of_le (Rep.sl_lt S4.out g hg) HE1.out.size))) j hlt
          have HF := Lib.hid (flat_take encD ds j hlt)
          obtain ⟨⟨ta, tb⟩, hte⟩ : ∃ x, x = ds[j] := ⟨_, rfl⟩
          rw [← hte] at HF hmem k0 k1
          dsimp only at hmem k0 k1
          clear hte hw
          have HTB0 := Lib.hid (heap_alloc_new wr (.cells #[.int .i64 ta, .int .i64 tb] 106)); have HEX := Lib.hid (alloc_ext wr (.cells #[.int .i64 ta, .int .i64 tb] 106))
          have HT0 := Lib.hid (HES.out.ext HEX.out)
          have HNE := Lib.hid (show some wr.heap.size ≠ some v1.heap.size from fun e => absurd HES.out.buf.lt (by injection e with e; omega))
          have q0 := fun o => cell_of_row _ _ o _ _ _ HTB0.out
          go_wp2_with (go_at_call 92; refine (HT0.out.num 2 ta.toNat _ _ (by omega) rfl (by decide) (by omega) (by omega) (by have := HLN.out; simp only [List.length_append, beL_length] at this ⊢; omega)).mono ?_; rintro e w101 ⟨rfl, h, k⟩; have b := k.kept _ _ HTB0.out HNE.out (by intro c fz; simp); have q1 := fun o => cell_of_row _ _ o _ _ _ b; have HTB1 := Lib.hid b; have HT1 := Lib.hid h; clear h k b q0; refine Hid.out ?_)
          refine Lib.hid ?_
          go_wp2_with (go_at_call 92; refine (HT1.out.num 8 tb.toNat _ _ (by omega) rfl (by decide) (by omega) (by omega) (by have := HLN.out; simp only [List.length_append, beL_length] at this ⊢; omega)).mono ?_; rintro e w102 ⟨rfl, h, k⟩; have b := k.kept _ _ HTB1.out HNE.out (by intro c fz; simp); have q2 := fun o => cell_of_row _ _ o _ _ _ b; have HTB2 := Lib.hid b; have HT2 := Lib.hid h; clear h k b q1; refine Hid.out ?_)
          refine Lib.hid ?_
          go_wp2
          go_roundg (ds.length - (j + 1))
          case measure => have := HJ.out; omega
          case rel =>
            refine ⟨j + 1, by omega, by go_num, ?_⟩
            rw [HF.out, ← List.append_assoc]
            simpa [encD, List.append_assoc] using HT2.out
        · have hjj : j = ds.length := by have := HJ.out; omega
          subst hjj
          have HES := HES.out
          rw [List.take_length] at HES
          have STn := Lib.hid HES
          clear HES
          rw [encE.out] at STn
          go_wp2_with (go_at_call 95; refine (STn.out.bytes rfl (by first | (rw [encE.out]; exact Nat.lt_of_lt_of_le (by decide) (encR_len _)) | exact Nat.lt_of_lt_of_le (by decide) (encR_len _)) (by first | (rw [encE.out]; exact hWF.out) | exact hWF.out)).mono ?_; rintro e wz ⟨vz, Gz, rfl, hVz, hNz⟩; have HNz := Lib.hid hNz; have HVz := Lib.hid hVz; clear hNz hVz)
          go_ret
          have HVz := HVz.out
          try rw [encE.out] at HVz
          exact ⟨_, Gz, rfl, HVz, HE1.out.ext HNz.out.ext, fun g hg => Nat.le_trans HE1.out.size (HNz.out.new g hg), HNz.out.nodup, HNz.out.unfr⟩
end Go.Proofs.YtghgjddiheebeaaDoor
/- EncodeRecord, the program's. -/
namespace Go.Proofs.YtghgjddiheebeaaDoor
open Go.RowKit Go.Shelf
set_option linter.unusedSimpArgs false
set_option linter.unusedVariables false
set_option maxRecDepth 100000 in
set_option maxHeartbeats 8000000 in
theorem implEncode_bad (w : World) (v : Value) (x : DLogRecord) (F : List Nat) (h : Rep.LogRecord.V w v x F) (hf : recFault x ≠ 0) :
    Calls Tryd.prog 38 #[v] w fun e w' => e = .returned (.slice none 0 0) ∧ Ext w w' := by
  obtain ⟨_, ⟨A1, c1, F1, A2, c2, F2, A3, c3, F3, A4, c4, F4, A5, c5, F5, rfl, rfl, hw, s1, s2, s3, s4, s5⟩, rfl⟩ := h
  show Calls _ _ #[.agg #[_, _, _, _, _, _, _, _, _, _, _, _, _, _]] _ _
  obtain ⟨k, t, pv, pg, sl, ⟨u1, d1⟩, ⟨u2, d2⟩, un, nt, ts, ds, im⟩ := x
  dsimp only at s1 s2 s3 s4 s5 ⊢
  have HC : Hid (∀ W, Ext w W → Calls Tryd.prog 29 #[.agg #[.int .i64 k, .int .i64 t, .int .i64 pv, .int .i64 pg, .int .i64 sl, .bool u1, .slice A1 d1.length c1, .bool u2, .slice A2 d2.length c2, .int .i64 un, .int .i64 nt, .slice A3 ts.length c3, .slice A4 ds.length c4, .slice A5 im.length c5]] W fun e w' => e = .returned (.int .i64 (recFault ⟨k, t, pv, pg, sl, ⟨u1, d1⟩, ⟨u2, d2⟩, un, nt, ts, ds, im⟩)) ∧ Ext W w') := by
    intro W hW
    exact implRecordFault_calls W _ ⟨k, t, pv, pg, sl, ⟨u1, d1⟩, ⟨u2, d2⟩, un, nt, ts, ds, im⟩ _ ⟨_, ⟨A1, c1, F1, A2, c2, F2, A3, c3, F3, A4, c4, F4, A5, c5, F5, rfl, rfl, hw, Rep.sl_ext s1 hW, Rep.sl_ext s2 hW, Rep.sl_ext s3 hW, Rep.sl_ext s4 hW, Rep.sl_ext s5 hW⟩, rfl⟩
  obtain ⟨fz, hfz⟩ : ∃ f, f = recFault ⟨k, t, pv, pg, sl, ⟨u1, d1⟩, ⟨u2, d2⟩, un, nt, ts, ds, im⟩ := ⟨_, rfl⟩
  rw [← hfz] at HC hf
  clear hfz
  have hu := Tryd.underlying49
  have HE0 := Lib.hid (alloc_ext w (.cells #[.int .i64 k, .int .i64 t, .int .i64 pv, .int .i64 pg, .int .i64 sl, .bool u1, .slice A1 d1.length c1, .bool u2, .slice A2 d2.length c2, .int .i64 un, .int .i64 nt, .slice A3 ts.length c3, .slice A4 ds.length c4, .slice A5 im.length c5] 49))
  have hk1 : (fz != 0) = true := bne_iff_ne.2 hf
  clear s1 s2 s3 s4 s5 hw
  go_enter Tryd.func38, Tryd.ntmps38
  go_wp2_with (go_at_call 29; refine (HC.out _ HE0.out).mono ?_; rintro e w5 ⟨rfl, hE⟩)
  go_ret
  exact ⟨rfl, HE0.out.ext hE⟩
set_option maxRecDepth 100000 in
set_option maxHeartbeats 8000000 in
theorem implEncode_new (w : World) (v : Value) (x : DLogRecord) (F : List Nat) (h : Rep.LogRecord.V w v x F) :
    Calls Tryd.prog 38 #[v] w (NewPost (Rep.int .u8).slice (encRec x) w) := by
  obtain ⟨_, ⟨A1, c1, F1, A2, c2, F2, A3, c3, F3, A4, c4, F4, A5, c5, F5, rfl, rfl, hw, s1, s2, s3, s4, s5⟩, rfl⟩ := h
  show Calls _ _ #[.agg #[_, _, _, _, _, _, _, _, _, _, _, _, _, _]] _ _
  obtain ⟨k, t, pv, pg, sl, ⟨u1, d1⟩, ⟨u2, d2⟩, un, nt, ts, ds, im⟩ := x
  dsimp only at s1 s2 s3 s4 s5 ⊢
  have HC : Hid (∀ W, Ext w W → Calls Tryd.prog 29 #[.agg #[.int .i64 k, .int .i64 t, .int .i64 pv, .int .i64 pg, .int .i64 sl, .bool u1, .slice A1 d1.length c1, .bool u2, .slice A2 d2.length c2, .int .i64 un, .int .i64 nt, .slice A3 ts.length c3, .slice A4 ds.length c4, .slice A5 im.length c5]] W fun e w' => e = .returned (.int .i64 (recFault ⟨k, t, pv, pg, sl, ⟨u1, d1⟩, ⟨u2, d2⟩, un, nt, ts, ds, im⟩)) ∧ Ext W w') := by
    intro W hW
    exact implRecordFault_calls W _ ⟨k, t, pv, pg, sl, ⟨u1, d1⟩, ⟨u2, d2⟩, un, nt, ts, ds, im⟩ _ ⟨_, ⟨A1, c1, F1, A2, c2, F2, A3, c3, F3, A4, c4, F4, A5, c5, F5, rfl, rfl, hw, Rep.sl_ext s1 hW, Rep.sl_ext s2 hW, Rep.sl_ext s3 hW, Rep.sl_ext s4 hW, Rep.sl_ext s5 hW⟩, rfl⟩
  by_cases hf : recFault ⟨k, t, pv, pg, sl, ⟨u1, d1⟩, ⟨u2, d2⟩, un, nt, ts, ds, im⟩ = 0
  · rw [show encRec _ = encR _ from if_pos hf]
    rw [hf] at HC
    have ok := recOk hf
    have hk := ok.kind
    dsimp only at hk
    by_cases h1 : k = 1
    · subst h1; exact implEnc_1 w t pv pg sl u1 A1 c1 d1 F1 u2 A2 c2 d2 F2 un nt A3 c3 ts F3 A4 c4 ds F4 A5 c5 im F5 s1 s2 s3 s4 s5 ok HC
    by_cases h2 : k = 2
    · subst h2; exact implEnc_2 w t pv pg sl u1 A1 c1 d1 F1 u2 A2 c2 d2 F2 un nt A3 c3 ts F3 A4 c4 ds F4 A5 c5 im F5 s1 s2 s3 s4 s5 ok HC
    by_cases h7 : k = 7
    · subst h7; exact implEnc_7 w t pv pg sl u1 A1 c1 d1 F1 u2 A2 c2 d2 F2 un nt A3 c3 ts F3 A4 c4 ds F4 A5 c5 im F5 s1 s2 s3 s4 s5 ok HC
    by_cases h8 : k = 8
    · subst h8; exact implEnc_8 w t pv pg sl u1 A1 c1 d1 F1 u2 A2 c2 d2 F2 un nt A3 c3 ts F3 A4 c4 ds F4 A5 c5 im F5 s1 s2 s3 s4 s5 ok HC
    exact implEnc_plain w k t pv pg sl u1 A1 c1 d1 F1 u2 A2 c2 d2 F2 un nt A3 c3 ts F3 A4 c4 ds F4 A5 c5 im F5 s1 s2 s3 s4 s5 (by omega) ok HC
  · rw [show encRec _ = [] from if_neg hf]
    exact (implEncode_bad w _ ⟨k, t, pv, pg, sl, ⟨u1, d1⟩, ⟨u2, d2⟩, un, nt, ts, ds, im⟩ _ ⟨_, ⟨A1, c1, F1, A2, c2, F2, A3, c3, F3, A4, c4, F4, A5, c5, F5, rfl, rfl, hw, s1, s2, s3, s4, s5⟩, rfl⟩ hf).mono (fun e w' h => by rw [h.1]; exact NewPost.nil h.2)
end Go.Proofs.YtghgjddiheebeaaDoor
