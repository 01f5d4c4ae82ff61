/- FnDisk: the walk of the law: its contracts. -/
import Derived.Test.YtdjcfcgkldokgaaG8
import Derived.Test.YtdjcfcgkldokgaaG7
import Derived.Test.YtdjcfcgkldokgaaG3
import Derived.Test.YtdjcfcgkldokgaaD7
import Derived.Test.YtdjcfcgkldokgaaD9
namespace Go.Proofs.Ytdjcfcgkldokgaa
open Go.RowKit
set_option linter.unusedSimpArgs false
set_option linter.unusedVariables false
/-- A disk of the data d behind two slices; all its blocks are from number lo on. -/
def DL (w : World) (lo : Nat) (A : Option Addr) (c : Nat) (Ap : Option Addr) (cp : Nat) (d : DDisk) : Prop :=
  ∃ F G, (Rep.int .u8).sl w A c d.Durable F ∧ Rep.SectorWrite.sl w Ap cp d.Pending G ∧ (∀ g ∈ F, lo ≤ g) ∧ (∀ g ∈ G, lo ≤ g)
section
variable {w w' : World} {lo : Nat} {A Ap : Option Addr} {c cp : Nat} {d : DDisk}
theorem DL.ext (h : DL w lo A c Ap cp d) (hE : Ext w w') : DL w' lo A c Ap cp d := by
  obtain ⟨F, G, h1, h2, h3, h4⟩ := h
  exact ⟨F, G, Rep.sl_ext h1 hE, Rep.sl_ext h2 hE, h3, h4⟩
theorem DL.only {b : Nat} (h : DL w lo A c Ap cp d) (hO : Only [b] w w') (hb : b < lo) : DL w' lo A c Ap cp d := by
  obtain ⟨F, G, h1, h2, h3, h4⟩ := h
  exact ⟨F, G, Rep.sl_only h1 hO (fun g hg hq => by have := h3 g hg; simp at hq; omega), Rep.sl_only h2 hO (fun g hg hq => by have := h4 g hg; simp at hq; omega), h3, h4⟩
theorem DL.mono {l2 : Nat} (h : DL w lo A c Ap cp d) (hl : l2 ≤ lo) : DL w l2 A c Ap cp d := by
  obtain ⟨F, G, h1, h2, h3, h4⟩ := h
  exact ⟨F, G, h1, h2, fun g hg => Nat.le_trans hl (h3 g hg), fun g hg => Nat.le_trans hl (h4 g hg)⟩
theorem DL.V (h : DL w lo A c Ap cp d) : ∃ F, Rep.Disk.V w (.agg #[.slice A d.Durable.length c, .slice Ap d.Pending.length cp]) d F := by
  obtain ⟨F, G, h1, h2, -⟩ := h
  exact ⟨_, _, ⟨A, c, F, Ap, cp, G, rfl, rfl, trivial, h1, h2⟩, rfl⟩
theorem DL.of_V {F : List Nat} (h : Rep.Disk.V w (.agg #[.slice A d.Durable.length c, .slice Ap d.Pending.length cp]) d F) : DL w 0 A c Ap cp d := by
  obtain ⟨_, ⟨A', c', F1, Ap', cp', F2, rfl, rfl, -, h1, h2⟩, e⟩ := h
  have e' : #[Value.slice A d.Durable.length c, Value.slice Ap d.Pending.length cp] = #[Value.slice A' d.Durable.length c', Value.slice Ap' d.Pending.length cp'] := by injection e
  simp at e'
  obtain ⟨⟨rfl, rfl⟩, rfl, rfl⟩ := e'
  exact ⟨F1, F2, h1, h2, by simp, by simp⟩
end
theorem runLaw_calls (w : World) (lo : Nat) (A : Option Addr) (c : Nat) (Ap : Option Addr) (cp : Nat) (d : DDisk) (h : DL w lo A c Ap cp d) (Ao : Option Addr) (co : Nat) (ops : List DOp) (Fo : List Nat) (ho : Rep.Op.sl w Ao co ops Fo) (lim : Int) (el : (Lit.int .i64 lim).wf = true)
    (hs : wtDisk d ≤ 1048576) (hso : wtOpS ops ≤ 1048576) (dn : Bool) (us : Nat) (X : DDisk) (hR : runOps d ops lim = ⟨dn, us, X⟩) (n : Nat) (hn : n = ops.length) (L P : Nat) (hL : L = d.Durable.length) (hP : P = d.Pending.length) (M Q : Nat) (hM : M = X.Durable.length) (hQ : Q = X.Pending.length) :
    Calls Try.prog 30 #[.agg #[.slice A L c, .slice Ap P cp], .slice Ao n co, .int .i64 lim] w fun e w' => ∃ A' c' Ap' cp',
      e = .returned (.agg #[.bool dn, .int .i64 us, .slice A' M c', .slice Ap' Q cp']) ∧ Hid (DL w' w.heap.size A' c' Ap' cp' X) ∧ Hid (Ext w w') := by
  subst hn; subst hL; subst hP; subst hM; subst hQ
  obtain ⟨F, hV⟩ := h.V
  refine (implRunOps_new w _ d F hV Ao co ops Fo ho lim el hs hso).mono ?_
  rintro e w' ⟨v, F', rfl, hV', hN⟩
  rw [hR] at hV'
  obtain ⟨_, ⟨A', c', F1, Ap', cp', F2, rfl, rfl, -, h1, h2⟩, rfl⟩ := hV'
  exact ⟨A', c', Ap', cp', rfl, Lib.hid ⟨F1, F2, h1, h2, fun g hg => hN.new g (by simp [hg]), fun g hg => hN.new g (by simp [hg])⟩, Lib.hid hN.ext⟩
theorem syncLaw_calls (w : World) (lo : Nat) (A : Option Addr) (c : Nat) (Ap : Option Addr) (cp : Nat) (d : DDisk) (h : DL w lo A c Ap cp d) (hs : wtDisk d ≤ 1048576) (Y : DDisk) (hR : diskSync d = Y) (L P : Nat) (hL : L = d.Durable.length) (hP : P = d.Pending.length) (M Q : Nat) (hM : M = Y.Durable.length) (hQ : Q = Y.Pending.length) :
    Calls Try.prog 13 #[.agg #[.slice A L c, .slice Ap P cp]] w fun e w' => ∃ A' c' Ap' cp',
      e = .returned (.agg #[.slice A' M c', .slice Ap' Q cp']) ∧ Hid (DL w' 0 A' c' Ap' cp' Y) ∧ Hid (Ext w w') := by
  subst hL; subst hP; subst hM; subst hQ
  obtain ⟨F, hV⟩ := h.V
  refine (implDiskSync_new w _ d F hV hs).mono ?_
  rintro e w' ⟨v, F', rfl, hV', hN⟩
  rw [hR] at hV'
  obtain ⟨_, ⟨A', c', F1, Ap', cp', F2, rfl, rfl, -, h1, h2⟩, rfl⟩ := hV'
  exact ⟨A', c', Ap', cp', rfl, Lib.hid ⟨F1, F2, h1, h2, by simp, by simp⟩, Lib.hid hN.ext⟩
theorem crashLaw_calls (w : World) (lo : Nat) (A : Option Addr) (c : Nat) (Ap : Option Addr) (cp : Nat) (d : DDisk) (h : DL w lo A c Ap cp d) (hs : wtDisk d ≤ 1048576) (K : Option Addr) (ck : Nat) (keep : List Int) (Fk : List Nat) (hk : (Rep.int .i64).sl w K ck keep Fk) (hsk : keep.length ≤ 1048576) (n : Nat) (hn : n = keep.length) (Y : DDisk) (hR : diskCrash d keep = Y) (L P : Nat) (hL : L = d.Durable.length) (hP : P = d.Pending.length) (M Q : Nat) (hM : M = Y.Durable.length) (hQ : Q = Y.Pending.length) :
    Calls Try.prog 24 #[.agg #[.slice A L c, .slice Ap P cp], .slice K n ck] w fun e w' => ∃ A' c' Ap' cp',
      e = .returned (.agg #[.slice A' M c', .slice Ap' Q cp']) ∧ Hid (DL w' 0 A' c' Ap' cp' Y) ∧ Hid (Ext w w') := by
  subst hn; subst hL; subst hP; subst hM; subst hQ
  obtain ⟨F, hV⟩ := h.V
  refine (implDiskCrash_new w _ d F hV K ck keep Fk hk hs hsk).mono ?_
  rintro e w' ⟨v, F', rfl, hV', hN⟩
  rw [hR] at hV'
  obtain ⟨_, ⟨A', c', F1, Ap', cp', F2, rfl, rfl, -, h1, h2⟩, rfl⟩ := hV'
  exact ⟨A', c', Ap', cp', rfl, Lib.hid ⟨F1, F2, h1, h2, by simp, by simp⟩, Lib.hid hN.ext⟩
theorem readLaw_calls (w : World) (lo : Nat) (A : Option Addr) (c : Nat) (Ap : Option Addr) (cp : Nat) (d : DDisk) (h : DL w lo A c Ap cp d) (hv : validDisk d = true) (s : Nat) (hs : s < d.Durable.length / 512) (L P : Nat) (hL : L = d.Durable.length) (hP : P = d.Pending.length) :
    Calls Try.prog 43 #[.agg #[.slice A L c, .slice Ap P cp], .int .i64 s] w fun e w' => ∃ A' c' F', e = .returned (.slice A' 512 c') ∧ Hid ((Rep.int .u8).sl w' A' c' (seenL d s) F') ∧ Hid (Ext w w') := by
  subst hL; subst hP
  obtain ⟨F, hV⟩ := h.V
  refine (diskRead_calls w _ d F hV hv s hs).mono ?_
  rintro e w' ⟨A', c', F', rfl, h1, h2⟩
  exact ⟨A', c', F', by rw [seenL_len hv (s := s) (by omega) (by omega)], h1, h2⟩
theorem sameLaw_calls (w : World) (l1 l2 : Nat) (A1 : Option Addr) (c1 : Nat) (A2 : Option Addr) (c2 : Nat) (B1 : Option Addr) (e1 : Nat) (B2 : Option Addr) (e2 : Nat) (d : DDisk) (h : DL w l1 A1 c1 A2 c2 d) (k : DL w l2 B1 e1 B2 e2 d) (L P : Nat) (hL : L = d.Durable.length) (hP : P = d.Pending.length) :
    Calls Try.prog 40 #[.agg #[.slice A1 L c1, .slice A2 P c2], .agg #[.slice B1 L e1, .slice B2 P e2]] w fun e w' => e = .returned (.bool true) ∧ Hid (Ext w w') := by
  subst hL; subst hP
  obtain ⟨F, G, h1, h2, -⟩ := h
  obtain ⟨F', G', k1, k2, -⟩ := k
  exact lwSameDisk_calls w A1 c1 A2 c2 B1 e1 B2 e2 d F G F' G' h1 h2 k1 k2
/-- A choice out of n, which may be one. -/
theorem lwK_calls (A : Option Addr) (c : Nat) (bs : List Int) (F : List Nat) (w : World) (h : (Rep.int .u8).sl w A c bs F) (hl : bs.length ≤ 1048576) (n : Nat) (nz : Int) (hnz : nz = n) (hn : 1 ≤ n ∧ n ≤ 1000) :
    Calls Try.prog 39 #[.slice A bs.length c, .int .i64 0, .int .i64 nz] w fun e w' => ∃ r : Nat, e = .returned (.int .i64 r) ∧ r < n ∧ Hid (Ext w w') := by
  by_cases h1 : 2 ≤ n
  · refine (lwN_calls A c bs F w h hl 0 n nz hnz (by decide) ⟨h1, by omega⟩).mono ?_
    rintro e w' ⟨r, rfl, hr, hE⟩
    exact ⟨r, rfl, hr, Lib.hid hE⟩
  · obtain rfl : n = 1 := by omega
    subst hnz
    clear h hl
    go_enter Try.func39, Try.ntmps39
    go_wp2
    go_ret
    exact ⟨0, rfl, by decide, Lib.hid (Only.refl _ _)⟩
theorem wt_ops : ∀ (P : List DOp), (∀ x ∈ P, x.Data.length ≤ 512) → wtOpS P ≤ P.length * 600
  | [], _ => by simp [wtOpS]
  | x :: P, h => by
    have ih := wt_ops P (fun y hy => h y (by simp [hy]))
    have hx := h x (by simp)
    simp only [wtOpS, List.length_cons, List.map_cons, List.sum_cons, wtOp] at ih ⊢
    omega
/-- A result of operations in a new box. -/
def RunB (w : World) (p : Value) (wx : World) (dn : Bool) (us : Nat) (X : DDisk) (L P : Nat) : Prop := ∃ (b : Nat) (A : Option Addr) (c : Nat) (Ap : Option Addr) (cp : Nat), p = .pointer (some ⟨b, 0, none⟩) ∧
  Hid (wx.heap[b]? = some (.cells #[.bool dn, .int .i64 us, .slice A L c, .slice Ap P cp] 49 (0, 0))) ∧ Hid (DL wx 0 A c Ap cp X) ∧ Hid (Ext w wx)
theorem RunB.fin {w w1 : World} {lo b : Nat} {z0 z1 z2 z3 : Value} {A Ap : Option Addr} {c cp : Nat} {dn : Bool} {us L P : Nat} {X : DDisk} (hrow : w1.heap[b]? = some (.cells #[z0, z1, z2, z3] 49 (0, 0))) (hb : w.heap.size ≤ b) (hlo : b < lo) (hE : Ext w w1) (hD : DL w1 lo A c Ap cp X) :
    RunB w (.pointer (some ⟨b, 0, none⟩)) ((((w1.setCell ⟨b, 0, none⟩ (.bool dn)).setCell ⟨b, 1, none⟩ (.int .i64 us)).setCell ⟨b, 2, none⟩ (.slice A L c)).setCell ⟨b, 3, none⟩ (.slice Ap P cp)) dn us X L P := by
  have r1 := heap_setCell_same w1 b 0 _ _ (.bool dn) hrow
  have r2 := heap_setCell_same _ b 1 _ _ (.int .i64 us) r1
  have r3 := heap_setCell_same _ b 2 _ _ (.slice A L c) r2
  have r4 := heap_setCell_same _ b 3 _ _ (.slice Ap P cp) r3
  have hO : Only [b] w1 ((((w1.setCell ⟨b, 0, none⟩ (.bool dn)).setCell ⟨b, 1, none⟩ (.int .i64 us)).setCell ⟨b, 2, none⟩ (.slice A L c)).setCell ⟨b, 3, none⟩ (.slice Ap P cp)) := by
    repeat (first | with_reducible exact Only.refl _ _ | ((with_reducible apply Only.set); · simp))
  exact ⟨b, A, c, Ap, cp, rfl, Lib.hid r4, Lib.hid ((hD.only hO hlo).mono (Nat.zero_le _)), Lib.hid (hE.then_ hO (fun g hg hl => by simp at hg; omega))⟩
theorem RunB.fin2 {w w1 : World} {lo b : Nat} {A Ap : Option Addr} {c cp : Nat} {dn : Bool} {us L P : Nat} {X : DDisk} (hb : b = w1.heap.size) (hE : Ext w w1) (hD : DL w1 lo A c Ap cp X) :
    RunB w (.pointer (some ⟨b, 0, none⟩)) (w1.alloc (.cells #[.bool dn, .int .i64 us, .slice A L c, .slice Ap P cp] 49)) dn us X L P := by
  subst hb
  have hO := alloc_ext w1 (.cells #[.bool dn, .int .i64 us, .slice A L c, .slice Ap P cp] 49)
  exact ⟨_, A, c, Ap, cp, rfl, Lib.hid (heap_alloc_new _ _), Lib.hid ((hD.ext hO).mono (Nat.zero_le _)), Lib.hid (hE.ext hO)⟩
theorem sl_first {α : Type} {r : Rep α} {w : World} {A : Option Addr} {c : Nat} {xs : List α} {F : List Nat} (h : r.sl w A c xs F) (k : Nat) (hk : k ≤ xs.length) : ∃ G, r.sl w A c (xs.take k) G := by
  obtain ⟨h1, h2, ⟨rfl, rfl⟩ | ⟨g, off, G, cs, rfl, rfl, hg, hc, hcell⟩⟩ := h
  · exact ⟨[], by simp, h2, .inl ⟨by simp, rfl⟩⟩
  · have e : xs = xs.take k ++ xs.drop k := (List.take_append_drop k xs).symm
    rw [e] at hc
    obtain ⟨c1, c2, F1, F2, rfl, rfl, k1, k2⟩ := Rep.cells_append.1 hc
    refine ⟨g :: F1, by rw [List.length_take]; omega, h2, .inr ⟨g, off, F1, c1, rfl, rfl, hg, k1, fun j u hu => hcell j u ?_⟩⟩
    rw [List.getElem?_append_left (List.getElem?_eq_some_iff.1 hu).1]
    exact hu
theorem sl_last {α : Type} {r : Rep α} {w : World} {A : Option Addr} {c : Nat} {xs : List α} {F : List Nat} (h : r.sl w A c xs F) (k : Nat) (hk : k ≤ xs.length) : ∃ G, r.sl w (if c = k then A else A.map (·.add (k * r.sz))) (c - k) (xs.drop k) G := by
  obtain ⟨h1, h2, h3⟩ := h
  by_cases hd : xs.drop k = []
  · rw [hd]
    exact ⟨[], Nat.zero_le _, Nat.le_trans (Nat.sub_le _ _) h2, .inl ⟨rfl, rfl⟩⟩
  · have hlt : k < xs.length := by
      rcases Nat.lt_or_ge k xs.length with h | h
      · exact h
      · exact absurd (List.drop_eq_nil_of_le h) hd
    obtain ⟨rfl, rfl⟩ | ⟨g, off, G, cs, rfl, rfl, hg, hc, hcell⟩ := h3
    · simp at hlt
    · have e : xs = xs.take k ++ xs.drop k := (List.take_append_drop k xs).symm
      rw [e] at hc
      obtain ⟨c1, c2, F1, F2, rfl, rfl, k1, k2⟩ := Rep.cells_append.1 hc
      have hl1 := Rep.cells_len k1
      rw [List.length_take, Nat.min_eq_left (by omega)] at hl1
      rw [if_neg (by omega)]
      have hadd : (⟨g, off, none⟩ : Addr).add (k * r.sz) = ⟨g, off + k * r.sz, none⟩ := addp _ _ _
      refine ⟨g :: F2, by rw [List.length_drop]; omega, Nat.le_trans (Nat.sub_le _ _) h2, .inr ⟨g, off + k * r.sz, F2, c2, by rw [Option.map_some, hadd], rfl, hg, k2, fun j u hu => ?_⟩⟩
      have := hcell (k * r.sz + j) u (by rw [List.getElem?_append_right (by omega), hl1, Nat.add_sub_cancel_left]; exact hu)
      rwa [← Nat.add_assoc] at this
theorem lastUp_len {P : List DSectorWrite} {dur : List Int} (h : ∀ x ∈ P, okW (dur.length / 512) x = true) (sel : Nat → Bool) (i : Nat) (was : List Int) (hw : was.length = 512) : ∀ j, (lastUp P sel i was j).length = 512
  | 0 => hw
  | j + 1 => by
    have ih := lastUp_len h sel i was hw j
    by_cases hj : j < P.length
    · rw [lastUp_next sel i was j hj]
      split
      · exact (okW_room (n := 0) (h _ (List.getElem_mem hj))).1
      · exact ih
    · rw [lastUp, List.getElem?_eq_none (by omega)]
      exact ih
/-- A slice of bytes. -/
def SL (w : World) (A : Option Addr) (c : Nat) (xs : List Int) : Prop := ∃ F, (Rep.int .u8).sl w A c xs F
theorem SL.ext {w w' : World} {A : Option Addr} {c : Nat} {xs : List Int} (h : SL w A c xs) (hE : Ext w w') : SL w' A c xs := h.elim fun F h => ⟨F, Rep.sl_ext h hE⟩
theorem sameSL_calls (w : World) (A : Option Addr) (c : Nat) (xs : List Int) (B : Option Addr) (d : Nat) (h : SL w A c xs) (k : SL w B d xs) (n : Nat) (hn : n = xs.length) :
    Calls Try.prog 42 #[.slice A n c, .slice B n d] w fun e w' => e = .returned (.bool true) ∧ Hid (Ext w w') := by
  obtain ⟨F, h⟩ := h
  obtain ⟨G, k⟩ := k
  exact (sameBytes_same w A c xs F B d G h k n hn).mono fun e w' h => ⟨h.1, Lib.hid h.2⟩
theorem sect_SL {w : World} {g off c : Nat} {xs : List Int} (h : SL w (some ⟨g, off, none⟩) c xs) (j : Nat) (hj : j * 512 + 512 ≤ xs.length) : SL w (some ⟨g, off + j * 512, none⟩) (c - j * 512) (sect xs j) := by
  obtain ⟨F, h⟩ := h
  exact ⟨F, sl_sub h (by rintro rfl; simp at hj) (j * 512) 512 hj⟩
theorem sect_len (xs : List Int) (j : Nat) (hj : j * 512 + 512 ≤ xs.length) : (sect xs j).length = 512 := by
  unfold sect
  rw [List.length_take, List.length_drop]
  omega
end Go.Proofs.Ytdjcfcgkldokgaa
