/- FnHolds: the walk of the law. -/
import Derived.Test.YtildfjlekplgjaaH2
import Derived.Test.YtildfjlekplgjaaN11
import Derived.Test.YtildfjlekplgjaaQX
import Derived.Deep.DeepCutAuto
import Derived.Deep.CutRange
import Derived.Deep.RegionHeld3
namespace Go.Proofs.Ytildfjlekplgjaa
open Go.RowKit
set_option linter.unusedSimpArgs false
set_option linter.unusedVariables false
theorem info3 : (Try.prog.info? 3).map (fun i => (i.zero, i.size, i.bytes)) = some (some (.int .i64 0), 1, 8) := by kernel_rfl
theorem infoRow : (Try.prog.info? 43).map (fun i => (i.zero, i.size, i.bytes)) = some (some (.slice none 0 0), 1, 24) := by kernel_rfl
theorem mk_owner (w : World) : (Instr.makeSlice 51 (.int .i64 32) (.int .i64 32)).run Try.prog w = .ok (.slice (some ⟨w.heap.size, 0, none⟩) 32 32) (w.alloc (.cells (Array.replicate 32 (.int .i64 0)) 3)) := by
  obtain ⟨i0, hi, hz0, hz1, hz2⟩ := info_parts info3
  have h := run_make (P := Try.prog) w 51 3 i0 _ Try.underlying51 hi hz0 .i64 .i64 32 32 (by omega) (by omega) (by rw [hz2]; omega) (by omega)
  rw [hz1, made_one _ _ rfl] at h
  simpa using h
theorem mk_rows (w : World) : (Instr.makeSlice 52 (.int .i64 4) (.int .i64 4)).run Try.prog w = .ok (.slice (some ⟨w.heap.size, 0, none⟩) 4 4) (w.alloc (.cells (Array.replicate 4 (.slice none 0 0)) 43)) := by
  obtain ⟨i0, hi, hz0, hz1, hz2⟩ := info_parts infoRow
  have h := run_make (P := Try.prog) w 52 43 i0 _ Try.underlying52 hi hz0 .i64 .i64 4 4 (by omega) (by omega) (by rw [hz2]; omega) (by omega)
  rw [hz1, made_one _ _ rfl] at h
  simpa using h
theorem IR.sl {nb : Nat} {w : World} {A : Option Addr} {c : Nat} {xs : List Int} (h : IR nb w (.slice A xs.length c) xs) (hn : nb ≤ w.heap.size) (hw : ∀ x ∈ xs, (Lit.int .i64 x).wf = true) : ∃ G, (Rep.int .i64).sl w A c xs G := by
  obtain ⟨F, hV, hF⟩ := (h.own hn hw).done
  obtain ⟨A', c', he, hs⟩ := Rep.slice_V hV
  injection he with h1 h2 h3
  subst h1; subst h3
  exact ⟨F, hs⟩
theorem len_wf {L : List Int} (h : L.length = 32) (hr : ∀ i, i < 32 → -1 ≤ L.getD i 0 ∧ L.getD i 0 ≤ 1000) : ∀ x ∈ L, (Lit.int .i64 x).wf = true := by
  intro x hx
  obtain ⟨i, hi, rfl⟩ := List.getElem_of_mem hx
  have := hr i (by omega)
  rw [List.getD_eq_getElem?_getD, List.getElem?_eq_getElem hi] at this
  simp only [Lit.wf, IntKind.min, IntKind.max, IntKind.signed, IntKind.bits]
  simp at this ⊢
  omega
theorem roomLeft32 {nb : Nat} {w : World} {A : Option Addr} {c : Nat} {L : List Int} (h : IR nb w (.slice A L.length c) L) (hn : nb ≤ w.heap.size) (h32 : L.length = 32) (hr : ∀ i, i < 32 → -1 ≤ L.getD i 0 ∧ L.getD i 0 ≤ 1000)
    (A2 : Option Addr) (c2 : Nat) (H : List DHold) (F2 : List Nat) (h2 : Rep.Hold.sl w A2 c2 H F2) (hH : holdsFault H = 0) :
    Calls Try.prog 30 #[.slice A 32 c, .slice A2 H.length c2, .int .i64 0] w fun e w' => e = .returned (.int .i64 (roomL L H 0)) ∧ Ext w w' := by
  obtain ⟨G, hs⟩ := h.sl hn (len_wf h32 hr)
  have := implRoomLeft_calls A c L G w hs A2 c2 H F2 h2 h32 (len32OK h32 hr) hH
  rwa [h32] at this
theorem roomFor32 {nb : Nat} {w : World} {A : Option Addr} {c : Nat} {L : List Int} (h : IR nb w (.slice A L.length c) L) (hn : nb ≤ w.heap.size) (h32 : L.length = 32) (hr : ∀ i, i < 32 → -1 ≤ L.getD i 0 ∧ L.getD i 0 ≤ 1000)
    (A2 : Option Addr) (c2 : Nat) (H : List DHold) (F2 : List Nat) (h2 : Rep.Hold.sl w A2 c2 H F2) (hH : holdsFault H = 0) (id : Nat) (hi : id < 32) (len : Int) (hl0 : 0 ≤ len) (hl1 : len ≤ 1000) :
    Calls Try.prog 31 #[.slice A 32 c, .slice A2 H.length c2, .int .i64 id, .int .i64 len] w fun e w' => e = .returned (.bool (roomForB L H id len)) ∧ Ext w w' := by
  obtain ⟨G, hs⟩ := h.sl hn (len_wf h32 hr)
  have := implRoomFor_calls A c L G w hs A2 c2 H F2 h2 h32 (len32OK h32 hr) hH id hi len hl0 hl1
  rwa [h32] at this
theorem lwFits32 {nb : Nat} {w : World} {A : Option Addr} {c : Nat} {L : List Int} (h : IR nb w (.slice A L.length c) L) (hn : nb ≤ w.heap.size) (h32 : L.length = 32) (hr : ∀ i, i < 32 → -1 ≤ L.getD i 0 ∧ L.getD i 0 ≤ 1000) (hf : fitUp L 32 ≤ 3948) :
    Calls Try.prog 33 #[.slice A 32 c] w fun e w' => e = .returned (.bool true) ∧ Ext w w' := by
  obtain ⟨G, hs⟩ := h.sl hn (len_wf h32 hr)
  have := lwFits_calls A c L G w hs h32 hr hf
  rwa [h32] at this
theorem rep_range : ∀ i, i < 32 → -1 ≤ (List.replicate 32 (-1 : Int)).getD i 0 ∧ (List.replicate 32 (-1 : Int)).getD i 0 ≤ 1000 := fun i hi => by
  rw [List.getD_eq_getElem?_getD, List.getElem?_replicate, if_pos hi]; decide
theorem room_start : roomL (List.replicate 32 (-1)) [] 0 = 3948 := by rw [roomL0]; exact roomUp_zero 32 (Nat.le_refl _)
theorem roomFor_start : roomForB (List.replicate 32 (-1)) [] 0 1000 = true := by
  unfold roomForB
  rw [show (0 : Nat) / 32 = 0 from rfl, room_start]
  decide
theorem step_append_own {P : Program} {ops : Array Oper} {o : Oper} {a : Act} {w : World} {K : Act → World → Prop} {Q : Exit → Act → World → Prop} {E : Prop} (hgd : o.guard = none) (s x : Operand) (t : TypeId)
    (ho : o.op = .call { callee := .builtin .append, args := #[s, x], argTypes := #[t, t] })
    (base : Nat) (e : TypeId) (i : TypeInfo) (z : Value) (size bytes : Nat) (ht : P.underlying t = some (.slice e)) (hi : P.info? e = some i) (hz : i.zero = some z)
    (hsize : i.size = size) (hby : i.bytes = bytes) (hzs : z.cells.size = size) (hsz : 0 < size)
    (v : Value) (n : Nat) (xs : List Value) (hs : a.eval s = v) (hown : w.ownsRow base e size v n xs)
    (ad : Addr) (m c : Nat) (news : List Value) (hx : a.eval x = .slice (some ad) m c) (hl : news.length = m * size) (hnews : ∀ j u, news[j]? = some u → w.cell? (ad.add j) = some u) (h1 : ∀ u ∈ news, u.oneCell' = true)
    (h63 : n + m ≤ maxLen) (hbytes : (n + m) * bytes ≤ 140737488355328) (hbase : base ≤ w.heap.size)
    (h : ∀ v' w', w'.ownsRow base e size v' (n + m) (xs ++ news) → w.grownBy w' v.ownBlock → (v' = .slice none 0 0 ↔ v = .slice none 0 0 ∧ m = 0) → (v'.ownBlock = v.ownBlock ∨ v'.ownBlock = some w.heap.size) → K (a.put o.dst v') w') :
    if Region.wanted o (yielded ops a.tmps) = true then Oper.wp P o a w K Q else E := by
  have hw : Region.wanted o (yielded ops a.tmps) = true := by simp [Region.wanted, hgd]
  rw [if_pos hw]
  obtain ⟨v', w', hr, h2, h3, h4, h5⟩ := run_append_own_at (P := P) w base t o.type e i z size bytes ht hi hz hsize hby hzs hsz v n xs hown ad m c news hl hnews h1 h63 hbytes hbase
  unfold Oper.wp execOp
  simp only [ho, resolve, invoke, builtin, Sem.run_bind, Sem.run_pure, Result.andThen_ok, List.map_toArray, List.map_cons, List.map_nil, hs, hx, hr]
  exact h v' w' h2 h3 h4 h5
theorem grow_far {f1 : Nat → Value} {v u : Value} {N M K r0 : Nat} {F : List Nat} (hat : v.ownBlock = u.ownBlock ∨ v.ownBlock = some K) (hu : ∀ {g}, u.ownBlock = some g → g < N ∨ M ≤ g) (hr : ∀ r g, 1 ≤ r → r ≤ 6 → (f1 r).ownBlock = some g → g < N ∨ M ≤ g) (h1 : ∀ b ∈ F, N ≤ b) (h2 : ∀ b ∈ F, b < M) (hK : M ≤ K) :
    ∀ g ∈ F, ∀ r, 1 ≤ r → r ≤ 6 → ((fun s => if s = r0 then v else f1 s) r).ownBlock ≠ some g := by
  intro g hg r a b hq
  have q1 := h1 g hg
  have q2 := h2 g hg
  dsimp only at hq
  split at hq
  · rcases hat with hat | hat
    · rw [hat] at hq
      have := hu hq; omega
    · rw [hat] at hq
      injection hq with hq
      omega
  · have := hr r g a b hq; omega
theorem small_wf {v : Int} (h1 : -1 ≤ v) (h2 : v ≤ 1000) : (Lit.int .i64 v).wf = true := by
  simp only [Lit.wf, IntKind.min, IntKind.max, IntKind.signed, IntKind.bits]
  simp
  omega
/-- Rows 1, 2, 3: the ids; 4, 5, 6: the lengths as they were. -/
def XX (I O : Nat → List Int) : Nat → List Int := fun r => if r ≤ 3 then I r else O (r - 3)
theorem XX_I (I O : Nat → List Int) (t : Nat) (ys : List Int) (h : t ≤ 3) : upd (XX I O) t ys = XX (upd I t ys) O := by
  funext r
  simp only [upd, XX]
  by_cases he : r = t
  · rw [if_pos he, if_pos (by omega), if_pos he]
  · rw [if_neg he, if_neg he]
theorem XX_O (I O : Nat → List Int) (t : Nat) (ys : List Int) (h : 1 ≤ t) : upd (XX I O) (t + 3) ys = XX I (upd O t ys) := by
  funext r
  simp only [upd, XX]
  by_cases he : r = t + 3
  · rw [if_pos he, if_neg (by omega), if_pos (by omega)]
  · rw [if_neg he]
    by_cases h3 : r ≤ 3
    · rw [if_pos h3, if_pos h3]
    · rw [if_neg h3, if_neg h3, if_neg (by omega)]
theorem PS.start {w w2 : World} {gL cL : Nat} (hE : Ext w w2) (h : IR w.heap.size w2 (.slice (some ⟨gL, 0, none⟩) (List.replicate 32 (-1 : Int)).length cL) (List.replicate 32 (-1))) :
    PS w (((w2.alloc (.cells (Array.replicate 32 (.int .i64 0)) 3)).alloc (.cells (Array.replicate 4 (.slice none 0 0)) 43)).alloc (.cells (Array.replicate 4 (.slice none 0 0)) 43)) (w2.heap.size + 3) gL cL w2.heap.size (w2.heap.size + 1) (w2.heap.size + 1 + 1) (List.replicate 32 (-1)) (List.replicate 32 0) (fun _ => .slice none 0 0) (XX (fun _ => []) (fun _ => [])) := by
  have hg := h.lt (g := gL) rfl
  have hs := hE.size
  have hE3 : Ext w2 (((w2.alloc (.cells (Array.replicate 32 (.int .i64 0)) 3)).alloc (.cells (Array.replicate 4 (.slice none 0 0)) 43)).alloc (.cells (Array.replicate 4 (.slice none 0 0)) 43)) := ((alloc_ext _ _).alloc _).alloc _
  refine ⟨hE.ext hE3, h.ext hE3, ?_, ?_, ?_, fun r a b => ?_, fun r s g _ _ _ _ _ hq => by simp [Value.ownBlock] at hq, by omega, by omega, by omega, by omega, by simp⟩
  · unfold OB
    rw [Only.heap (F := []) (((Only.refl _ _).alloc _).alloc _) (heap_alloc_new _ _) (by simp)]
    rfl
  · exact ⟨_, Only.heap (F := []) ((Only.refl _ _).alloc _) (heap_at _ _ (by simp)) (by simp), by simp, fun s h1 h4 => by rw [Array.getElem?_replicate, if_pos h4]⟩
  · exact ⟨_, heap_at _ _ (by simp), by simp, fun s h1 h4 => by rw [Array.getElem?_replicate, if_pos h4]⟩
  · have : XX (fun _ => []) (fun _ => []) r = [] := by simp [XX]
    rw [this]
    exact IR.nil _ _
set_option maxRecDepth 100000 in
set_option maxHeartbeats 8000000 in
theorem Holds_walk (w : World) (A : Option Addr) (c : Nat) (bs : List Int) (F : List Nat) (h : (Rep.int .u8).sl w A c bs F) (A2 : Option Addr) (c2 : Nat) (ms : List Int) (F2 : List Nat) (h2 : (Rep.int .u8).sl w A2 c2 ms F2) :
    Calls Try.prog 6 #[.slice A bs.length c, .slice A2 ms.length c2] w fun e w' => e = .returned (.bool true) ∧ Ext w w' := by
  have hm := h.1
  have hM := h.2.1
  have hm2 := h2.1
  have hM2 := h2.2.1
  unfold maxLen at hM hM2
  by_cases hl : (1048576 : Int) < bs.length
  · go_enter Try.func6, Try.ntmps6
    go_wp2
    go_ret
    exact ⟨rfl, Only.refl _ _⟩
  by_cases hl2 : (1048576 : Int) < ms.length
  · go_enter Try.func6, Try.ntmps6
    go_wp2
    go_ret
    exact ⟨rfl, Only.refl _ _⟩
  have HLEN := Lib.hid (show bs.length ≤ 1048576 by omega)
  have HLEN2 := Lib.hid (show ms.length ≤ 1048576 by omega)
  have H0 := Lib.hid h
  have H02 := Lib.hid h2
  clear hm hM h hm2 hM2 h2
  obtain ⟨i0, hi, hz0, hz1, hz2⟩ := info_parts info2
  go_enter Try.func6, Try.ntmps6
  go_wp2_with fail
  clear hl hl2
  go_loopg [6, 5] 32 (fun m i l wr => ∃ (k : Nat), m + k = 32 ∧ i = .int .i64 k ∧ Hid (wr.ownsRow w.heap.size 2 1 l k ((List.replicate k (-1)).map (Value.int .i64))) ∧ Hid (Ext w wr))
  case atStart => exact ⟨0, by simp, rfl, Lib.hid (World.ownsRow_made w #[] 0 (Nat.le_refl _) (by simp) rfl), Lib.hid (alloc_ext _ _)⟩
  case round =>
    obtain ⟨k, hk, rfl, HR, HX⟩ := hrel
    have HK := Lib.hid hk
    by_cases hlt : k < 32
    · obtain ⟨Al, cl, hf⟩ := ownsRow_form HR.out
      subst hf
      have HR1 := Lib.hid (show (wr.alloc (.cells #[.int .i64 (-1)] 2)).ownsRow w.heap.size 2 1 (.slice Al k cl) k ((List.replicate k (-1)).map (Value.int .i64)) from ownsRow_only HR.out (alloc_ext _ _) (by simp))
      have hle : w.heap.size ≤ (wr.alloc (.cells #[.int .i64 (-1)] 2)).heap.size := by have := HX.out.size; simp; omega
      clear hk
      go_wp2_with (at_builtin; go_must (refine wpList_append_own_at _ rfl _ _ 43 rfl w.heap.size 2 i0 _ 1 8 Try.underlying43 hi hz0 hz1 hz2 rfl (by decide) (.slice Al k cl) k _ rfl HR1.out ⟨wr.heap.size, 0, none⟩ 1 1 [.int .i64 (-1)] rfl rfl (cells_new' _ _ _ rfl) (by intro u hu; simp at hu; subst hu; rfl) (by unfold maxLen; omega) (by omega) hle ?_); intro v' w' hown hgrow hnil hat; have HR2 := Lib.hid hown; have HX2 := Lib.hid ((HX.out.alloc _).grown hgrow (fun g hg hlt => absurd (World.ownsRow.lt HR1.out g hg).1 (by omega))); clear hown hgrow hnil hat)
      go_roundg (32 - (k + 1))
      case measure => have := HK.out; omega
      case rel => exact ⟨k + 1, by have := HK.out; omega, by go_num, by rw [List.replicate_succ', List.map_append]; exact HR2, HX2⟩
    · obtain rfl : k = 32 := by omega
      clear hk hlt hi hz0 hz1 hz2
      obtain ⟨Al, cl, hf⟩ := ownsRow_form HR.out
      subst hf
      have hmk1 := mk_owner
      have hmk2 := mk_rows
      have HIR := Lib.hid (show IR w.heap.size wr (.slice Al (List.replicate 32 (-1 : Int)).length cl) (List.replicate 32 (-1)) by unfold IR; rw [List.length_replicate]; exact HR.out)
      go_wp2_with (first
        | (go_at_call 31; refine (roomFor32 (HIR.out.ext HE1.out) (by have h1 := HX.out.size; have h2 := HE1.out.size; omega) (by simp) rep_range _ _ [] _ (Rep.sl_nil (by simp)) rfl 0 (by decide) 1000 (by decide) (by decide)).mono ?_; rw [roomFor_start]; rintro e w2 ⟨rfl, hE⟩; have HE2 := Lib.hid (HE1.out.ext hE); clear hE)
        | (go_at_call 30; refine (roomLeft32 (HIR.out.ext (alloc_ext _ _)) (by have h1 := HX.out.size; simp; omega) (by simp) rep_range _ _ [] _ (Rep.sl_nil (by simp)) rfl).mono ?_; rw [room_start]; rintro e w1 ⟨rfl, hE⟩; have HE1 := Lib.hid ((alloc_ext wr (.cells #[] 75)).ext hE); clear hE))
      obtain ⟨gL, rfl⟩ : ∃ gL, Al = some ⟨gL, 0, none⟩ := by
        rcases HIR.out.2 with ⟨hq, -⟩ | ⟨g, cap, cur, hq, -⟩
        · simp at hq
        · injection hq with h1; exact ⟨g, h1⟩
      have HPS0 := Lib.hid (PS.start (HX.out.ext HE2.out) (HIR.out.ext HE2.out))
      clear HR HIR HE1 hmk1 hmk2
      have hgL : gL < w2.heap.size + 3 := HPS0.out.lo.1
      generalize (((w2.alloc (.cells (Array.replicate 32 (.int .i64 0)) 3)).alloc (.cells (Array.replicate 4 (.slice none 0 0)) 43)).alloc (.cells (Array.replicate 4 (.slice none 0 0)) 43)) = W0 at *
      have HNE := Lib.hid HPS0.out.ne
      generalize w2.heap.size + 1 + 1 = gO at *
      generalize w2.heap.size + 1 = gI at *
      generalize w2.heap.size + 3 = nb at *
      generalize w2.heap.size = gW at *
      clear HE2 HX
      obtain ⟨n1, n2, n3, n4, n5, n6⟩ := HNE.out
      go_loopg [11, 7] 40 (fun m i hh wy => ∃ (k : Nat) (H : List DHold) (A' : Option Addr) (c' : Nat) (F' : List Nat) (L W : List Int) (I O : Nat → List Int) (f : Nat → Value), m + k = 40 ∧ i = .int .i64 k ∧ hh = .slice A' H.length c' ∧ Hid (HInv L H W I O) ∧ Hid (H.length ≤ k) ∧ Hid (Rep.Hold.sl wy A' c' H F') ∧ Hid (∀ g ∈ F', nb ≤ g ∧ ∀ r, 1 ≤ r → r ≤ 6 → (f r).ownBlock ≠ some g) ∧ Hid (PS w wy nb gL cl gW gI gO L W f (XX I O)) ∧ Hid (∀ t, (I t).length ≤ k))
      case atStart => exact ⟨0, [], _, 0, [], _, _, _, _, _, by simp, rfl, rfl, Lib.hid HInv.start, Lib.hid (Nat.le_refl _), Lib.hid (Rep.sl_nil (by simp)), Lib.hid (by simp), HPS0, Lib.hid (by simp)⟩
      case round =>
        obtain ⟨k, H, A', c', F', L, W, I, O, f, hk, rfl, rfl, HI, HN, HS, HF, HP, HC⟩ := hrel
        have HK2 := Lib.hid hk
        by_cases hlt : k < 40
        · have e1 : IntKind.i64.wrap (4 * (k : Int)) = 4 * (k : Int) := by rw [IntKind.wrap_i64] <;> omega
          have e2 : IntKind.i64.wrap (4 * (k : Int) + 1) = 4 * (k : Int) + 1 := by rw [IntKind.wrap_i64] <;> omega
          have e3 : IntKind.i64.wrap (4 * (k : Int) + 2) = 4 * (k : Int) + 2 := by rw [IntKind.wrap_i64] <;> omega
          have e4 : IntKind.i64.wrap (4 * (k : Int) + 3) = 4 * (k : Int) + 3 := by rw [IntKind.wrap_i64] <;> omega
          clear hk
          go_wp2_with (go_at_call 24; refine (lwN_calls A c bs F wr (Rep.sl_ext H0.out HP.out.ext) HLEN.out _ 3 _ rfl (by omega) (by decide)).mono ?_; rintro e wa ⟨r1, rfl, h1, hE1⟩; have HE1 := Lib.hid hE1; clear hE1; refine Hid.out ?_)
          refine Lib.hid ?_
          obtain ⟨t, ht⟩ : ∃ t : Nat, t = r1 + 1 := ⟨_, rfl⟩
          have e5 : IntKind.i64.wrap (1 + (r1 : Int)) = (t : Int) := by rw [IntKind.wrap_i64] <;> omega
          have ht1 : 1 ≤ t := by omega
          have ht3 : t ≤ 3 := by omega
          clear h1 ht
          go_wp2_with (go_at_call 24; refine (lwN_calls A c bs F wa (Rep.sl_ext H0.out (HP.out.ext.ext HE1.out)) HLEN.out _ 9 _ rfl (by omega) (by decide)).mono ?_; rintro e wb ⟨id, rfl, hid, hE2⟩; have HE2 := Lib.hid (HE1.out.ext hE2); clear hE2; refine Hid.out ?_)
          refine Lib.hid ?_
          have hidn : id ≤ 8 := by omega
          go_wp2_with (go_at_call 24; refine (lwN_calls A c bs F wb (Rep.sl_ext H0.out (HP.out.ext.ext HE2.out)) HLEN.out _ 1002 _ rfl (by omega) (by decide)).mono ?_; rintro e wc ⟨r3, rfl, h3, hE3⟩; have HE3 := Lib.hid (HE2.out.ext hE3); clear hE3; refine Hid.out ?_)
          refine Lib.hid ?_
          obtain ⟨len, hlen⟩ : ∃ len : Int, len = (r3 : Int) - 1 := ⟨_, rfl⟩
          have e6 : IntKind.i64.wrap ((r3 : Int) - 1) = len := by rw [hlen, IntKind.wrap_i64] <;> omega
          have hl0 : -1 ≤ len := by omega
          have hl1 : len ≤ 1000 := by omega
          clear h3 hlen
          go_upto_if 74 with (go_at_call 24; refine (lwN_calls A c bs F wc (Rep.sl_ext H0.out (HP.out.ext.ext HE3.out)) HLEN.out _ 11 _ rfl (by omega) (by decide)).mono ?_; rintro e wd ⟨r4, rfl, h4, hE4⟩; have HE4 := Lib.hid (HE3.out.ext hE4); clear hE4)
          obtain ⟨b0, hb0⟩ : ∃ b, b = ((r4 : Int) == 0) := ⟨_, rfl⟩
          rw [← hb0]
          clear hb0
          have HPD := Lib.hid (HP.out.ext' HE4.out)
          have HSD := Lib.hid (Rep.sl_ext HS.out HE4.out)
          clear HE1 HE2 HE3 h4
          have e7 : IntKind.i64.wrap ((k : Int) + 1) = ((k + 1 : Nat) : Int) := by rw [IntKind.wrap_i64] <;> omega
          have hH0 := Lib.hid (HI.out.hd.fault (by have := HN.out; omega))
          have ht4 : (t : Int) < 4 := by omega
          cases b0
          case true =>
            go_wp2_with (go_at_call 32; refine (holdFree_calls A' c' H F' wd HSD.out t (by have := HN.out; omega) hH0.out).mono ?_; rintro e we ⟨A5, c5, F5, ys, rfl, HY, HS5, HF5, HE5⟩; have HPE := Lib.hid (HPD.out.ext' HE5.out); have cI := HPE.out.ib.cell t ht1 (by omega); have fI := HPE.out.ib.frozen t; have cO := HPE.out.ob.cell t ht1 (by omega); have fO := HPE.out.ob.frozen t)
            have HP1 := Lib.hid (HPE.out.head t t gI ⟨ht1, ht3⟩ (.inl ⟨rfl, rfl⟩) (.slice none 0 0) [] (IR.nil _ _) (fun s g _ _ _ hq => by simp [Value.ownBlock] at hq))
            have HP2 := Lib.hid (HP1.out.head t (t + 3) gO ⟨ht1, ht3⟩ (.inr ⟨rfl, rfl⟩) (.slice none 0 0) [] (IR.nil _ _) (fun s g _ _ _ hq => by simp [Value.ownBlock] at hq))
            have hf2 : ∀ r g, ((fun s => if s = t + 3 then Value.slice none 0 0 else if s = t then Value.slice none 0 0 else f s) r).ownBlock = some g → (f r).ownBlock = some g := fun r g hq => by
              dsimp only at hq
              split at hq
              · simp [Value.ownBlock] at hq
              · split at hq
                · simp [Value.ownBlock] at hq
                · exact hq
            have HP3 := Lib.hid (show PS w ((we.setCell ⟨gI, t, none⟩ (.slice none 0 0)).setCell ⟨gO, t, none⟩ (.slice none 0 0)) nb gL cl gW gI gO L W (fun s => if s = t + 3 then Value.slice none 0 0 else if s = t then Value.slice none 0 0 else f s) (XX (upd I t []) (upd O t [])) by
              have hq := HP2.out
              rw [XX_I _ _ _ _ ht3, XX_O _ _ _ _ ht1] at hq
              exact hq)
            have HF2 := Lib.hid hf2
            generalize (fun s => if s = t + 3 then Value.slice none 0 0 else if s = t then Value.slice none 0 0 else f s) = f2 at *
            clear HP1 HP2 hf2 cI fI cO fO
            go_loopg [15] 32 (fun m i wz => ∃ j : Nat, m + j = 32 ∧ i = .int .i64 j ∧ Hid (PS w wz nb gL cl gW gI gO L (ownFree W t j) f2 (XX (upd I t []) (upd O t []))) ∧ Hid (Only [gW, gI, gO] we wz))
            case atStart => exact ⟨0, by simp, rfl, HP3, Lib.hid (((Only.refl _ _).setCell (fun _ => by simp) _).setCell (fun _ => by simp) _)⟩
            case round =>
              obtain ⟨j, hj, rfl, HPJ, HOJ⟩ := hrel
              have HJ := Lib.hid hj
              by_cases hjl : j < 32
              · have hlw : j < (ownFree W t j).length := by rw [ownFree_len, HI.out.wlen]; exact hjl
                obtain ⟨v, hv⟩ : ∃ v, (ownFree W t j)[j]? = some v := ⟨_, List.getElem?_eq_getElem hlw⟩
                have hvd : (ownFree W t j).getD j 0 = v := by rw [List.getD_eq_getElem?_getD, hv]; rfl
                have cW := HPJ.out.wb.cell hv
                have fW := HPJ.out.wb.frozen j
                have hj32 : (j : Int) < 32 := by omega
                clear hv hj hlw
                by_cases hc : v = t
                · have b5 : (v == (t : Int)) = true := by simp [hc]
                  have HNX := Lib.hid (show ownFree W t (j + 1) = (ownFree W t j).set j 0 by rw [ownFree, hvd, if_pos hc])
                  clear hvd hc
                  go_wp2
                  go_roundg (32 - (j + 1))
                  case measure => have := HJ.out; omega
                  case rel => exact ⟨j + 1, by have := HJ.out; omega, by go_num, by rw [HNX.out]; exact Lib.hid (HPJ.out.setW j 0), Lib.hid (HOJ.out.setCell (fun _ => by simp) _)⟩
                · have b5 : (v == (t : Int)) = false := by simp [hc]
                  have HNX := Lib.hid (show ownFree W t (j + 1) = ownFree W t j by rw [ownFree, hvd, if_neg hc])
                  clear hvd hc
                  go_wp2
                  go_roundg (32 - (j + 1))
                  case measure => have := HJ.out; omega
                  case rel => exact ⟨j + 1, by have := HJ.out; omega, by go_num, by rw [HNX.out]; exact HPJ, HOJ⟩
              · obtain rfl : j = 32 := by omega
                clear hj hjl
                go_wp2
                go_roundg (40 - (k + 1))
                case measure => have := HK2.out; omega
                case rel =>
                  have hlo := HP.out.lo
                  have hnb := HPD.out.nb
                  have hyl : ys.length ≤ H.length := by rw [HY.out]; exact List.length_filter_le _ _
                  refine ⟨k + 1, ys, A5, c5, F5, L, ownFree W t 32, upd I t [], upd O t [], f2, by have := HK2.out; omega, by go_num, rfl, Lib.hid (by rw [HY.out]; exact HI.out.free t ht1 ht3), Lib.hid (by have := HN.out; omega), Lib.hid (Rep.sl_only HS5.out HOJ.out (fun b hb hb' => by have := HF5.out b hb; simp at hb'; omega)), Lib.hid (fun g hg => ⟨by have := HF5.out g hg; omega, fun r a b hq => ?_⟩), HPJ, Lib.hid (fun s => ?_)⟩
                  · have h1 := ((HPD.out.row r a b).lt (HF2.out r g hq)).2
                    have h2 := HF5.out g hg
                    omega
                  · unfold upd
                    split
                    · simp
                    · have := HC.out s; omega
          case false =>
            go_upto_region 29 with fail
            obtain ⟨ow, how⟩ : ∃ v, W[id]? = some v := ⟨_, List.getElem?_eq_getElem (by rw [HI.out.wlen]; omega)⟩
            have hwd : W.getD id 0 = ow := by rw [List.getD_eq_getElem?_getD, how]; rfl
            obtain ⟨rb, hrb⟩ : ∃ rb, rb = roomForB L H id len := ⟨_, rfl⟩
            have HRB := Lib.hid hrb
            have HOW := Lib.hid how
            obtain ⟨bb, hbb⟩ : ∃ bb : Bool, bb = ((!(ow == 0) && !(ow == (t : Int))) || (decide (0 ≤ len) && !rb)) := ⟨_, rfl⟩
            have HBB := Lib.hid hbb
            have HWD := Lib.hid hwd
            have hid32 : (id : Int) < 32 := by omega
            go_cut [121] from 97 to 121 (fun s wx => s = .bool bb ∧ Hid (Ext wd wx))
            case first =>
              have cW := HPD.out.wb.cell how
              have fW := HPD.out.wb.frozen id
              have hcs : ((ow != 0) = true ∧ (ow != (t : Int)) = true ∧ bb = true) ∨ (((ow != 0) = false ∨ (ow != 0) = true ∧ (ow != (t : Int)) = false) ∧ ((0 ≤ len ∧ bb = !rb) ∨ (len < 0 ∧ bb = false))) := by
                rw [hbb]
                by_cases q1 : ow = 0
                · have a1 : (ow != 0) = false := by simp [q1]
                  have a2 : (ow == 0) = true := by simp [q1]
                  rw [a1, a2]
                  by_cases q3 : 0 ≤ len
                  · simp [q3]
                  · simp [q3]; omega
                · have a1 : (ow != 0) = true := by simp [q1]
                  have a2 : (ow == 0) = false := by simp [q1]
                  rw [a1, a2]
                  by_cases q2 : ow = t
                  · have a3 : (ow != (t : Int)) = false := by simp [q2]
                    have a4 : (ow == (t : Int)) = true := by simp [q2]
                    rw [a3, a4]
                    by_cases q3 : 0 ≤ len
                    · simp [q3]
                    · simp [q3]; omega
                  · have a3 : (ow != (t : Int)) = true := by simp [q2]
                    have a4 : (ow == (t : Int)) = false := by simp [q2]
                    rw [a3, a4]; simp
              clear how hwd hrb hbb HBB HWD
              rcases hcs with ⟨a1, a2, rfl⟩ | ⟨ha, ⟨hln, rfl⟩ | ⟨hln, rfl⟩⟩
              · go_wp2
                all_goals (go_meet; exact ⟨rfl, Lib.hid (Only.refl _ _)⟩)
              · rcases ha with a1 | ⟨a1, a2⟩
                all_goals
                  go_wp2_with (go_at_call 31; refine (roomFor32 HPD.out.lrow (by have := HPD.out.nb; omega) HI.out.len HI.out.rng A' c' H F' HSD.out hH0.out id (by omega) len hln hl1).mono ?_; rw [← HRB.out]; rintro e wx ⟨rfl, hE⟩; have HEX := Lib.hid hE; clear hE)
                  all_goals (go_meet; exact ⟨rfl, HEX⟩)
              · rcases ha with a1 | ⟨a1, a2⟩
                all_goals
                  go_wp2
                  all_goals (go_meet; exact ⟨rfl, Lib.hid (Only.refl _ _)⟩)
            case rest =>
              obtain ⟨rfl, HEX⟩ := hcut
              cases bb
              case true =>
                go_wp2
                go_roundg (40 - (k + 1))
                case measure => have := HK2.out; omega
                case rel => exact ⟨k + 1, H, A', c', F', L, W, I, O, f, by have := HK2.out; omega, by go_num, rfl, HI, Lib.hid (by have := HN.out; omega), Lib.hid (Rep.sl_ext HSD.out HEX.out), HF, Lib.hid (HPD.out.ext' HEX.out), Lib.hid (fun s => by have := HC.out s; omega)⟩
              case false =>
                have hw : W.getD id 0 = 0 ∨ W.getD id 0 = (t : Int) := by
                  rw [hwd]
                  by_cases q1 : ow = 0
                  · exact .inl q1
                  · by_cases q2 : ow = t
                    · exact .inr q2
                    · exfalso
                      have a2 : (ow == 0) = false := by simp [q1]
                      have a4 : (ow == (t : Int)) = false := by simp [q2]
                      rw [a2, a4] at hbb
                      simp at hbb
                have hr : len < 0 ∨ roomForB L H id len = true := by
                  rw [← hrb]
                  by_cases q3 : 0 ≤ len
                  · right
                    cases rb
                    · simp [q3] at hbb
                    · rfl
                  · left; omega
                obtain ⟨lv, hlv⟩ : ∃ v, L[id]? = some v := ⟨_, List.getElem?_eq_getElem (by rw [HI.out.len]; omega)⟩
                have hld : L.getD id 0 = lv := by rw [List.getD_eq_getElem?_getD, hlv]; rfl
                have hlr := HI.out.rng id (by omega)
                rw [hld] at hlr
                have hnew := HI.out.take (by have := HN.out; omega) t id len ht1 ht3 hidn ⟨hl0, hl1⟩ hw hr
                rw [hld] at hnew
                have HNW := Lib.hid hnew
                have HPX := Lib.hid (HPD.out.ext' HEX.out)
                have HSX := Lib.hid (Rep.sl_ext HSD.out HEX.out)
                obtain ⟨gL', hgg, cL, fL, -⟩ := HPX.out.lrow.cell hlv
                injection hgg with hgg
                injection hgg with hgg
                subst hgg
                have HLV := Lib.hid hlv; have HLR := Lib.hid hlr
                clear hbb hrb hwd hw hr hlv hld hlr hnew HRB HBB HWD
                go_wp2_with (go_at_call 20; refine (holdTakeLaw_calls A' c' H F' wc HSX.out t id lv len (by have := HN.out; omega) (nat_wf _ (by omega)) (nat_wf _ (by omega)) (small_wf HLR.out.1 HLR.out.2) (small_wf hl0 hl1)).mono ?_; rintro e we ⟨A5, c5, F5, ys, rfl, HY, HS5, HF5, HE5⟩; refine Hid.out ?_)
                refine Lib.hid ?_
                have HPY := Lib.hid (HPX.out.ext' HE5.out)
                have HP3 := Lib.hid (HPY.out.setW id t)
                obtain ⟨At, ct, hft, hnc, -⟩ := (HP3.out.row t ht1 (by omega)).form
                have hxt : XX I O t = I t := by simp [XX]; omega
                rw [hxt] at hft hnc
                obtain ⟨n, hn⟩ : ∃ n, n = (I t).length := ⟨_, rfl⟩
                rw [← hn] at hft hnc
                have HROW := Lib.hid (show ((we.setCell ⟨gW, id, none⟩ (.int .i64 (t : Int))).alloc (.cells #[.int .i64 (id : Int)] 2)).ownsRow nb 2 1 (.slice At n ct) n ((I t).map (Value.int .i64)) by
                  have hq := ((HP3.out.row t ht1 (by omega)).ext (alloc_ext _ (.cells #[.int .i64 (id : Int)] 2)))
                  unfold IR at hq
                  rw [hxt, hft, ← hn] at hq
                  exact hq)
                have hle : nb ≤ ((we.setCell ⟨gW, id, none⟩ (.int .i64 (t : Int))).alloc (.cells #[.int .i64 (id : Int)] 2)).heap.size := Nat.le_trans HP3.out.nb.2 (by simp)
                have hn40 : n ≤ 40 := by have := HC.out t; omega
                have hSa := Rep.sl_ext (Rep.sl_only HS5.out (show Only [gW] we (we.setCell ⟨gW, id, none⟩ (.int .i64 (t : Int))) from (Only.refl _ _).setCell (fun _ => by simp) _) (fun b hb hb' => by have h1 := HF5.out b hb; have h2 := HPX.out.nb.2; have h3 := HPX.out.lo; simp at hb'; omega)) (alloc_ext _ (.cells #[.int .i64 (id : Int)] 2))
                have HSA := Lib.hid hSa
                have cW := HPY.out.wb.cell how
                have fW := HPY.out.wb.frozen id
                have cI := HPY.out.ib.cell t ht1 (by omega)
                rw [hft] at cI
                have HFT := Lib.hid hft; have HXT := Lib.hid hxt; have HNI := Lib.hid hn
                obtain ⟨i0, hi, hz0, hz1, hz2⟩ := info_parts info2
                clear hSa hft hxt hn how cL fL
                go_wp2_with (at_builtin; go_must (refine wpList_append_own_at _ rfl _ _ 43 rfl nb 2 i0 _ 1 8 Try.underlying43 hi hz0 hz1 hz2 rfl (by decide) (.slice At n ct) n _ rfl HROW.out ⟨we.heap.size, 0, none⟩ 1 1 [.int .i64 (id : Int)] rfl rfl (cells_new' _ _ _ (by simp [World.setCell])) (by intro u hu; simp at hu; subst hu; rfl) (by unfold maxLen; omega) (by omega) hle ?_); intro v' w' hown hgrow hnil hat; obtain ⟨Av, cv, rfl⟩ := ownsRow_form hown; have HG := HP3.out.grow (alloc_ext _ (.cells #[.int .i64 (id : Int)] 2)) t t gI ⟨ht1, ht3⟩ (.inl ⟨rfl, rfl⟩) id (.slice Av (n + 1) cv) (by rw [HXT.out, ← HNI.out]; exact hown) (by rw [HFT.out]; exact hgrow) (by rw [HFT.out]; exact hat); have HSB := Lib.hid (Rep.sl_keep HSA.out (fun b hb => hgrow.block b (Rep.sl_lt HSA.out b hb) (fun he => by have h1 := HF5.out b hb; have h2 := ((HPX.out.row t ht1 (by omega)).lt (by rw [HFT.out]; exact he.symm)).2; omega))); have HAT := Lib.hid hat; have HWS := Lib.hid (show we.heap.size ≤ w'.heap.size from Nat.le_trans (by simp [World.setCell]) hgrow.size); clear cI cW fW; have cI := HG.1.out.cell t ht1 (by omega); have fI := HG.1.out.frozen t; clear hown hgrow hnil hat; refine Hid.out ?_)
                refine Lib.hid ?_
                go_upto_region 33 with fail
                obtain ⟨-, -, -, -, HP4⟩ := HG
                rw [HXT.out] at HP4
                have HP4' := Lib.hid (show PS w (w'.setCell ⟨gI, t, none⟩ (.slice Av (n + 1) cv)) nb gL cl gW gI gO L (W.set id t) (fun s => if s = t then .slice Av (n + 1) cv else f s) (XX (upd I t (I t ++ [(id : Int)])) O) by
                  have hq := HP4.out
                  rw [XX_I _ _ _ _ ht3] at hq
                  exact hq)
                have HSC := Lib.hid (Rep.sl_only HSB.out (show Only [gI] w' (w'.setCell ⟨gI, t, none⟩ (.slice Av (n + 1) cv)) from (Only.refl _ _).setCell (fun _ => by simp) _) (fun b hb hb' => by have h1 := HF5.out b hb; have h2 := HPX.out.nb.2; have h3 := HPX.out.lo; simp at hb'; omega))
                have hrows : ∀ r g, 1 ≤ r → r ≤ 6 → ((fun s => if s = t then Value.slice Av (n + 1) cv else f s) r).ownBlock = some g → g < wc.heap.size ∨ we.heap.size ≤ g := fun r g a b hq => by
                  dsimp only at hq
                  split at hq
                  · rcases HAT.out with h1 | h1
                    · rw [h1, ← HFT.out] at hq
                      exact .inl ((HPX.out.row t ht1 (by omega)).lt hq).2
                    · rw [h1] at hq
                      injection hq with hq
                      right
                      rw [← hq]
                      simp [World.setCell]
                  · exact .inl ((HPX.out.row r a b).lt hq).2
                have HRW := Lib.hid hrows
                generalize (fun s => if s = t then Value.slice Av (n + 1) cv else f s) = f1 at *
                have HW4 := Lib.hid (show w'.heap.size = (w'.setCell ⟨gI, t, none⟩ (.slice Av (n + 1) cv)).heap.size by simp [World.setCell])
                generalize w'.setCell ⟨gI, t, none⟩ (.slice Av (n + 1) cv) = W4 at *
                clear HP4 HSB HSA HROW HP3 HPY hrows hle cI fI HAT HFT HXT
                have HPQ := Lib.hid (HP4'.out.ext' ((Only.refl [] W4).drew))
                have hxo : XX (upd I t (I t ++ [(id : Int)])) O (t + 3) = O t := by simp [XX]; omega
                obtain ⟨Ao, co, hfo, hno, -⟩ := (HPQ.out.row (t + 3) (by omega) (by omega)).form
                rw [hxo] at hfo hno
                have hon : (O t).length = n := by rw [HNI.out]; exact HI.out.same t
                rw [hon] at hfo hno
                have HROW := Lib.hid (show (W4.drew.alloc (.cells #[.int .i64 lv] 2)).ownsRow nb 2 1 (.slice Ao n co) n ((O t).map (Value.int .i64)) by
                  have hq := ((HPQ.out.row (t + 3) (by omega) (by omega)).ext (alloc_ext _ (.cells #[.int .i64 lv] 2)))
                  unfold IR at hq
                  rw [hxo, hfo, hon] at hq
                  exact hq)
                have hle : nb ≤ (W4.drew.alloc (.cells #[.int .i64 lv] 2)).heap.size := Nat.le_trans HPQ.out.nb.2 (by simp)
                have cO := HPQ.out.ob.cell t ht1 (by omega)
                rw [hfo] at cO
                obtain ⟨gL', hgg, cL, fL, -⟩ := HPQ.out.lrow.cell HLV.out
                injection hgg with hgg
                injection hgg with hgg
                subst hgg
                have cO2 := (alloc_ext W4.drew (.cells #[.int .i64 lv] 2)).ecell cO
                have cL2 := (alloc_ext W4.drew (.cells #[.int .i64 lv] 2)).ecell cL
                have cO4 : (W4.alloc (.cells #[.int .i64 lv] 2)).cell? ⟨gO, t, none⟩ = some (.slice Ao n co) := cO2
                have cL4 : (W4.alloc (.cells #[.int .i64 lv] 2)).cell? ⟨gL, id, none⟩ = some (.int .i64 lv) := cL2
                have HFO := Lib.hid hfo; have HXO := Lib.hid hxo; have HON := Lib.hid hon
                clear hfo hxo hon
                go_cut [157] from 145 to 157 (fun s wx => ∃ f2, Hid (PS w wx nb gL cl gW gI gO L (W.set id t) f2 (upd (XX (upd I t (I t ++ [(id : Int)])) O) (t + 3) (XX (upd I t (I t ++ [(id : Int)])) O (t + 3) ++ [lv]))) ∧ Hid (Rep.Hold.sl wx A5 c5 ys F5) ∧ Hid (∀ g ∈ F5, ∀ r, 1 ≤ r → r ≤ 6 → (f2 r).ownBlock ≠ some g))
                case first =>
                  refine wp_region_noPanic ?_
                  refine wp_region_held_drew (S := (fun w' => True)) (by kernel_rfl) ?_ (fun hHeld => ?_)
                  · exact True.intro
                  refine wpAnyH_take (i := 0) (v := ?_) rfl (by kernel_rfl) (by kernel_rfl) (by kernel_rfl) (fun _ _ _ h => h) (Or.inl ⟨by rfl, ?_⟩) (by assumption) ?_
                  rotate_left
                  · intro w hSw; (try dsimp only at hSw); go_simp <;> with_reducible rfl
                  try simp only [Act.put, List.setIfInBounds_toArray, List.set_cons_zero, List.set_cons_succ]
                  refine wpAnyH_take (i := 1) (v := ?_) rfl (by kernel_rfl) (by kernel_rfl) (by kernel_rfl) (fun _ _ _ h => h) (Or.inl ⟨by rfl, ?_⟩) (by assumption) ?_
                  rotate_left
                  · intro w hSw; (try dsimp only at hSw); go_simp <;> with_reducible rfl
                  try simp only [Act.put, List.setIfInBounds_toArray, List.set_cons_zero, List.set_cons_succ]
                  refine wpAnyH_take (i := 2) (v := ?_) rfl (by kernel_rfl) (by kernel_rfl) (by kernel_rfl) (fun _ _ _ h => h) (Or.inl ⟨by rfl, ?_⟩) (by assumption) ?_
                  rotate_left
                  · intro w hSw; (try dsimp only at hSw); go_simp <;> with_reducible rfl
                  try simp only [Act.put, List.setIfInBounds_toArray, List.set_cons_zero, List.set_cons_succ]
                  refine wpAnyH_take (i := 3) (v := ?_) rfl (by kernel_rfl) (by kernel_rfl) (by kernel_rfl) (fun _ _ _ h => h) (Or.inl ⟨by rfl, ?_⟩) (by assumption) ?_
                  rotate_left
                  · intro w hSw; (try dsimp only at hSw); go_simp <;> with_reducible rfl
                  try simp only [Act.put, List.setIfInBounds_toArray, List.set_cons_zero, List.set_cons_succ]
                  refine wpAnyH_take (i := 4) (v := ?_) rfl (by kernel_rfl) (by kernel_rfl) (by kernel_rfl) (fun _ _ _ h => h) (Or.inl ⟨by rfl, ?_⟩) (by assumption) ?_
                  rotate_left
                  · intro w hSw; (try dsimp only at hSw); go_simp <;> with_reducible rfl
                  try simp only [Act.put, List.setIfInBounds_toArray, List.set_cons_zero, List.set_cons_succ]
                  refine wpAnyH_take (i := 6) (v := ?_) rfl (by kernel_rfl) (by kernel_rfl) (by kernel_rfl) (fun _ _ _ h => h) (Or.inl ⟨by rfl, ?_⟩) (by assumption) ?_
                  rotate_left
                  · intro w hSw; (try dsimp only at hSw); go_simp <;> with_reducible rfl
                  try simp only [Act.put, List.setIfInBounds_toArray, List.set_cons_zero, List.set_cons_succ]
                  refine wpAnyH_take (i := 7) (v := ?_) rfl (by kernel_rfl) (by kernel_rfl) (by kernel_rfl) (fun _ _ _ h => h) (Or.inl ⟨by rfl, ?_⟩) (by assumption) ?_
                  rotate_left
                  · intro w hSw; (try dsimp only at hSw); go_simp <;> with_reducible rfl
                  try simp only [Act.put, List.setIfInBounds_toArray, List.set_cons_zero, List.set_cons_succ]
                  refine wpAnyH_take (i := 8) (v := ?_) rfl (by kernel_rfl) (by kernel_rfl) (by kernel_rfl) (fun _ _ _ h => h) (Or.inl ⟨by rfl, ?_⟩) (by assumption) ?_
                  rotate_left
                  · intro w hSw; (try dsimp only at hSw); go_simp <;> with_reducible rfl
                  try simp only [Act.put, List.setIfInBounds_toArray, List.set_cons_zero, List.set_cons_succ]
                  refine wpAnyH_ready (rs := [5, 9]) (by kernel_rfl) (by simp) ?_
                  refine AllReadyH.cons rfl (fun K hK => ?_) ?_
                  · go_simp
                    refine hK.out _ _ ?_ (fun hHeld => ?_)
                    · exact True.intro
                    clear hK K
                    try simp only [Act.put, List.setIfInBounds_toArray, List.set_cons_zero, List.set_cons_succ]
                    refine wpAnyH_ready (rs := [9]) (by kernel_rfl) (by simp) ?_
                    refine AllReadyH.cons rfl (fun K hK => ?_) ?_
                    · go_simp
                      refine hK.out _ _ ?_ (fun hHeld => ?_)
                      · exact True.intro
                      clear hK K
                      try simp only [Act.put, List.setIfInBounds_toArray, List.set_cons_zero, List.set_cons_succ]
                      refine wpAnyH_ready (rs := [10]) (by kernel_rfl) (by simp) ?_
                      refine AllReadyH.cons rfl (fun K hK => ?_) ?_
                      · go_simp
                        refine hK.out _ _ ?_ (fun hHeld => ?_)
                        · exact True.intro
                        clear hK K
                        try simp only [Act.put, List.setIfInBounds_toArray, List.set_cons_zero, List.set_cons_succ]
                        refine wpAnyH_ready (rs := [11]) (by kernel_rfl) (by simp) ?_
                        refine AllReadyH.cons rfl (fun K hK => ?_) ?_
                        · refine step_append_own rfl _ _ 43 rfl nb 2 i0 (.int .i64 0) 1 8 Try.underlying43 hi hz0 hz1 hz2 rfl (by decide) (.slice Ao n co) n _ rfl HROW.out ⟨W4.heap.size, 0, none⟩ 1 1 [.int .i64 lv] rfl rfl (cells_new' _ _ _ rfl) (by intro u hu; simp at hu; subst hu; rfl) (by unfold maxLen; omega) (by omega) hle ?_
                          intro v2 w2 hown hgrow hnil hat
                          obtain ⟨Aw, cw, rfl⟩ := ownsRow_form hown
                          have HG := HPQ.out.grow (alloc_ext _ (.cells #[.int .i64 lv] 2)) t (t + 3) gO ⟨ht1, ht3⟩ (.inr ⟨rfl, rfl⟩) lv (.slice Aw (n + 1) cw) (by rw [HXO.out, HON.out]; exact hown) (by rw [HFO.out]; exact hgrow) (by rw [HFO.out]; exact hat)
                          have HSD := Lib.hid (Rep.sl_keep (Rep.sl_ext HSC.out (((Only.refl [] W4).drew).alloc (.cells #[.int .i64 lv] 2))) (fun b hb => hgrow.block b (Rep.sl_lt (Rep.sl_ext HSC.out (((Only.refl [] W4).drew).alloc (.cells #[.int .i64 lv] 2))) b hb) (fun he => by have h1 := HF5.out b hb; have h2 := Rep.sl_lt HS5.out b hb; have h3 := HRW.out (t + 3) b (by omega) (by omega) (by rw [HFO.out]; exact he.symm); omega)))
                          have HAT := Lib.hid hat
                          have cO3 := HG.2.1.out.cell t ht1 (by omega)
                          have fO3 := HG.2.1.out.frozen t
                          clear hown hgrow hnil hat
                          refine hK.out _ _ ?_ (fun hHeld => ?_)
                          · exact True.intro
                          clear hK K
                          try simp only [Act.put, List.setIfInBounds_toArray, List.set_cons_zero, List.set_cons_succ]
                          refine wpAnyH_take (i := 12) (v := ?_) rfl (by kernel_rfl) (by kernel_rfl) (by kernel_rfl) (fun _ _ _ h => h) (Or.inl ⟨by rfl, ?_⟩) (by assumption) ?_
                          rotate_left
                          · intro w hSw; (try dsimp only at hSw); go_simp <;> with_reducible rfl
                          try simp only [Act.put, List.setIfInBounds_toArray, List.set_cons_zero, List.set_cons_succ]
                          refine wpAnyH_ready (rs := [13]) (by kernel_rfl) (by simp) ?_
                          refine AllReadyH.cons rfl (fun K hK => ?_) ?_
                          · go_simp
                            refine hK.out _ _ ?_ (fun hHeld => ?_)
                            · exact True.intro
                            clear hK K
                            try simp only [Act.put, List.setIfInBounds_toArray, List.set_cons_zero, List.set_cons_succ]
                            refine wpAnyH_done (by kernel_rfl) ?_ _
                            refine NoPanic.normal ?_
                            go_wp2
                            go_meet
                            exact ⟨_, HG.2.2.2.2, Lib.hid (Rep.sl_only HSD.out (show Only [gO] w2 (w2.setCell ⟨gO, t, none⟩ (.slice Aw (n + 1) cw)) from (Only.refl _ _).setCell (fun _ => by simp) _) (fun b hb hb' => by have h1 := HF5.out b hb; have h2 := HPX.out.nb.2; have h3 := HPX.out.lo; simp at hb'; omega)), Lib.hid (grow_far HAT.out (fun hq => HRW.out (t + 3) _ (by omega) (by omega) (by rw [HFO.out]; exact hq)) HRW.out (fun b hb => HF5.out b hb) (fun b hb => Rep.sl_lt HS5.out b hb) (by have h1 := HWS.out; have h2 := HW4.out; simp; omega))⟩
                          exact AllReadyH.nil
                        exact AllReadyH.nil
                      exact AllReadyH.nil
                    exact AllReadyH.nil
                  refine AllReadyH.cons rfl (fun K hK => ?_) ?_
                  · go_simp
                    refine hK.out _ _ ?_ (fun hHeld => ?_)
                    · exact True.intro
                    clear hK K
                    try simp only [Act.put, List.setIfInBounds_toArray, List.set_cons_zero, List.set_cons_succ]
                    refine wpAnyH_ready (rs := [5, 10]) (by kernel_rfl) (by simp) ?_
                    refine AllReadyH.cons rfl (fun K hK => ?_) ?_
                    · go_simp
                      refine hK.out _ _ ?_ (fun hHeld => ?_)
                      · exact True.intro
                      clear hK K
                      try simp only [Act.put, List.setIfInBounds_toArray, List.set_cons_zero, List.set_cons_succ]
                      refine wpAnyH_ready (rs := [10]) (by kernel_rfl) (by simp) ?_
                      refine AllReadyH.cons rfl (fun K hK => ?_) ?_
                      · go_simp
                        refine hK.out _ _ ?_ (fun hHeld => ?_)
                        · exact True.intro
                        clear hK K
                        try simp only [Act.put, List.setIfInBounds_toArray, List.set_cons_zero, List.set_cons_succ]
                        refine wpAnyH_ready (rs := [11]) (by kernel_rfl) (by simp) ?_
                        refine AllReadyH.cons rfl (fun K hK => ?_) ?_
                        · refine step_append_own rfl _ _ 43 rfl nb 2 i0 (.int .i64 0) 1 8 Try.underlying43 hi hz0 hz1 hz2 rfl (by decide) (.slice Ao n co) n _ rfl HROW.out ⟨W4.heap.size, 0, none⟩ 1 1 [.int .i64 lv] rfl rfl (cells_new' _ _ _ rfl) (by intro u hu; simp at hu; subst hu; rfl) (by unfold maxLen; omega) (by omega) hle ?_
                          intro v2 w2 hown hgrow hnil hat
                          obtain ⟨Aw, cw, rfl⟩ := ownsRow_form hown
                          have HG := HPQ.out.grow (alloc_ext _ (.cells #[.int .i64 lv] 2)) t (t + 3) gO ⟨ht1, ht3⟩ (.inr ⟨rfl, rfl⟩) lv (.slice Aw (n + 1) cw) (by rw [HXO.out, HON.out]; exact hown) (by rw [HFO.out]; exact hgrow) (by rw [HFO.out]; exact hat)
                          have HSD := Lib.hid (Rep.sl_keep (Rep.sl_ext HSC.out (((Only.refl [] W4).drew).alloc (.cells #[.int .i64 lv] 2))) (fun b hb => hgrow.block b (Rep.sl_lt (Rep.sl_ext HSC.out (((Only.refl [] W4).drew).alloc (.cells #[.int .i64 lv] 2))) b hb) (fun he => by have h1 := HF5.out b hb; have h2 := Rep.sl_lt HS5.out b hb; have h3 := HRW.out (t + 3) b (by omega) (by omega) (by rw [HFO.out]; exact he.symm); omega)))
                          have HAT := Lib.hid hat
                          have cO3 := HG.2.1.out.cell t ht1 (by omega)
                          have fO3 := HG.2.1.out.frozen t
                          clear hown hgrow hnil hat
                          refine hK.out _ _ ?_ (fun hHeld => ?_)
                          · exact True.intro
                          clear hK K
                          try simp only [Act.put, List.setIfInBounds_toArray, List.set_cons_zero, List.set_cons_succ]
                          refine wpAnyH_take (i := 12) (v := ?_) rfl (by kernel_rfl) (by kernel_rfl) (by kernel_rfl) (fun _ _ _ h => h) (Or.inl ⟨by rfl, ?_⟩) (by assumption) ?_
                          rotate_left
                          · intro w hSw; (try dsimp only at hSw); go_simp <;> with_reducible rfl
                          try simp only [Act.put, List.setIfInBounds_toArray, List.set_cons_zero, List.set_cons_succ]
                          refine wpAnyH_ready (rs := [13]) (by kernel_rfl) (by simp) ?_
                          refine AllReadyH.cons rfl (fun K hK => ?_) ?_
                          · go_simp
                            refine hK.out _ _ ?_ (fun hHeld => ?_)
                            · exact True.intro
                            clear hK K
                            try simp only [Act.put, List.setIfInBounds_toArray, List.set_cons_zero, List.set_cons_succ]
                            refine wpAnyH_done (by kernel_rfl) ?_ _
                            refine NoPanic.normal ?_
                            go_wp2
                            go_meet
                            exact ⟨_, HG.2.2.2.2, Lib.hid (Rep.sl_only HSD.out (show Only [gO] w2 (w2.setCell ⟨gO, t, none⟩ (.slice Aw (n + 1) cw)) from (Only.refl _ _).setCell (fun _ => by simp) _) (fun b hb hb' => by have h1 := HF5.out b hb; have h2 := HPX.out.nb.2; have h3 := HPX.out.lo; simp at hb'; omega)), Lib.hid (grow_far HAT.out (fun hq => HRW.out (t + 3) _ (by omega) (by omega) (by rw [HFO.out]; exact hq)) HRW.out (fun b hb => HF5.out b hb) (fun b hb => Rep.sl_lt HS5.out b hb) (by have h1 := HWS.out; have h2 := HW4.out; simp; omega))⟩
                          exact AllReadyH.nil
                        exact AllReadyH.nil
                      exact AllReadyH.nil
                    refine AllReadyH.cons rfl (fun K hK => ?_) ?_
                    · go_simp
                      refine hK.out _ _ ?_ (fun hHeld => ?_)
                      · exact True.intro
                      clear hK K
                      try simp only [Act.put, List.setIfInBounds_toArray, List.set_cons_zero, List.set_cons_succ]
                      refine wpAnyH_ready (rs := [5]) (by kernel_rfl) (by simp) ?_
                      refine AllReadyH.cons rfl (fun K hK => ?_) ?_
                      · go_simp
                        refine hK.out _ _ ?_ (fun hHeld => ?_)
                        · exact True.intro
                        clear hK K
                        try simp only [Act.put, List.setIfInBounds_toArray, List.set_cons_zero, List.set_cons_succ]
                        refine wpAnyH_ready (rs := [11]) (by kernel_rfl) (by simp) ?_
                        refine AllReadyH.cons rfl (fun K hK => ?_) ?_
                        · refine step_append_own rfl _ _ 43 rfl nb 2 i0 (.int .i64 0) 1 8 Try.underlying43 hi hz0 hz1 hz2 rfl (by decide) (.slice Ao n co) n _ rfl HROW.out ⟨W4.heap.size, 0, none⟩ 1 1 [.int .i64 lv] rfl rfl (cells_new' _ _ _ rfl) (by intro u hu; simp at hu; subst hu; rfl) (by unfold maxLen; omega) (by omega) hle ?_
                          intro v2 w2 hown hgrow hnil hat
                          obtain ⟨Aw, cw, rfl⟩ := ownsRow_form hown
                          have HG := HPQ.out.grow (alloc_ext _ (.cells #[.int .i64 lv] 2)) t (t + 3) gO ⟨ht1, ht3⟩ (.inr ⟨rfl, rfl⟩) lv (.slice Aw (n + 1) cw) (by rw [HXO.out, HON.out]; exact hown) (by rw [HFO.out]; exact hgrow) (by rw [HFO.out]; exact hat)
                          have HSD := Lib.hid (Rep.sl_keep (Rep.sl_ext HSC.out (((Only.refl [] W4).drew).alloc (.cells #[.int .i64 lv] 2))) (fun b hb => hgrow.block b (Rep.sl_lt (Rep.sl_ext HSC.out (((Only.refl [] W4).drew).alloc (.cells #[.int .i64 lv] 2))) b hb) (fun he => by have h1 := HF5.out b hb; have h2 := Rep.sl_lt HS5.out b hb; have h3 := HRW.out (t + 3) b (by omega) (by omega) (by rw [HFO.out]; exact he.symm); omega)))
                          have HAT := Lib.hid hat
                          have cO3 := HG.2.1.out.cell t ht1 (by omega)
                          have fO3 := HG.2.1.out.frozen t
                          clear hown hgrow hnil hat
                          refine hK.out _ _ ?_ (fun hHeld => ?_)
                          · exact True.intro
                          clear hK K
                          try simp only [Act.put, List.setIfInBounds_toArray, List.set_cons_zero, List.set_cons_succ]
                          refine wpAnyH_take (i := 12) (v := ?_) rfl (by kernel_rfl) (by kernel_rfl) (by kernel_rfl) (fun _ _ _ h => h) (Or.inl ⟨by rfl, ?_⟩) (by assumption) ?_
                          rotate_left
                          · intro w hSw; (try dsimp only at hSw); go_simp <;> with_reducible rfl
                          try simp only [Act.put, List.setIfInBounds_toArray, List.set_cons_zero, List.set_cons_succ]
                          refine wpAnyH_ready (rs := [13]) (by kernel_rfl) (by simp) ?_
                          refine AllReadyH.cons rfl (fun K hK => ?_) ?_
                          · go_simp
                            refine hK.out _ _ ?_ (fun hHeld => ?_)
                            · exact True.intro
                            clear hK K
                            try simp only [Act.put, List.setIfInBounds_toArray, List.set_cons_zero, List.set_cons_succ]
                            refine wpAnyH_done (by kernel_rfl) ?_ _
                            refine NoPanic.normal ?_
                            go_wp2
                            go_meet
                            exact ⟨_, HG.2.2.2.2, Lib.hid (Rep.sl_only HSD.out (show Only [gO] w2 (w2.setCell ⟨gO, t, none⟩ (.slice Aw (n + 1) cw)) from (Only.refl _ _).setCell (fun _ => by simp) _) (fun b hb hb' => by have h1 := HF5.out b hb; have h2 := HPX.out.nb.2; have h3 := HPX.out.lo; simp at hb'; omega)), Lib.hid (grow_far HAT.out (fun hq => HRW.out (t + 3) _ (by omega) (by omega) (by rw [HFO.out]; exact hq)) HRW.out (fun b hb => HF5.out b hb) (fun b hb => Rep.sl_lt HS5.out b hb) (by have h1 := HWS.out; have h2 := HW4.out; simp; omega))⟩
                          exact AllReadyH.nil
                        exact AllReadyH.nil
                      exact AllReadyH.nil
                    exact AllReadyH.nil
                  exact AllReadyH.nil
                case rest =>
                  obtain ⟨f2, HP5', HSE, HFE⟩ := hcut
                  have HP5 := Lib.hid (show PS w wc nb gL cl gW gI gO L (W.set id t) f2 (XX (upd I t (I t ++ [(id : Int)])) (upd O t (O t ++ [lv]))) by
                    have hq := HP5'.out
                    rw [HXO.out, XX_O _ _ _ _ ht1] at hq
                    exact hq)
                  have HI2 := Lib.hid (show HInv (L.set id len) ys (W.set id t) (upd I t (I t ++ [(id : Int)])) (upd O t (O t ++ [lv])) ∧ 1 ≤ ys.length ∧ ys.length ≤ H.length + 1 by rw [HY.out]; exact HNW.out)
                  clear HP5' HNW HY HXO HFO HON HROW cO cO2 cO4 cL cL2 cL4 fL hle HPQ HP4' HSC HW4 HRW
                  obtain ⟨gL', hgg, cL, fL, -⟩ := HP5.out.lrow.cell HLV.out
                  injection hgg with hgg
                  injection hgg with hgg
                  subst hgg
                  have HP6 := Lib.hid (HP5.out.setL id len (by rw [HI.out.len]; omega))
                  have hyn : ((ys.length : Int) == 0) = false := beq_eq_false_iff_ne.2 (by have := HI2.out.2.1; omega)
                  obtain ⟨rl, hrl⟩ : ∃ rl, rl = roomL (L.set id len) ys 0 := ⟨_, rfl⟩
                  have hrl0 : decide (rl < 0) = false := by have := HI2.out.1.room; rw [← hrl] at this; simp; omega
                  have HRL := Lib.hid hrl
                  have HHF := Lib.hid (HI2.out.1.hd.fault (by have := HI2.out.2.2; have := HN.out; omega))
                  have hlen32 : (L.set id len).length = 32 := HI2.out.1.len
                  have HSL : Hid (Rep.Hold.sl (wc.setCell ⟨gL, id, none⟩ (.int .i64 len)) A5 c5 ys F5) := Lib.hid (Rep.sl_only HSE.out (show Only [gL] wc (wc.setCell ⟨gL, id, none⟩ (.int .i64 len)) from (Only.refl _ _).setCell (fun _ => by simp) _) (fun b hb hb' => by have h1 := HF5.out b hb; have h2 := HPX.out.nb.2; have h3 := HPX.out.lo; simp at hb'; omega))
                  clear hrl hlen32
                  go_wp2_with (first
                    | (go_at_call 30; refine (roomLeft32 (HP6.out.ext' HE8.out).lrow (Nat.le_trans (HP6.out.ext' HE8.out).nb.1 (HP6.out.ext' HE8.out).nb.2) HI2.out.1.len HI2.out.1.rng A5 c5 ys F5 (Rep.sl_ext HSL.out HE8.out) HHF.out).mono ?_; rw [← HRL.out]; rintro e w9 ⟨rfl, hE⟩; have HE9 := Lib.hid (HE8.out.ext hE); clear hE)
                    | (go_at_call 34; refine (implHoldsFault_calls A5 c5 ys F5 _ (Rep.sl_ext HSL.out HE7.out)).mono ?_; rw [HHF.out]; rintro e w8 ⟨rfl, hE⟩; have HE8 := Lib.hid (HE7.out.ext hE); clear hE)
                    | (go_at_call 33; refine (lwFits32 HP6.out.lrow (Nat.le_trans HP6.out.nb.1 HP6.out.nb.2) HI2.out.1.len HI2.out.1.rng HI2.out.1.two.fit.2).mono ?_; rintro e w7 ⟨rfl, hE⟩; have HE7 := Lib.hid hE; clear hE))
                  go_roundg (40 - (k + 1))
                  case measure => have := HK2.out; omega
                  case rel =>
                    refine ⟨k + 1, ys, A5, c5, F5, L.set id len, W.set id t, upd I t (I t ++ [(id : Int)]), upd O t (O t ++ [lv]), f2, by have := HK2.out; omega, by go_num, rfl, Lib.hid HI2.out.1, Lib.hid (by have := HI2.out.2.2; have := HN.out; omega), Lib.hid (Rep.sl_ext HSL.out HE9.out), Lib.hid (fun g hg => ⟨by have h1 := HF5.out g hg; have h2 := HPX.out.nb.2; omega, HFE.out g hg⟩), Lib.hid (HP6.out.ext' HE9.out), Lib.hid (fun s => ?_)⟩
                    unfold upd
                    split
                    · rename_i hs; rw [List.length_append, List.length_singleton]; have := HC.out t; omega
                    · have := HC.out s; omega
        · obtain rfl : k = 40 := by omega
          clear hk
          have HI2 := Lib.hid HI.out.two
          clear HI HN HF HS
          go_wp2_with fail
          go_loopg [16] 130 (fun m i wy => ∃ (j : Nat) (L : List Int) (I O : Nat → List Int) (f : Nat → Value), m + j = 130 ∧ i = .int .i64 j ∧ Hid (HInv2 L H I O) ∧ Hid (PS w wy nb gL cl gW gI gO L W f (XX I O)) ∧ Hid (∀ t, (I t).length ≤ 40))
          case atStart => exact ⟨0, L, I, O, f, by simp, rfl, HI2, HP, HC⟩
          case round =>
            clear HI2 HP HC HK2
            obtain ⟨j, L, I, O, f, hj, rfl, HI, HP, HC⟩ := hrel
            have HJ := Lib.hid hj
            by_cases hjl : j < 130
            · have e7 : IntKind.i64.wrap ((j : Int) + 1) = ((j + 1 : Nat) : Int) := by rw [IntKind.wrap_i64] <;> omega
              clear hj
              go_wp2_with (go_at_call 24; refine (lwN_calls A2 c2 ms F2 wr (Rep.sl_ext H02.out HP.out.ext) HLEN2.out _ 3 _ rfl (by omega) (by decide)).mono ?_; rintro e wa ⟨r1, rfl, h1, hE1⟩; have HE1 := Lib.hid hE1; clear hE1; refine Hid.out ?_)
              refine Lib.hid ?_
              obtain ⟨t, ht⟩ : ∃ t : Nat, t = r1 + 1 := ⟨_, rfl⟩
              have e5 : IntKind.i64.wrap (1 + (r1 : Int)) = (t : Int) := by rw [IntKind.wrap_i64] <;> omega
              have ht1 : 1 ≤ t := by omega
              have ht3 : t ≤ 3 := by omega
              clear h1 ht
              have ht4 : (t : Int) < 4 := by omega
              have HPA := Lib.hid (HP.out.ext' HE1.out)
              have hxi : XX I O t = I t := by simp [XX]; omega
              have hxo : XX I O (t + 3) = O t := by simp [XX]; omega
              obtain ⟨At, ct, hft, hnc, -⟩ := (HPA.out.row t ht1 (by omega)).form
              obtain ⟨Ao, co, hfo, hno, -⟩ := (HPA.out.row (t + 3) (by omega) (by omega)).form
              rw [hxi] at hft hnc
              rw [hxo, HI.out.same t] at hfo hno
              have hri := HPA.out.row t ht1 (by omega)
              have hro := HPA.out.row (t + 3) (by omega) (by omega)
              rw [hxi, hft] at hri
              rw [hxo, hfo, ← HI.out.same t] at hro
              obtain ⟨n, hn⟩ : ∃ n, n = (I t).length := ⟨_, rfl⟩
              rw [← hn] at hft hnc hfo hno
              have cI := HPA.out.ib.cell t ht1 (by omega)
              have fI := HPA.out.ib.frozen t
              have cO := HPA.out.ob.cell t ht1 (by omega)
              have fO := HPA.out.ob.frozen t
              rw [hft] at cI
              rw [hfo] at cO
              by_cases hn0 : n = 0
              · have b6 : ((n : Int) == 0) = true := by simp [hn0]
                clear hn hn0 hri hro hxi hxo hft hfo
                go_wp2
                go_roundg (130 - (j + 1))
                case measure => have := HJ.out; omega
                case rel => exact ⟨j + 1, L, I, O, f, by have := HJ.out; omega, by go_num, HI, HPA, HC⟩
              · have b6 : ((n : Int) == 0) = false := by simp [hn0]
                obtain ⟨p, hp⟩ : ∃ p, n = p + 1 := ⟨n - 1, by omega⟩
                have hn40 : n ≤ 40 := by have := HC.out t; omega
                have e8 : IntKind.i64.wrap ((n : Int) - 1) = (p : Int) := by rw [IntKind.wrap_i64] <;> omega
                have hpn : (p : Int) < (n : Int) := by omega
                have hpc : p ≤ ct := by omega
                have hpo : p ≤ co := by omega
                obtain ⟨id, g1, g2, o, g3, g4, g5, g6⟩ := HI.out.ent t p ht1 ht3 (by omega)
                have HG1 := Lib.hid g1; have HG3 := Lib.hid g3; have HNE := Lib.hid (show (I t).length = p + 1 by omega)
                obtain ⟨gi, rfl, cI2, -, -⟩ := hri.cell g1
                obtain ⟨go, rfl, cO2, -, -⟩ := hro.cell g3
                obtain ⟨lv, hlv⟩ : ∃ v, L[id]? = some v := ⟨_, List.getElem?_eq_getElem (by rw [HI.out.len]; omega)⟩
                obtain ⟨gL', hgg, cL, fL, -⟩ := HPA.out.lrow.cell hlv
                injection hgg with hgg
                injection hgg with hgg
                subst hgg
                have hid32 : (id : Int) < 32 := by omega
                have HLV := Lib.hid hlv
                have HRI := Lib.hid hri; have HRO := Lib.hid hro; have HFI := Lib.hid hft; have HFO := Lib.hid hfo; have HXI := Lib.hid hxi; have HXO := Lib.hid hxo; have HN := Lib.hid hn
                clear g1 g3 g4 g5 g6 hlv hri hro hft hfo hxi hxo hn hn0 hp hnc hno
                go_wp2_with fail
                refine region_tail 18 (by kernel_rfl) (by kernel_rfl) ?_
                simp only [List.take_succ_cons, List.take_zero, List.drop_succ_cons, List.drop_zero]
                repeat (first
                  | (refine WQ.skip (by rfl) ?_
                     try simp only [Act.put, List.setIfInBounds_toArray, List.set_cons_zero, List.set_cons_succ])
                  | (refine WQ.take ?_ (by rfl) (fun w' hw => ?_) ?_
                     rotate_left
                     · have cq0 := hw.ecell cI
                       have cq1 := hw.ecell cI2
                       have cq2 := hw.ecell cO
                       have cq3 := hw.ecell cO2
                       have cq4 := hw.ecell cL
                       unfold Oper.quietAt
                       go_simp
                       first
                         | done
                         | exact ⟨rfl, rfl⟩
                         | exact rfl
                     try simp only [Act.put, List.setIfInBounds_toArray, List.set_cons_zero, List.set_cons_succ]))
                refine WQ.nil ?_
                intro w5 hw5
                have HPB := Lib.hid (HPA.out.ext' hw5)
                have cL5 := hw5.ecell cL
                have fL5 : w5.frozen? ⟨gL, id, none⟩ = false := by
                  obtain ⟨_, hgg, _, hfr, -⟩ := HPB.out.lrow.cell HLV.out
                  injection hgg with hgg
                  injection hgg with hgg
                  subst hgg
                  exact hfr
                have cI5 := hw5.ecell cI
                have cO5 := hw5.ecell cO
                have fI5 := HPB.out.ib.frozen t
                have fO5 := HPB.out.ob.frozen t
                clear hw5 cL fL cI cI2 cO cO2 fI fO
                have HPL := Lib.hid (HPB.out.setL id o (by have := HI.out.len; omega))
                have HPI := Lib.hid (HPL.out.head t t gI ⟨ht1, ht3⟩ (.inl ⟨rfl, rfl⟩) (.slice (some ⟨gi, 0, none⟩) p ct) ((I t).take p) (by
                  have hq := HPL.out.row t ht1 (by omega)
                  rw [HXI.out, HFI.out, HN.out] at hq
                  exact hq.take p (by have := HNE.out; omega)) (fun s g a b hs hq => HPL.out.dis t s g ht1 (by omega) a b (Ne.symm hs) (by rw [HFI.out]; exact hq)))
                have HPO := Lib.hid (HPI.out.head t (t + 3) gO ⟨ht1, ht3⟩ (.inr ⟨rfl, rfl⟩) (.slice (some ⟨go, 0, none⟩) p co) ((O t).take p) (by
                  have hq := HPI.out.row (t + 3) (by omega) (by omega)
                  rw [if_neg (by omega), HFO.out] at hq
                  have hu : upd (XX I O) t ((I t).take p) (t + 3) = O t := by unfold upd; rw [if_neg (by omega)]; exact HXO.out
                  rw [hu] at hq
                  have hl : n = (O t).length := by rw [HN.out]; exact (HI.out.same t).symm
                  rw [hl] at hq
                  exact hq.take p (by have := HNE.out; have := HN.out; omega)) (fun s g a b hs hq => by
                    have h1 := HPI.out.dis (t + 3) s g (by omega) (by omega) a b (Ne.symm hs)
                    rw [if_neg (by omega : ¬ t + 3 = t), HFO.out] at h1
                    exact h1 hq))
                have HPZ := Lib.hid (show PS w (((w5.setCell ⟨gL, id, none⟩ (.int .i64 o)).setCell ⟨gI, t, none⟩ (.slice (some ⟨gi, 0, none⟩) p ct)).setCell ⟨gO, t, none⟩ (.slice (some ⟨go, 0, none⟩) p co)) nb gL cl gW gI gO (L.set id o) W (fun s => if s = t + 3 then .slice (some ⟨go, 0, none⟩) p co else if s = t then .slice (some ⟨gi, 0, none⟩) p ct else f s) (XX (upd I t ((I t).take p)) (upd O t ((O t).take p))) by
                  have hq := HPO.out
                  rw [XX_I _ _ _ _ ht3, XX_O _ _ _ _ ht1] at hq
                  exact hq)
                have HIZ := Lib.hid (HI.out.undo t p id o ht1 ht3 HNE.out HG1.out HG3.out)
                clear HPI HPO HPL HRI HRO
                go_wp2_with (go_at_call 33; refine (lwFits32 HPZ.out.lrow (Nat.le_trans HPZ.out.nb.1 HPZ.out.nb.2) HIZ.out.len HIZ.out.rng HIZ.out.fit.2).mono ?_; rintro e w7 ⟨rfl, hE⟩; have HE7 := Lib.hid hE; clear hE)
                go_roundg (130 - (j + 1))
                case measure => have := HJ.out; omega
                case rel =>
                  refine ⟨j + 1, L.set id o, _, _, _, by have := HJ.out; omega, by go_num, HIZ, Lib.hid (HPZ.out.ext' HE7.out), Lib.hid (fun s => ?_)⟩
                  unfold upd
                  split
                  · rw [List.length_take]; have := HC.out t; omega
                  · exact HC.out s
            · obtain rfl : j = 130 := by omega
              clear hj hjl
              go_wp2
              go_ret
              exact ⟨rfl, HP.out.ext⟩
end Go.Proofs.Ytildfjlekplgjaa
