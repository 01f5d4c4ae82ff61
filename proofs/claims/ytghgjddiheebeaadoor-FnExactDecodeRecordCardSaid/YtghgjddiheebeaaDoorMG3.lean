/- The program's PutNumber. -/
import Derived.Test.YtghgjddiheebeaaDoorMG2
import Derived.Shelf.Bin.BEAppendUint64
import Derived.Lib.BufferAt
import Derived.Shelf.Bytes.WriteAt
import Derived.Ground.NamesProg
import Derived.Lib.Hide
namespace Go.Proofs.YtghgjddiheebeaaDoor
open Go.RowKit Go.Shelf
set_option linter.unusedSimpArgs false
set_option linter.unusedVariables false
shelf_lay LaysBin.n44 Mn 44 at Tryd as laysA64
theorem beL_app : ∀ (a b v : Nat), beL (a + b) v = beL a (v / 256 ^ b) ++ beL b v
  | a, 0, v => by simp [beL]
  | a, b + 1, v => by
    have ih := beL_app a b (v / 256)
    rw [← Nat.add_assoc, beL, ih, beL, List.append_assoc, Nat.div_div_eq_div_mul, ← Nat.pow_succ']
theorem beL_drop (n v : Nat) (h8 : n ≤ 8) : (beL 8 v).drop (8 - n) = beL n v := by
  have h := beL_app (8 - n) n v
  rw [Nat.sub_add_cancel h8] at h
  rw [h, List.drop_append_of_le_length (by rw [beL_length]; exact Nat.le_refl _), List.drop_of_length_le (by rw [beL_length]; exact Nat.le_refl _), List.nil_append]
/-- binary.BigEndian.AppendUint64(nil, v). -/
theorem append64_new (w : World) (v : Nat) (hv : v < 18446744073709551616) :
    Calls Tryd.prog 122 #[.agg #[], .slice none 0 0, .int .u64 v] w fun e w' => ∃ g c cur, e = .returned (.slice (some ⟨g, 0, none⟩) 8 c) ∧ w.heap.size ≤ g ∧ 8 ≤ c ∧ c ≤ maxLen ∧
      w'.heap[g]? = some (.cells cur 5 (0, 0)) ∧ cur.size = c ∧ cur.toList.take 8 = (beL 8 v).map (Value.int .u8) ∧ Ext w w' := by
  have h0 := Any.binary_BE_AppendUint64 laysA64 w.heap.size 0 v hv _ [] w (World.ownsRow_nil _ _ _ _) (Nat.le_refl _) (by decide)
  refine h0.mono (fun e w' ⟨v', h1, h2, h3⟩ => ?_)
  rw [List.nil_append, beL_cells] at h2
  obtain ⟨-, ⟨-, h⟩ | ⟨g, c, cur, rfl, h4, h5, h6, h7, h8, h9⟩⟩ := h2
  · exact absurd h (by decide)
  · exact ⟨g, c, cur, h1, h4, h6, h7, h5, by simpa using h8, by simpa using h9, Only.of_below h3⟩
set_option maxRecDepth 100000 in
set_option maxHeartbeats 4000000 in
theorem implPut_new (w : World) (n v : Nat) (z nz : Int) (hz : z = v) (hnz : nz = n) (hn : n = 1 ∨ n = 2 ∨ n = 4 ∨ n = 8) (hv : v < 256 ^ n) (hv2 : v < 4611686018427387904) :
    Calls Tryd.prog 116 #[.int .i64 z, .int .i64 nz] w fun e w' => ∃ g o c, e = .returned (.slice (some ⟨g, o, none⟩) n c) ∧ w.heap.size ≤ g ∧
      (∀ j u, ((beL n v).map (Value.int .u8))[j]? = some u → w'.cell? ⟨g, o + j, none⟩ = some u) ∧ Ext w w' := by
  subst hz; subst hnz
  have g3 : ¬ (v : Int) < 0 := by omega
  have hw : IntKind.u64.wrap (v : Int) = (v : Int) := by rw [IntKind.wrap_u64]; omega
  rcases hn with rfl | rfl | rfl | rfl
  all_goals
    go_enter Tryd.func116, Tryd.ntmps116
    go_wp2_with (go_at_call 122; refine (append64_new _ v (by omega)).mono ?_; rintro e w1 ⟨g, c, cur, rfl, hg, hc, hcm, hb, hs, ht, hE⟩; unfold maxLen at hcm; have hb2 := Lib.hid hb; have ht2 := Lib.hid ht; clear hb ht)
    go_ret
    refine ⟨g, _, _, rfl, hg, ?_, hE⟩
    intro j u hj
    rw [← beL_drop _ v (by decide), List.map_drop, ← ht2.out] at hj
    rw [Lib.cell_of_heap hb2.out]
    simp only [List.getElem?_drop, List.getElem?_take, Array.getElem?_toList] at hj
    split at hj
    · exact hj
    · cases hj
end Go.Proofs.YtghgjddiheebeaaDoor
/- The writer of the program's records: its numbers. -/
namespace Go.Proofs.YtghgjddiheebeaaDoor
open Go.RowKit Go.Shelf
set_option linter.unusedSimpArgs false
set_option linter.unusedVariables false
shelf_lay LaysM.n180 Nm 180 at Tryd as laysW180
/-- The writer in block b (from B on) holds the bytes xs. -/
def WB (B b : Nat) (xs : List Int) (w : World) : Prop := LibA.IsBuffer 112 (fun _ => none) 5 B b 0 (xs.map (Value.int .u8)) w
/-- From w to w' nothing turned but the writer's block and its rows. -/
structure WK (B b : Nat) (w w' : World) : Prop where
  below : Below B w w'
  kept : Lib.OthersKept 5 (some b) w w'
theorem WK.refl (B b : Nat) (w : World) : WK B b w w := ⟨Below.refl B w, Lib.OthersKept.refl _ _ w⟩
theorem WK.trans {B b : Nat} {u v w : World} (h : WK B b u v) (k : WK B b v w) : WK B b u w := ⟨h.below.trans k.below, h.kept.trans k.kept⟩
theorem WK.ext {B b : Nat} {w w' : World} (h : Ext w w') (hB : B ≤ w.heap.size) : WK B b w w' :=
  ⟨⟨h.os, h.tape, h.output, h.size, fun k hk => h.block k (Nat.lt_of_lt_of_le hk hB) (by simp)⟩, fun k o hk hb ho => (h.block k (by
    rcases Nat.lt_or_ge k w.heap.size with h1 | h1
    · exact h1
    · rw [Array.getElem?_eq_none h1] at hk; cases hk) (by simp)).trans hk⟩
theorem WB.ext {B b : Nat} {xs : List Int} {w w' : World} (h : WB B b xs w) (hE : Ext w w') : WB B b xs w' := LibA.IsBuffer.old h (Only.below hE)
theorem WB.lt {B b : Nat} {xs : List Int} {w : World} (h : WB B b xs w) : b < w.heap.size := LibA.IsBuffer.lt h
theorem cell_add0 (w : World) (g o j : Nat) : w.cell? ((⟨g, o, none⟩ : Addr).add j) = w.cell? ⟨g, o + j, none⟩ := by
  unfold Addr.add
  cases j with
  | zero => rfl
  | succ j => rfl
theorem WB.write {B b : Nat} {xs : List Int} {w : World} (h : WB B b xs w) (g o c n : Nat) (cs : List Int) (hn : cs.length = n) (hg : g ≠ b)
    (hsrc : ∀ j u, (cs.map (Value.int .u8))[j]? = some u → w.cell? ⟨g, o + j, none⟩ = some u) (hlim : xs.length + n ≤ 140737488355328) :
    Calls Tryd.prog 94 #[.pointer (some ⟨b, 0, none⟩), .slice (some ⟨g, o, none⟩) n c] w fun e w' => e = .returned (.tuple #[.int .i64 n, .nilIface]) ∧ WB B b (xs ++ cs) w' ∧ WK B b w w' := by
  have h0 := Any.Buffer_Write_at laysW180 112 (fun _ => none) B b 0 (xs.map (Value.int .u8)) (cs.map (Value.int .u8)) ⟨g, o, none⟩ n c w h (Nat.le_of_lt (Nat.lt_of_le_of_lt h.1 h.lt)) (ints_cells1 xs) (by simpa using hn) hg (fun j v hj => (cell_add0 _ _ _ _).trans (hsrc j v hj)) (ints_cells1 cs) (by simpa using hlim)
  refine h0.mono (fun e w' ⟨h1, h2, h3, h4⟩ => ⟨h1, ?_, h3, h4⟩)
  rw [← List.map_append] at h2
  exact h2
set_option maxRecDepth 100000 in
set_option maxHeartbeats 4000000 in
theorem WB.num {B b : Nat} {xs : List Int} {w : World} (h : WB B b xs w) (n v : Nat) (z nz : Int) (hz : z = v) (hnz : nz = n) (hn : n = 1 ∨ n = 2 ∨ n = 4 ∨ n = 8) (hv : v < 256 ^ n) (hv2 : v < 4611686018427387904) (hlim : xs.length ≤ 1073741824) :
    Calls Tryd.prog 92 #[.pointer (some ⟨b, 0, none⟩), .int .i64 z, .int .i64 nz] w fun e w' => e = .returned (.tuple #[]) ∧ WB B b (xs ++ beL n v) w' ∧ WK B b w w' := by
  have HN := Lib.hid hn
  have HH := Lib.hid h
  have HV := Lib.hid hv
  have HZ := Lib.hid hz
  have HNZ := Lib.hid hnz
  have n8 := Lib.hid (show n ≤ 8 by omega)
  have HBW := Lib.hid (show B ≤ w.heap.size from Nat.le_of_lt (Nat.lt_of_le_of_lt h.1 h.lt))
  have HS0 := Lib.hid (show WK B b w w.drew from WK.ext (Only.refl _ _).drew HBW.out)
  clear hn h hv hz hnz
  go_enter Tryd.func92, Tryd.ntmps92
  go_wp2_with fail
  go_region_held3 (fun w' => WK B b w w') (first | exact HS0.out | exact WK.ext ((Only.refl _ _).drew.trans hE) HBW.out | exact (WK.ext ((Only.refl _ _).drew.trans hE) HBW.out).trans hk6) (first
    | (go_at_call 116; refine (implPut_new _ n v _ _ HZ.out HNZ.out HN.out HV.out hv2).mono ?_; rintro e w5 ⟨g, o, c, rfl, hg, hc, hE⟩)
    | (go_at_call 94; refine (WB.write (WB.ext HH.out ((Only.refl _ _).drew.trans hE)) g o c n (beL n v) (beL_length _ _) (Nat.ne_of_gt (Nat.lt_of_lt_of_le (WB.lt HH.out) hg)) hc (by have := n8.out; omega)).mono ?_; rintro e w6 ⟨rfl, h6, hk6⟩))
  rename_i hHeld
  go_wp2
  refine ⟨rfl, .tuple #[], ?_, rfl, h6, hHeld⟩
  simp [results, Tryd.results92, go_sem]
end Go.Proofs.YtghgjddiheebeaaDoor
/- The writer of the program's records: an empty write. -/
namespace Go.Proofs.YtghgjddiheebeaaDoor
open Go.RowKit Go.Shelf
set_option linter.unusedSimpArgs false
set_option linter.unusedVariables false
shelf_lay LaysM.n251 Nm 251 at Tryd as laysW251
set_option maxRecDepth 100000 in
set_option maxHeartbeats 4000000 in
theorem WB.write_nil {B b : Nat} {xs : List Int} {w : World} (h : WB B b xs w) (A : Option Addr) (ac : Nat) :
    Calls Tryd.prog 94 #[.pointer (some ⟨b, 0, none⟩), .slice A 0 ac] w fun e w' => e = .returned (.tuple #[.int .i64 0, .nilIface]) ∧ WB B b xs w' ∧ WK B b w w' := by
  obtain ⟨hB, v0, lr, hbk, -, -⟩ := id h
  have c2 : w.cell? ⟨b, 2, none⟩ = some (.int .i8 lr) := hbk.c2
  have f2 : w.frozen? ⟨b, 2, none⟩ = false := hbk.f 2
  have h' : WB B b xs (w.setCell ⟨b, 2, none⟩ (.int .i8 0)) := LibA.IsBuffer.setLast h 0
  have hk0 := Lib.hid (show WK B b w (w.setCell ⟨b, 2, none⟩ (.int .i8 0)) from ⟨(Below.refl B w).setCell (p := ⟨b, 2, none⟩) hB _, (Lib.OthersKept.refl _ _ w).setCell ⟨b, 2, none⟩ rfl _⟩)
  obtain ⟨i0, hi, -, hz1, -⟩ := info_parts info5
  have hce : ∀ d dLen dCap W, (Builtin.copy_ #[22, 22] 3 #[.slice d dLen dCap, .slice A 0 ac]).run Tryd.prog W = .ok (goInt 0) W := fun d dLen dCap W => run_copy_none W _ _ _ 5 d A dLen dCap 0 ac Tryd.underlying22 (by rw [hi]; simp [hz1]) (by simp)
  have HH := Lib.hid h'
  clear hbk v0 h h'
  go_enter Tryd.func94, Tryd.ntmps94
  go_wp2_with (go_at_call 117; refine (Any.Buffer_tryGrow_at laysW251 112 (fun _ => none) B b 0 0 (xs.map (Value.int .u8)) _ HH.out).mono ?_)
  rintro e W1 (⟨rfl, ys, hyl, hI, hbel, hk, hg⟩ | ⟨rfl, rfl, hnr⟩)
  · obtain rfl : ys = [] := List.eq_nil_of_length_eq_zero hyl
    rw [List.append_nil] at hI
    obtain ⟨-, lr2, hc⟩ := id hI
    have hWK := Lib.hid (hk0.out.trans ⟨hbel, hk⟩)
    obtain ⟨-, lr3, hc⟩ := LibA.IsBuffer.cases hI
    rcases hc with ⟨hb0, hbk2⟩ | ⟨g, cap, cur, hbk2, -, -, hnc, hcm, -, -, -⟩
    · have d0 : W1.cell? ⟨b, 0, none⟩ = some (.slice none 0 0) := hbk2.c0
      rw [hb0]
      go_wp2
      all_goals (go_ret2; exact ⟨rfl, hI, hWK.out⟩)
    · have d0 : W1.cell? ⟨b, 0, none⟩ = some (.slice (some ⟨g, 0, none⟩) (xs.map (Value.int .u8)).length cap) := hbk2.c0
      unfold maxLen at hcm
      go_wp2
      all_goals (go_ret2; exact ⟨rfl, hI, hWK.out⟩)
  · obtain ⟨_, _, _, _, hlt⟩ := hnr
    omega
end Go.Proofs.YtghgjddiheebeaaDoor
/- The writer of the program's records: what it holds is handed out. -/
namespace Go.Proofs.YtghgjddiheebeaaDoor
open Go.RowKit Go.Shelf
set_option linter.unusedSimpArgs false
set_option linter.unusedVariables false
set_option maxRecDepth 100000 in
set_option maxHeartbeats 4000000 in
theorem WB.bytes {B b : Nat} {xs : List Int} {w : World} (h : WB B b xs w) (hx : 0 < xs.length) :
    Calls Tryd.prog 95 #[.pointer (some ⟨b, 0, none⟩)] w fun e w' => ∃ g c cur, e = .returned (.slice (some ⟨g, 0, none⟩) xs.length c) ∧ B ≤ g ∧ w.heap[g]? = some (.cells cur 5 (0, 0)) ∧ xs.length ≤ c ∧ c ≤ maxLen ∧ cur.size = c ∧ cur.toList.take xs.length = xs.map (Value.int .u8) ∧ Ext w w' := by
  obtain ⟨-, lr, hc⟩ := LibA.IsBuffer.cases h
  rcases hc with ⟨hb0, hbk2⟩ | ⟨g, cap, cur, hbk2, hBg, hg, hnc, hcm, hcs, htk, hgb⟩
  · rw [List.map_eq_nil_iff] at hb0
    subst hb0
    exact absurd hx (by decide)
  rw [List.length_map] at hbk2 hnc htk
  have c0 : w.cell? ⟨b, 0, none⟩ = some (.slice (some ⟨g, 0, none⟩) xs.length cap) := hbk2.c0
  have c1 : w.cell? ⟨b, 1, none⟩ = some (.int .i64 0) := hbk2.c1
  have HP := Lib.hid (And.intro hBg (And.intro hg (And.intro hnc (And.intro hcm (And.intro hcs htk)))))
  have HD := Lib.hid (show Ext w w.drew from (Only.refl _ _).drew)
  have hcm' := hcm
  unfold maxLen at hcm'
  clear hbk2 h hBg hg hcs htk hgb hcm
  go_enter Tryd.func95, Tryd.ntmps95
  go_wp2_with fail
  go_region_held3 (fun w' => w'.cell? ⟨b, 0, none⟩ = some (.slice (some ⟨g, 0, none⟩) xs.length cap) ∧ w'.cell? ⟨b, 1, none⟩ = some (.int .i64 0)) (go_keep) (fail)
  go_wp2
  all_goals
    go_ret
    exact ⟨g, _, cur, rfl, HP.out.1, HP.out.2.1, HP.out.2.2.1, HP.out.2.2.2.1, HP.out.2.2.2.2.1, HP.out.2.2.2.2.2, HD.out⟩
end Go.Proofs.YtghgjddiheebeaaDoor
/- The writer of the program's records: a slot. -/
namespace Go.Proofs.YtghgjddiheebeaaDoor
open Go.RowKit Go.Shelf
set_option linter.unusedSimpArgs false
set_option linter.unusedVariables false
/-- The bytes of a slot. -/
def slotB (u : Bool) (bs : List Int) : List Int := if u then beL 1 1 ++ (beL 2 bs.length ++ bs) else beL 1 0
theorem WB.writeV {B b : Nat} {xs : List Int} {w : World} (h : WB B b xs w) (A : Option Addr) (c : Nat) (cs : List Int) (G : List Nat) (hs : (Rep.int .u8).sl w A c cs G) (hG : ∀ g ∈ G, g ≠ b) (hlim : xs.length + cs.length ≤ 140737488355328) :
    Calls Tryd.prog 94 #[.pointer (some ⟨b, 0, none⟩), .slice A cs.length c] w fun e w' => e = .returned (.tuple #[.int .i64 cs.length, .nilIface]) ∧ WB B b (xs ++ cs) w' ∧ WK B b w w' := by
  rcases hs.2.2 with ⟨h1, h2⟩ | ⟨g, off, G', cs', h1, h2, h3, h4, h5⟩
  · subst h1
    rw [List.append_nil]
    exact h.write_nil A c
  · subst h1
    exact h.write g off c cs.length cs rfl (hG g (by rw [h2]; simp)) (fun j u hj => (cell_add0 _ _ _ _).symm.trans (sl_all hs j u hj)) hlim
end Go.Proofs.YtghgjddiheebeaaDoor
/- The writer of the program's records: a slot. -/
namespace Go.Proofs.YtghgjddiheebeaaDoor
open Go.RowKit Go.Shelf
set_option linter.unusedSimpArgs false
set_option linter.unusedVariables false
set_option maxRecDepth 100000 in
set_option maxHeartbeats 4000000 in
theorem WB.slot {B b : Nat} {xs : List Int} {w : World} (h : WB B b xs w) (u : Bool) (A : Option Addr) (c : Nat) (bs : List Int) (G : List Nat) (hs : (Rep.int .u8).sl w A c bs G) (hG : ∀ g ∈ G, g < B) (hb : bs.length ≤ 1000) (hlim : xs.length ≤ 536870912) :
    Calls Tryd.prog 93 #[.pointer (some ⟨b, 0, none⟩), .agg #[.bool u, .slice A bs.length c]] w fun e w' => e = .returned (.tuple #[]) ∧ WB B b (xs ++ slotB u bs) w' ∧ WK B b w w' := by
  have HBW := Lib.hid (show B ≤ w.heap.size from Nat.le_of_lt (Nat.lt_of_le_of_lt h.1 h.lt))
  have HBB := Lib.hid h.1
  have HH := Lib.hid (h.ext (alloc_ext w (.cells #[.bool u, .slice A bs.length c] 33)))
  have HK := Lib.hid (WK.ext (b := b) (alloc_ext w (.cells #[.bool u, .slice A bs.length c] 33)) HBW.out)
  have HB := Lib.hid (heap_alloc_new w (.cells #[.bool u, .slice A bs.length c] 33))
  have HS := Lib.hid hs
  have HG := Lib.hid hG
  have hnb := Lib.hid (show some w.heap.size ≠ some b from fun e => absurd h.lt (by injection e with e; omega))
  clear h hs hG
  cases u
  · go_enter Tryd.func93, Tryd.ntmps93
    go_wp2_with (go_at_call 92; refine (HH.out.num 1 0 _ _ rfl rfl (by decide) (by decide) (by decide) (by omega)).mono ?_; rintro e w5 ⟨rfl, h5, k5⟩)
    refine ⟨rfl, .tuple #[], ?_, rfl, h5, HK.out.trans k5⟩
    simp [results, Tryd.results93, go_sem]
  · go_enter Tryd.func93, Tryd.ntmps93
    go_wp2_with (go_at_call 92; refine (HH.out.num 1 1 _ _ rfl rfl (by decide) (by decide) (by decide) (by omega)).mono ?_; rintro e w5 ⟨rfl, h5, k5⟩; have B5 := Lib.hid (k5.kept _ _ HB.out hnb.out (by intro c fz; simp)); have m5 := fun o => cell_of_row _ _ o _ _ _ B5.out; have H5 := Lib.hid h5; have K5 := Lib.hid k5; clear h5 k5; refine Hid.out ?_)
    refine Lib.hid ?_
    have q5 : w5.cell? ⟨w.heap.size, 1, none⟩ = some (.slice A bs.length c) := m5 1
    go_wp2_with (go_at_call 92; refine (H5.out.num 2 bs.length _ _ rfl rfl (by decide) (by omega) (by omega) (by simp [beL_length]; omega)).mono ?_; rintro e w6 ⟨rfl, h6, k6⟩; have B6 := Lib.hid (k6.kept _ _ B5.out hnb.out (by intro c fz; simp)); have m6 := fun o => cell_of_row _ _ o _ _ _ B6.out; have H6 := Lib.hid h6; have K6 := Lib.hid k6; clear h6 k6; refine Hid.out ?_)
    refine Lib.hid ?_
    have q6 : w6.cell? ⟨w.heap.size, 1, none⟩ = some (.slice A bs.length c) := m6 1
    have KA := Lib.hid ((HK.out.trans K5.out).trans K6.out)
    have S6 := Lib.hid (show (Rep.int .u8).sl w6.drew A c bs G from Rep.sl_keep HS.out (fun g hg => KA.out.below.block g (HG.out g hg)))
    have KD := Lib.hid (show WK B b w w6.drew from KA.out.trans (WK.ext (Only.refl _ _).drew (Nat.le_trans HBW.out KA.out.below.size)))
    clear m5 m6 q5
    go_wp2_with fail
    go_region_held3 (fun w' => WK B b w w' ∧ w'.cell? ⟨w.heap.size, 1, none⟩ = some (.slice A bs.length c)) (first | exact ⟨KD.out, q6⟩ | exact ⟨KD.out.trans k7, m7 1⟩) (first
      | (go_at_call 94; refine (WB.writeV (w := w6.drew) (H6.out.ext (Only.refl _ _).drew) A c bs G S6.out (fun g hg => by have := HG.out g hg; have := HBB.out; omega) (by simp [beL_length]; omega)).mono ?_; rintro e w7 ⟨rfl, h7, k7⟩; have B7 := Lib.hid (k7.kept _ _ B6.out hnb.out (by intro c fz; simp)); have m7 := fun o => cell_of_row _ _ o _ _ _ B7.out))
    refine ⟨rfl, .tuple #[], ?_, rfl, ?_, KD.out.trans k7⟩
    · simp [results, Tryd.results93, go_sem]
    · simpa [slotB, List.append_assoc] using h7
end Go.Proofs.YtghgjddiheebeaaDoor
