/- Disk: the data, how they lie in cells, and the laws' own functions over them. Printed by gen_fam.py, a program of this session. -/
import Derived.Test.YtdjcfcgkldokgaaFSectorWrite
import Derived.StillTailTactics
namespace Go.Proofs.Ytdjcfcgkldokgaa
open Go.RowKit
set_option linter.unusedSimpArgs false
set_option linter.unusedVariables false
set_option maxRecDepth 100000
set_option maxHeartbeats 8000000

structure DDisk where
  Durable : List Int
  Pending : List DSectorWrite
  deriving DecidableEq

def wfDisk (x : DDisk) : Prop := True

def Rep.Disk : Rep DDisk where
  sz := 2
  R := fun w x cs F => ∃ (A1 : Option Addr) (c1 : Nat) (F1 : List Nat), ∃ (A2 : Option Addr) (c2 : Nat) (F2 : List Nat), cs = [.slice A1 x.Durable.length c1, .slice A2 x.Pending.length c2] ∧ F = F1 ++ F2 ∧ wfDisk x ∧ (Rep.int .u8).sl w A1 c1 x.Durable F1 ∧ Rep.SectorWrite.sl w A2 c2 x.Pending F2
  val := fun | [a0, a1] => .agg #[a0, a1] | _ => undef
  len := by rintro w x cs F ⟨A1, c1, F1, A2, c2, F2, rfl, -⟩; rfl
  lt := by
    rintro w x cs F ⟨A1, c1, F1, A2, c2, F2, -, rfl, -, s1, s2⟩ g hg
    simp only [List.mem_append] at hg
    rcases hg with (hg | hg)
    · exact Rep.sl_lt s1 g hg
    · exact Rep.sl_lt s2 g hg
  keep := by
    rintro w w' x cs F ⟨A1, c1, F1, A2, c2, F2, rfl, rfl, hw, s1, s2⟩ hk
    exact ⟨A1, c1, _, A2, c2, _, rfl, rfl, hw, Rep.sl_keep s1 (fun b hb => hk b (by simp [hb])), Rep.sl_keep s2 (fun b hb => hk b (by simp [hb]))⟩

theorem val_Disk : ∀ (l : List Value), l.length = 2 → Rep.Disk.val l = .agg ⟨l⟩
  | [_, _], _ => rfl

theorem sl_Disk {w : World} {A : Option Addr} {c : Nat} {xs : List DDisk} {F : List Nat} (h : Rep.Disk.sl w A c xs F) (i : Nat) (hi : i < xs.length) :
    ∃ (g off : Nat) (A1 : Option Addr) (c1 : Nat) (F1 : List Nat) (A2 : Option Addr) (c2 : Nat) (F2 : List Nat), A = some ⟨g, off, none⟩ ∧ g < w.heap.size ∧ wfDisk (xs[i]) ∧ (Rep.int .u8).sl w A1 c1 (xs[i]).Durable F1 ∧ Rep.SectorWrite.sl w A2 c2 (xs[i]).Pending F2 ∧
      w.cell? ⟨g, off + i * 2, none⟩ = some (.slice A1 (xs[i]).Durable.length c1) ∧ w.cell? ⟨g, off + i * 2 + 1, none⟩ = some (.slice A2 (xs[i]).Pending.length c2) := by
  obtain ⟨g, off, d, G, e, hg, _, ⟨A1, c1, F1, A2, c2, F2, rfl, rfl, hw, s1, s2⟩, _, hc⟩ := Rep.sl_at h i hi
  exact ⟨g, off, A1, c1, _, A2, c2, _, e, hg, hw, s1, s2, hc 0 _ rfl, hc 1 _ rfl⟩

def wtDisk (x : DDisk) : Nat := x.Durable.length + wtSectorWriteS x.Pending
def wtDiskS (xs : List DDisk) : Nat := xs.length + (xs.map wtDisk).sum

theorem cells_Disk (w : World) (g o : Nat) (v0 v1 : Value) : ((w.setCell ⟨g, o, none⟩ v0).setCell ⟨g, o + 1, none⟩ v1) = w.setCells g o [v0, v1] := rfl

theorem szDisk_calls (v : Value) (x : DDisk) (F : List Nat) (left : Int) (w : World) (h : Rep.Disk.V w v x F) (h0 : 0 ≤ left) (h1 : left ≤ 4611686018427387904) :
    Calls Try.prog 10 #[v, .int .i64 left] w (SzPost left (wtDisk x) w) := by
  obtain ⟨_, ⟨A1, c1, F1, A2, c2, F2, rfl, rfl, hw, s1, s2⟩, rfl⟩ := h
  have hu_laws_Disk := Try.underlying25
  show Calls _ _ #[.agg #[_, _], _] _ _
  go_enter Try.func10, Try.ntmps10
  go_wp2_with fail
  refine (szByteS_calls _ _ _ _ _ h0 h1 (Nat.le_trans s1.1 s1.2.1)).mono ?_
  rintro e w1 ⟨⟨r1, rfl, hr1⟩, hO1⟩
  have HE1 := Lib.hid (Only.ext (alloc_ext w _) hO1)
  have HX1 := Lib.hid (hO1)
  obtain ⟨hc1, hf1⟩ := bcell HX1.out
  clear hO1
  rcases hr1 with rfl | ⟨ha1, hb1⟩
  · go_wp2
    go_ret
    exact ⟨⟨-1, rfl, .inl rfl⟩, HE1.out⟩
  have hl1 : r1 ≤ 4611686018427387904 := by omega
  have HB1 := Lib.hid hb1
  clear hb1
  go_wp2_with fail
  refine (szSectorWriteS_calls _ _ _ _ _ _ (Rep.sl_ext s2 HE1.out) ha1 hl1).mono ?_
  rintro e w2 ⟨⟨r2, rfl, hr2⟩, hO2⟩
  have HE2 := Lib.hid (Only.ext HE1.out hO2)
  have HX2 := Lib.hid (Only.ext HX1.out hO2)
  obtain ⟨hc2, hf2⟩ := bcell HX2.out
  clear hc1 hf1
  clear hO2
  rcases hr2 with rfl | ⟨ha2, hb2⟩
  · go_wp2
    go_ret
    exact ⟨⟨-1, rfl, .inl rfl⟩, HE2.out⟩
  have hl2 : r2 ≤ 4611686018427387904 := by omega
  have HB2 := Lib.hid hb2
  clear hb2
  go_wp2
  go_ret
  refine ⟨⟨r2, rfl, .inr ⟨ha2, ?_⟩⟩, HE2.out⟩
  have q1 := HB1.out
  have q2 := HB2.out
  unfold wtDisk
  omega

theorem toDisk_calls (v : Value) (x : DDisk) (F : List Nat) (w : World) (h : Rep.Disk.V w v x F) (hs : wtDisk x ≤ 1048576) :
    Calls Try.prog 12 #[v] w (NewPost Rep.Disk x w) := by
  obtain ⟨_, ⟨A1, c1, F1, A2, c2, F2, rfl, rfl, hw, s1, s2⟩, rfl⟩ := h
  have hu_laws_Disk := Try.underlying25
  have hu_impl_Disk := Try.underlying29
  simp only [wtDisk] at hs
  show Calls _ _ #[.agg #[_, _]] _ _
  go_enter Try.func12, Try.ntmps12
  go_wp2_with fail
  refine (toByteS_calls _ _ _ _ _ (Rep.sl_ext s1 (((alloc_ext _ _).alloc _).alloc _)) (by omega)).mono ?_
  rintro e w1 ⟨_, _, rfl, hV1, hN1⟩
  obtain ⟨B1, d1, rfl, q1⟩ := Rep.slice_V hV1
  clear hV1
  have HE1 := Lib.hid (Only.ext (F := []) (w := w) (((alloc_ext w _).alloc _).alloc _) hN1.ext)
  have HI1 : NewIn (w.heap.size + 3) w1 _ := NewIn.one hN1 (fun b hb => Rep.sl_lt q1 b hb) (by simp)
  obtain ⟨hc1, hf1⟩ := bcell hN1.ext
  have hz1 : w.heap.size + 3 ≤ w1.heap.size := by have := hN1.ext.size; simp at this; omega
  clear hN1
  go_wp2_with fail
  refine (toSectorWriteS_calls _ _ _ _ _ (Rep.sl_ext s2 ((by repeat (first | ((with_reducible apply Only.set); · exact fun h => absurd h (by dsimp only; omega)) | (with_reducible apply Only.alloc) | with_reducible exact HE1.out | with_reducible exact Only.refl _ _)))) (by omega)).mono ?_
  rintro e w2 ⟨_, _, rfl, hV2, hN2⟩
  obtain ⟨B2, d2, rfl, q2⟩ := Rep.slice_V hV2
  clear hV2
  have HE2 := Lib.hid (Only.ext (F := []) (w := w) (by repeat (first | ((with_reducible apply Only.set); · exact fun h => absurd h (by dsimp only; omega)) | (with_reducible apply Only.alloc) | with_reducible exact HE1.out | with_reducible exact Only.refl _ _)) hN2.ext)
  have hS2 : Only [w.heap.size + 1, w.heap.size + 2] w1 w2 := Only.ext (by repeat (first | ((with_reducible apply Only.set); · simp) | with_reducible exact Only.refl _ _)) hN2.ext
  have HI2 := (HI1.step (G := [w.heap.size + 1, w.heap.size + 2]) (by repeat (first | ((with_reducible apply Only.set); · simp) | with_reducible exact Only.refl _ _)) (by simp)).add hN2 (fun b hb => Rep.sl_lt q2 b hb) (by simp; omega)
  replace q1 := Rep.sl_far q1 hS2 (fun b hb => HI2.ge b (by simp [hb])) (by simp)
  obtain ⟨hc2, hf2⟩ := bcell hN2.ext
  have hz2 : w.heap.size + 3 ≤ w2.heap.size := by have := hS2.size; omega
  clear hN2 hS2
  have hcA2 := fun o => hc2 w.heap.size o (by first | (simp; omega) | simp | omega)
  have hfA2 := fun o => hf2 w.heap.size o (by first | (simp; omega) | simp | omega)
  have hcB2 := fun o => hc2 (w.heap.size + 1) o (by first | (simp; omega) | simp | omega)
  have hfB2 := fun o => hf2 (w.heap.size + 1) o (by first | (simp; omega) | simp | omega)
  have hcC2 := fun o => hc2 (w.heap.size + 1 + 1) o (by first | (simp; omega) | simp | omega)
  have hfC2 := fun o => hf2 (w.heap.size + 1 + 1) o (by first | (simp; omega) | simp | omega)
  clear hc2 hf2
  go_wp2
  refine bodyPost_ret (v := .agg #[.slice B1 x.Durable.length d1, .slice B2 x.Pending.length d2]) (by simp [results, Try.results12, go_sem, hc1, hcA2, hcB2, hcC2]) rfl ?_
  exact ⟨_, _, rfl, ⟨_, ⟨B1, d1, _, B2, d2, _, rfl, rfl, hw, Rep.sl_far q1 (n := w.heap.size + 3) (G := [w.heap.size + 1, w.heap.size + 2]) (by repeat (first | ((with_reducible apply Only.set); · simp) | with_reducible exact Only.refl _ _)) (fun b hb => HI2.ge b (by simp [hb])) (by simp), Rep.sl_far q2 (n := w.heap.size + 3) (G := [w.heap.size + 1, w.heap.size + 2]) (by repeat (first | ((with_reducible apply Only.set); · simp) | with_reducible exact Only.refl _ _)) (fun b hb => HI2.ge b (by simp [hb])) (by simp)⟩, rfl⟩, NewIn.mk_ (NewIn.more (HI2.step (G := [w.heap.size + 1, w.heap.size + 2]) (by repeat (first | ((with_reducible apply Only.set); · simp) | with_reducible exact Only.refl _ _)) (by simp)) (by omega)) (by repeat (first | ((with_reducible apply Only.set); · exact fun h => absurd h (by dsimp only; omega)) | (with_reducible apply Only.alloc) | with_reducible exact HE2.out | with_reducible exact Only.refl _ _))⟩

theorem eqDisk_calls (v : Value) (x : DDisk) (F : List Nat) (u : Value) (y : DDisk) (G : List Nat) (w : World) (h : Rep.Disk.V w v x F) (k : Rep.Disk.V w u y G) :
    Calls Try.prog 14 #[v, u] w fun e w' => e = .returned (.bool (decide (x = y))) ∧ Ext w w' := by
  obtain ⟨_, ⟨A1, c1, F1, A2, c2, F2, rfl, rfl, hw, s1, s2⟩, rfl⟩ := h
  obtain ⟨_, ⟨B1, d1, G1, B2, d2, G2, rfl, rfl, hv, t1, t2⟩, rfl⟩ := k
  have hu_impl_Disk := Try.underlying29
  show Calls _ _ #[.agg #[_, _], .agg #[_, _]] _ _
  go_enter Try.func14, Try.ntmps14
  go_wp2_with fail
  refine (eqByteS_calls _ _ _ _ _ _ _ _ _ (Rep.sl_ext s1 ((alloc_ext _ _).alloc _)) (Rep.sl_ext t1 ((alloc_ext _ _).alloc _))).mono ?_
  rintro e w1 ⟨rfl, hO1⟩
  have HE1 := Lib.hid (Only.ext ((alloc_ext w _).alloc _) hO1)
  have HX1 := Lib.hid (hO1)
  obtain ⟨hc1, hf1⟩ := bcell HX1.out
  clear hO1
  by_cases q1 : x.Durable = y.Durable
  rotate_left
  · have b1 : decide (x.Durable = y.Durable) = false := by simp [q1]
    have Q1 := Lib.hid q1
    clear q1
    go_wp2_with fail
    go_ret
    exact ⟨ret_bool (by symm; rw [decide_eq_false_iff_not]; rintro rfl; exact Q1.out rfl), HE1.out⟩
  have b1 : decide (x.Durable = y.Durable) = true := by simp [q1]
  have E_Durable := Lib.hid q1
  clear q1
  go_wp2_with fail
  refine (eqSectorWriteS_calls _ _ _ _ _ _ _ _ _ (Rep.sl_ext s2 HE1.out) (Rep.sl_ext t2 HE1.out)).mono ?_
  rintro e w2 ⟨rfl, hO2⟩
  have HE2 := Lib.hid (Only.ext HE1.out hO2)
  have HX2 := Lib.hid (Only.ext HX1.out hO2)
  obtain ⟨hc2, hf2⟩ := bcell HX2.out
  clear hc1 hf1
  clear hO2
  by_cases q2 : x.Pending = y.Pending
  rotate_left
  · have b2 : decide (x.Pending = y.Pending) = false := by simp [q2]
    have Q2 := Lib.hid q2
    clear q2
    go_wp2_with fail
    go_ret
    exact ⟨ret_bool (by symm; rw [decide_eq_false_iff_not]; rintro rfl; exact Q2.out rfl), HE2.out⟩
  have b2 : decide (x.Pending = y.Pending) = true := by simp [q2]
  have E_Pending := Lib.hid q2
  clear q2
  go_wp2_with fail
  go_ret
  exact ⟨ret_bool (by symm; rw [decide_eq_true_iff]; cases x; cases y; simp only [DDisk.mk.injEq]; exact ⟨E_Durable.out, E_Pending.out⟩), HE2.out⟩

def ctTopDisk (x : DDisk) : Nat := x.Durable.length + ctSectorWriteS x.Pending
theorem ctTopDisk_wt (x : DDisk) : ctTopDisk x ≤ 64 * wtDisk x := by
  have := ctSectorWriteS_wt (x.Pending)
  simp only [ctTopDisk, wtDisk]
  omega
def mkTopDisk (k : Int) (x : DDisk) : DDisk := ⟨mkB (k) x.Durable, mkSectorWriteS (k + x.Durable.length) x.Pending⟩

theorem markDisk_at (x : DDisk) (A1 : Option Addr) (c1 : Nat) (F1 : List Nat) (A2 : Option Addr) (c2 : Nat) (F2 : List Nat) (k : Int) (w : World) (s1 : (Rep.int .u8).sl w A1 c1 x.Durable F1) (s2 : Rep.SectorWrite.sl w A2 c2 x.Pending F2) (hn : (F1 ++ F2).Nodup) (hu : Unfr w (F1 ++ F2)) (h0 : 0 ≤ k) (hk : k + ctTopDisk x ≤ 4611686018427387904) :
    Calls Try.prog 15 #[.agg #[.slice A1 x.Durable.length c1, .slice A2 x.Pending.length c2], .int .i64 k] w fun e w' => e = .returned (.int .i64 (k + ctTopDisk x)) ∧ ((Rep.int .u8).sl w' A1 c1 (mkTopDisk k x).Durable F1 ∧ Rep.SectorWrite.sl w' A2 c2 (mkTopDisk k x).Pending F2) ∧ Only (F1 ++ F2) w w' ∧ Unfr w' (F1 ++ F2) := by
  have hlF : ∀ g ∈ F1 ++ F2, g < w.heap.size := by
    intro g hg
    simp only [List.mem_append] at hg
    rcases hg with (hg | hg)
    · exact Rep.sl_lt s1 g hg
    · exact Rep.sl_lt s2 g hg
  obtain ⟨n1, n2, D2⟩ := List.nodup_append.1 hn
  unfold ctTopDisk at hk
  simp only [mkTopDisk]
  have hu_impl_Disk := Try.underlying29
  go_enter Try.func15, Try.ntmps15
  go_wp2_with fail
  have HF0 := Lib.hid (Box.start hlF hu #[.slice A1 x.Durable.length c1, .slice A2 x.Pending.length c2] 29)
  replace s1 := Rep.sl_ext s1 (alloc_ext w (.cells #[.slice A1 x.Durable.length c1, .slice A2 x.Pending.length c2] 29))
  replace s2 := Rep.sl_ext s2 (alloc_ext w (.cells #[.slice A1 x.Durable.length c1, .slice A2 x.Pending.length c2] 29))
  refine (markByteS_calls _ _ _ _ _ _ s1 n1 (fun b hb o => HF0.out.unfr b (by simp [hb]) o) (by omega) (by omega)).mono ?_
  rintro e w1 ⟨rfl, s1', hO, hu1⟩
  have HF1 := Lib.hid (HF0.out.call hO (fun b hb => (by simp [hb])) hu1)
  replace s2 := Rep.sl_only s2 hO (fun b hb hb' => D2 b (by simp [hb']) b hb rfl)
  clear s1
  have s1 := s1'
  clear s1'
  have hb1 := fun o => HF1.out.cell o
  clear hO hu1
  go_wp2_with fail
  refine (markSectorWriteS_calls _ _ _ _ _ _ s2 n2 (fun b hb o => HF1.out.unfr b (by simp [hb]) o) (by omega) (by omega)).mono ?_
  rintro e w2 ⟨rfl, s2', hO, hu2⟩
  have HF2 := Lib.hid (HF1.out.call hO (fun b hb => (by simp [hb])) hu2)
  replace s1 := Rep.sl_only s1 hO (fun b hb hb' => D2 b (by simp [hb]) b hb' rfl)
  clear s2
  have s2 := s2'
  clear s2'
  have hb2 := fun o => HF2.out.cell o
  clear hO hu2
  go_wp2
  go_ret
  exact ⟨ret_int (by unfold ctTopDisk; omega), ⟨s1, s2⟩, HF2.out.only, HF2.out.unfr⟩

theorem markDisk_calls (v : Value) (x : DDisk) (F : List Nat) (k : Int) (w : World) (h : Rep.Disk.V w v x F) (hn : F.Nodup) (hu : Unfr w F) (h0 : 0 ≤ k) (hk : k + ctTopDisk x ≤ 4611686018427387904) :
    Calls Try.prog 15 #[v, .int .i64 k] w fun e w' => e = .returned (.int .i64 (k + ctTopDisk x)) ∧ Rep.Disk.V w' v (mkTopDisk k x) F ∧ Only F w w' ∧ Unfr w' F := by
  obtain ⟨_, ⟨A1, c1, F1, A2, c2, F2, rfl, rfl, hw, s1, s2⟩, rfl⟩ := h
  refine (markDisk_at x _ _ _ _ _ _ k w s1 s2 hn hu h0 hk).mono ?_
  rintro e w1 ⟨rfl, ⟨s1', s2'⟩, hO, hu1⟩
  exact ⟨rfl, ⟨_, ⟨A1, c1, _, A2, c2, _, (by simp [mkB_len, mkSectorWriteS_len, mkTopDisk]), rfl, (by first | trivial | simpa [wfDisk, mkTopDisk] using hw), s1', s2'⟩, rfl⟩, hO, hu1⟩

theorem heldDisk_calls (v : Value) (x : DDisk) (F : List Nat) (k : Int) (w : World) (h : Rep.Disk.V w v (mkTopDisk k x) F) (h0 : 0 ≤ k) (hk : k + ctTopDisk x ≤ 4611686018427387904) :
    Calls Try.prog 16 #[v, .int .i64 k] w fun e w' => e = .returned (.int .i64 (k + ctTopDisk x)) ∧ Ext w w' := by
  obtain ⟨_, ⟨A1, c1, F1, A2, c2, F2, rfl, rfl, hw, s1, s2⟩, rfl⟩ := h
  unfold ctTopDisk at hk
  have hu_impl_Disk := Try.underlying29
  show Calls _ _ #[.agg #[_, _], _] _ _
  simp only [mkB_len, mkSectorWriteS_len, mkTopDisk] at s1 s2
  simp only [mkB_len, mkSectorWriteS_len, mkTopDisk]
  go_enter Try.func16, Try.ntmps16
  go_wp2_with fail
  refine (heldByteS_calls _ _ _ _ _ _ (Rep.sl_ext s1 (alloc_ext _ _)) (by omega) (by omega)).mono ?_
  rintro e w1 ⟨rfl, hO1⟩
  have HE1 := Lib.hid (Only.ext (alloc_ext w _) hO1)
  have HX1 := Lib.hid (hO1)
  obtain ⟨hc1, hf1⟩ := bcell HX1.out
  clear hO1
  go_wp2_with fail
  refine (heldSectorWriteS_calls _ _ _ _ _ _ (Rep.sl_ext s2 HE1.out) (by omega) (by omega)).mono ?_
  rintro e w2 ⟨rfl, hO2⟩
  have HE2 := Lib.hid (Only.ext HE1.out hO2)
  have HX2 := Lib.hid (Only.ext HX1.out hO2)
  obtain ⟨hc2, hf2⟩ := bcell HX2.out
  clear hc1 hf1
  clear hO2
  go_wp2
  go_ret
  exact ⟨ret_int (by unfold ctTopDisk; omega), HE2.out⟩

end Go.Proofs.Ytdjcfcgkldokgaa
