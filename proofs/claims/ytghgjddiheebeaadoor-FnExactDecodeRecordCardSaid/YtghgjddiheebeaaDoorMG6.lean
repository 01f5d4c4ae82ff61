/- The program's GetNumber. -/
import Derived.Test.YtghgjddiheebeaaDoorMG5
import Derived.Laws.Bits64b
import Derived.Test.YtghgjddiheebeaaDoorMG2
import Derived.Laws.BytesArg
import Derived.Shelf.Bytes.SlSmallAll
import Derived.Test.YtghgjddiheebeaaDoorMFRecordResult
import Derived.Deep.RegionHeld3
namespace Go.Proofs.YtghgjddiheebeaaDoor
open Go.RowKit
set_option linter.unusedSimpArgs false
set_option linter.unusedVariables false
theorem getNum_lt {l : List Int} (hw : ∀ z ∈ l, 0 ≤ z ∧ z ≤ 255) (h8 : l.length ≤ 8) : getNum l = if Lib.beZ l ≤ 9223372036854775807 then Lib.beZ l else -1 := by
  unfold getNum
  have hr := beFromZ_range l 0 hw
  by_cases hb : l.length = 8 ∧ l.getD 0 0 > 127
  · rw [if_pos hb]
    obtain ⟨hl, hg⟩ := hb
    match l, hl with
    | z :: r, hl =>
      have hr2 := beFromZ_range r z (fun y hy => hw y (by simp [hy]))
      have hl7 : r.length = 7 := by simpa using hl
      rw [hl7] at hr2
      have h5 : (256 : Int) ^ 7 = 72057594037927936 := by decide
      rw [h5] at hr2
      simp only [List.getD_cons_zero] at hg
      have e : Lib.beZ (z :: r) = Lib.beFromZ z r := by
        show Lib.beFromZ 0 (z :: r) = _
        simp [Lib.beFromZ]
      rw [if_neg (by rw [e]; omega)]
  · rw [if_neg hb]
    have hm : Lib.beZ l ≤ 9223372036854775807 := by
      by_cases hl : l.length = 8
      · match l, hl with
        | z :: r, hl =>
          have hr2 := beFromZ_range r z (fun y hy => hw y (by simp [hy]))
          have hl7 : r.length = 7 := by simpa using hl
          rw [hl7] at hr2
          have h5 : (256 : Int) ^ 7 = 72057594037927936 := by decide
          rw [h5] at hr2
          have hg : ¬ z > 127 := fun h => hb ⟨hl, by simpa using h⟩
          have e : Lib.beZ (z :: r) = Lib.beFromZ z r := by
            show Lib.beFromZ 0 (z :: r) = _
            simp [Lib.beFromZ]
          rw [e]; omega
      · have h6 := pow256_mono (show l.length ≤ 7 by omega)
        have h5 : (256 : Int) ^ 7 = 72057594037927936 := by decide
        rw [h5] at h6
        have : Lib.beZ l = Lib.beFromZ 0 l := rfl
        omega
    rw [if_pos hm]
set_option maxRecDepth 100000 in
set_option maxHeartbeats 2000000 in
theorem implGet_calls (w : World) (g off c : Nat) (l : List Int) (F : List Nat) (h : (Rep.int .u8).sl w (some ⟨g, off, none⟩) c l F) (h1 : 1 ≤ l.length) (h8 : l.length ≤ 8) :
    Calls Tryd.prog 120 #[.slice (some ⟨g, off, none⟩) l.length c] w fun e w' => e = .returned (.int .i64 (getNum l)) ∧ Ext w w' := by
  have hw : ∀ z ∈ l, 0 ≤ z ∧ z ≤ 255 := fun z hz => Lib.byte_of_wf (sl_wf h z hz)
  have HC := Lib.hid (fun i hi => sl_byte h i hi)
  obtain ⟨n, hn⟩ : ∃ n, n = l.length := ⟨_, rfl⟩
  obtain ⟨R, hR⟩ : ∃ R, R = getNum l := ⟨_, rfl⟩
  obtain ⟨up, hup⟩ : ∃ up : Nat → Nat, up = fun i => (Lib.beZ (l.take i)).toNat := ⟨_, rfl⟩
  have hup0 : ∀ i, 0 ≤ Lib.beZ (l.take i) ∧ Lib.beZ (l.take i) < 256 ^ (l.take i).length := fun i => by
    have := beFromZ_range (l.take i) 0 (fun z hz => hw z (List.mem_of_mem_take hz))
    rw [Int.zero_mul, Int.zero_add, Int.one_mul] at this
    exact this
  have HU0 := Lib.hid (show up 0 = 0 by rw [hup]; rfl)
  have HUS := Lib.hid (show ∀ i, i < n → (up (i + 1) : Int) = up i * 256 + l.getD i 0 by
    rw [hup, hn]; intro i hi; have := beZ_take l i hi; have h1 := (hup0 i).1; have h2 := (hup0 (i + 1)).1; dsimp only; omega)
  have HUB := Lib.hid (show ∀ i, i < n → up i < 72057594037927936 by
    rw [hup, hn]; intro i hi
    have h1 := hup0 i
    have h2 := pow256_mono (show (l.take i).length ≤ 7 by rw [List.length_take]; omega)
    have h5 : (256 : Int) ^ 7 = 72057594037927936 := by decide
    rw [h5] at h2
    dsimp only; omega)
  have HUN := Lib.hid (show (up n : Int) = Lib.beZ l by rw [hup, hn]; have := (hup0 l.length).1; dsimp only; rw [List.take_length] at this ⊢; omega)
  have HGR := Lib.hid (show R = if Lib.beZ l ≤ 9223372036854775807 then Lib.beZ l else -1 by rw [hR]; exact getNum_lt hw h8)
  have HWB := Lib.hid (show ∀ i, i < n → 0 ≤ l.getD i 0 ∧ l.getD i 0 ≤ 255 by
    rw [hn]; intro i hi; rw [List.getD_eq_getElem?_getD, List.getElem?_eq_getElem hi]; exact hw _ (List.getElem_mem hi))
  rw [← hR, ← hn]
  rw [← hn] at HC h1 h8
  clear hR hup hup0 h hw hn
  have g1 : ¬ n < 1 := by omega
  have g2 : ¬ 8 < n := by omega
  go_enter Tryd.func120, Tryd.ntmps120
  go_wp2
  go_loopg [3, 16] n (fun m a i wr => ∃ k : Nat, m + k = n ∧ a = .int .u64 (up k) ∧ i = .int .i64 k ∧ Ext w wr)
  case atStart => exact ⟨0, by simp, by rw [HU0.out]; rfl, rfl, Only.refl _ _⟩
  case round =>
    obtain ⟨k, hmk, rfl, rfl, hE⟩ := hrel
    have HE := Lib.hid hE; have HMK := Lib.hid hmk
    clear hE hmk
    by_cases hlt : k < n
    · have hc := HE.out.ecell (HC.out k hlt)
      have hb := HWB.out k hlt
      have hs := HUS.out k hlt
      have hbd := HUB.out k hlt
      obtain ⟨y, hy⟩ : ∃ y : Nat, l.getD k 0 = y := ⟨(l.getD k 0).toNat, by omega⟩
      rw [hy] at hc hb hs
      have hor : bits BinOp.or IntKind.u64 (((up k : Nat) : Int) * 256) (y : Int) = ((up (k + 1) : Nat) : Int) := by
        have h := bits_or_u64_nat (up k * 256) y (by omega) (by omega)
        rw [Int.natCast_mul] at h
        rw [show ((256 : Nat) : Int) = 256 from rfl] at h
        rw [h, Nat.mul_comm, show (256 : Nat) = 2 ^ 8 from rfl, ← Nat.two_pow_add_eq_or_of_lt (by omega)]
        omega
      have HOR := Lib.hid hor
      clear hor hs hy
      go_wp2
      go_roundg (n - (k + 1))
      case measure => have := HMK.out; omega
      case rel => exact ⟨k + 1, by omega, by rw [HOR.out], by go_num, HE.out⟩
    · obtain rfl : k = n := by have := HMK.out; omega
      have hun := HUN.out
      have hub : 0 ≤ Lib.beZ l := by omega
      rw [HUN.out]
      have hgr := HGR.out
      obtain ⟨z, hz⟩ : ∃ z, z = Lib.beZ l := ⟨_, rfl⟩
      rw [← hz] at hgr hub ⊢
      clear hun hz
      by_cases hle : z ≤ 9223372036854775807
      · rw [if_pos hle] at hgr
        have hww : IntKind.i64.wrap z = z := by rw [IntKind.wrap_i64]; omega
        have HR := Lib.hid hgr
        clear hgr
        have hgt : ¬ 9223372036854775807 < z := by omega
        go_wp2
        go_ret
        exact ⟨by rw [HR.out]; rfl, HE.out⟩
      · rw [if_neg hle] at hgr
        have HR := Lib.hid hgr
        clear hgr
        have hgt : 9223372036854775807 < z := by omega
        go_wp2
        go_ret
        exact ⟨by rw [HR.out]; rfl, HE.out⟩
end Go.Proofs.YtghgjddiheebeaaDoor
/- The program's scanner: take. -/
namespace Go.Proofs.YtghgjddiheebeaaDoor
open Go.RowKit
set_option linter.unusedSimpArgs false
set_option linter.unusedVariables false
/-- The scanner in block sb has the bytes rest before it, in blocks of F. -/
structure SC (sb : Nat) (F : List Nat) (rest : List Int) (bad : Bool) (W : World) : Prop where
  ex : ∃ A c G, W.heap[sb]? = some (.cells #[.slice A rest.length c, .bool bad] 135 (0, 0)) ∧ (Rep.int .u8).sl W A c rest G ∧ ∀ g ∈ G, g ∈ F
  ne : sb ∉ F
theorem sl_take {w : World} {g off c : Nat} {xs : List Int} {F : List Nat} (h : (Rep.int .u8).sl w (some ⟨g, off, none⟩) c xs F) (n : Nat) (hn : n ≤ xs.length) :
    ∃ G, (Rep.int .u8).sl w (some ⟨g, off, none⟩) c (xs.take n) G ∧ ∀ b ∈ G, b ∈ F := by
  obtain ⟨h1, h2, h3⟩ := h
  rcases h3 with ⟨rfl, rfl⟩ | ⟨g', off', G, cs, e, rfl, hg, hr, hc⟩
  · exact ⟨[], ⟨by simp, h2, .inl ⟨by simp, rfl⟩⟩, by simp⟩
  · injection e with e
    injection e with e1 e2
    subst e1; subst e2
    obtain ⟨rfl, rfl, hw⟩ := cells_ints_inv hr
    refine ⟨[g], ⟨by rw [List.length_take]; omega, h2, .inr ⟨g, off, [], (xs.take n).map (.int .u8), rfl, rfl, hg, cells_ints _ (fun z hz => hw z (List.mem_of_mem_take hz)), fun j u hu => ?_⟩⟩, by simp⟩
    refine hc j u ?_
    rw [List.map_take, List.getElem?_take] at hu
    split at hu
    · exact hu
    · cases hu
theorem sl_drop {w : World} {g off c : Nat} {xs : List Int} {F : List Nat} (h : (Rep.int .u8).sl w (some ⟨g, off, none⟩) c xs F) (n : Nat) (hn : n ≤ xs.length) :
    ∃ G, (Rep.int .u8).sl w (if c = n then some ⟨g, off, none⟩ else some ⟨g, off + n, none⟩) (c - n) (xs.drop n) G ∧ ∀ b ∈ G, b ∈ F := by
  obtain ⟨h1, h2, h3⟩ := h
  by_cases hz : xs.drop n = []
  · refine ⟨[], ⟨by rw [hz]; simp, by omega, .inl ⟨hz, rfl⟩⟩, by simp⟩
  · have hlt : n < xs.length := by
      rcases Nat.lt_or_ge n xs.length with h | h
      · exact h
      · exact absurd (List.drop_of_length_le h) hz
    rcases h3 with ⟨rfl, rfl⟩ | ⟨g', off', G, cs, e, rfl, hg, hr, hc⟩
    · cases hlt
    · injection e with e
      injection e with e1 e2
      subst e1; subst e2
      obtain ⟨rfl, rfl, hw⟩ := cells_ints_inv hr
      rw [if_neg (by omega)]
      refine ⟨[g], ⟨by rw [List.length_drop]; omega, by omega, .inr ⟨g, off + n, [], (xs.drop n).map (.int .u8), rfl, rfl, hg, cells_ints _ (fun z hz => hw z (List.mem_of_mem_drop hz)), fun j u hu => ?_⟩⟩, by simp⟩
      rw [Nat.add_assoc]
      refine hc (n + j) u ?_
      rw [List.map_drop, List.getElem?_drop] at hu
      exact hu
theorem SC.put {sb : Nat} {F : List Nat} {W : World} {v : Value} {bad : Bool} (hb : W.heap[sb]? = some (.cells #[v, .bool bad] 135 (0, 0))) (A : Option Addr) (c n : Nat) (rest : List Int) (G : List Nat) (hl : n = rest.length) (hs : (Rep.int .u8).sl W A c rest G) (hG : ∀ g ∈ G, g ∈ F) (hne : sb ∉ F) :
    SC sb F rest bad (W.setCell ⟨sb, 0, none⟩ (.slice A n c)) := by
  subst hl
  refine ⟨⟨A, c, G, ?_, Rep.sl_keep hs (fun g hg => Below.heap_setCell _ _ _ _ (fun e => hne ((show g = sb from e) ▸ hG g hg))), hG⟩, hne⟩
  have h := heap_setCell_same W sb 0 _ _ (.slice A rest.length c) hb
  simpa using h
theorem SC.spoil {sb : Nat} {F : List Nat} {W : World} {rest : List Int} {bad : Bool} (h : SC sb F rest bad W) : SC sb F rest true (W.setCell ⟨sb, 1, none⟩ (.bool true)) := by
  obtain ⟨⟨A, c, G, hb, hs, hG⟩, hne⟩ := h
  refine ⟨⟨A, c, G, ?_, Rep.sl_keep hs (fun g hg => Below.heap_setCell _ _ _ _ (fun e => hne ((show g = sb from e) ▸ hG g hg))), hG⟩, hne⟩
  have h := heap_setCell_same W sb 1 _ _ (.bool true) hb
  simpa using h
theorem SC.only {sb : Nat} {F : List Nat} {W W' : World} {rest : List Int} {bad : Bool} {H : List Nat} (h : SC sb F rest bad W) (hO : Only H W W') (hd : ∀ g ∈ H, g ∉ F ∧ g ≠ sb) : SC sb F rest bad W' := by
  obtain ⟨⟨A, c, G, hb, hs, hG⟩, hne⟩ := h
  exact ⟨⟨A, c, G, hO.heap hb (fun e => (hd _ e).2 rfl), Rep.sl_only hs hO (fun b hb e => (hd b e).1 (hG b hb)), hG⟩, hne⟩
theorem SC.ext {sb : Nat} {F : List Nat} {W W' : World} {rest : List Int} {bad : Bool} (h : SC sb F rest bad W) (hO : Ext W W') : SC sb F rest bad W' := h.only hO (by simp)
/-- What take hands out: xs; the scanner has rest before it. -/
def TakeP (sb : Nat) (F : List Nat) (n : Nat) (xs rest : List Int) (bad : Bool) (W : World) (e : Ending) (w' : World) : Prop :=
  ∃ A c G, e = .returned (.slice A n c) ∧ (Rep.int .u8).sl w' A c xs G ∧ (∀ g ∈ G, g ∈ F ∨ W.heap.size ≤ g) ∧ SC sb F rest bad w' ∧ Only [sb] W w'
set_option maxRecDepth 100000 in
set_option maxHeartbeats 4000000 in
theorem take_ok {sb : Nat} {F : List Nat} {rest : List Int} {W : World} (h : SC sb F rest false W) (n : Nat) (nz : Int) (hnz : nz = n) (hn : n ≤ rest.length) (hm : rest.length ≤ 1048576) :
    Calls Tryd.prog 121 #[.pointer (some ⟨sb, 0, none⟩), .int .i64 nz] W (TakeP sb F n (rest.take n) (rest.drop n) false W) := by
  subst hnz
  obtain ⟨⟨A, c, G, hb, hs, hG⟩, hne⟩ := h
  have hu := Tryd.underlying135
  have m := fun o => cell_of_row _ _ o _ _ _ hb
  have f := fun o => frozen_of_row _ _ o _ _ hb
  have HB := Lib.hid hb; have HS := Lib.hid hs; have HG := Lib.hid hG
  have hcl := hs.1
  have g1 : ¬ rest.length < n := by omega
  clear hb hs hG
  have hS : Hid (∀ D, D = (if c = n then A else A.map (·.add n)) → ∃ G1 G2, (Rep.int .u8).sl W A c (rest.take n) G1 ∧ (∀ g ∈ G1, g ∈ F) ∧ (Rep.int .u8).sl W D (c - n) (rest.drop n) G2 ∧ (∀ g ∈ G2, g ∈ F)) := by
    refine Lib.hid fun D hD => ?_
    by_cases hr : rest = []
    · subst hr
      exact ⟨[], [], ⟨by simp, HS.out.2.1, .inl ⟨by simp, rfl⟩⟩, by simp, ⟨by simp, by have := HS.out.2.1; omega, .inl ⟨by simp, rfl⟩⟩, by simp⟩
    · obtain ⟨g, off, rfl⟩ := sl_some HS.out (List.length_pos_iff.2 hr)
      obtain ⟨G1, k1, k2⟩ := sl_take HS.out n hn
      obtain ⟨G2, k3, k4⟩ := sl_drop HS.out n hn
      refine ⟨G1, G2, k1, fun g hg => HG.out g (k2 g hg), ?_, fun g hg => HG.out g (k4 g hg)⟩
      rw [hD]
      simpa [Addr.add_lit] using k3
  rcases A with _ | ad
  · go_enter Tryd.func121, Tryd.ntmps121
    go_wp2
    go_ret
    obtain ⟨G1, G2, k1, k2, k3, k4⟩ := hS.out none (by split <;> rfl)
    refine ⟨_, _, G1, rfl, Rep.sl_keep k1 (fun g hg => Below.heap_setCell _ _ _ _ (fun e => hne ((show g = sb from e) ▸ k2 g hg))), fun g hg => .inl (k2 g hg), ?_, (Only.refl _ _).setCell (fun _ => by simp) _⟩
    exact SC.put HB.out _ _ _ _ G2 (by rw [List.length_drop]) k3 k4 hne
  · go_enter Tryd.func121, Tryd.ntmps121
    go_wp2
    · subst h
      go_ret
      obtain ⟨G1, G2, k1, k2, k3, k4⟩ := hS.out (some ad) (by simp)
      refine ⟨_, _, G1, rfl, Rep.sl_keep k1 (fun g hg => Below.heap_setCell _ _ _ _ (fun e => hne ((show g = sb from e) ▸ k2 g hg))), fun g hg => .inl (k2 g hg), ?_, (Only.refl _ _).setCell (fun _ => by simp) _⟩
      exact SC.put HB.out _ _ _ _ G2 (by rw [List.length_drop]) (by simpa using k3) k4 hne
    · go_ret
      obtain ⟨G1, G2, k1, k2, k3, k4⟩ := hS.out (some (ad.add n)) (by rw [if_neg h]; rfl)
      refine ⟨_, _, G1, rfl, Rep.sl_keep k1 (fun g hg => Below.heap_setCell _ _ _ _ (fun e => hne ((show g = sb from e) ▸ k2 g hg))), fun g hg => .inl (k2 g hg), ?_, (Only.refl _ _).setCell (fun _ => by simp) _⟩
      exact SC.put HB.out _ _ _ _ G2 (by rw [List.length_drop]) k3 k4 hne
end Go.Proofs.YtghgjddiheebeaaDoor
/- The program's scanner: take where there is nothing left, num. -/
namespace Go.Proofs.YtghgjddiheebeaaDoor
open Go.RowKit
set_option linter.unusedSimpArgs false
set_option linter.unusedVariables false
theorem beZ_zeros (n : Nat) : Lib.beZ (zeros n) = 0 := by
  have : ∀ n, Lib.beFromZ 0 (zeros n) = 0 := by
    intro n
    induction n with
    | zero => rfl
    | succ n ih =>
      show Lib.beFromZ 0 (0 :: zeros n) = 0
      simpa [Lib.beFromZ] using ih
  exact this n
theorem getNum_zeros (n : Nat) : getNum (zeros n) = 0 := by
  unfold getNum
  rw [if_neg, beZ_zeros]
  rintro ⟨h, h2⟩
  cases n with
  | zero => simp [zeros] at h
  | succ n => simp [zeros, List.replicate] at h2
set_option maxRecDepth 100000 in
set_option maxHeartbeats 4000000 in
theorem take_bad {sb : Nat} {F : List Nat} {rest : List Int} {bad : Bool} {W : World} (h : SC sb F rest bad W) (n : Nat) (nz : Int) (hnz : nz = n) (hn : n = 1 ∨ n = 2 ∨ n = 4 ∨ n = 8) (hb : bad = true ∨ rest.length < n) (hm : rest.length ≤ 1048576) :
    Calls Tryd.prog 121 #[.pointer (some ⟨sb, 0, none⟩), .int .i64 nz] W (TakeP sb F n (zeros n) rest true W) := by
  subst hnz
  have hsb : sb < W.heap.size := by obtain ⟨⟨A, c, G, hb, -⟩, -⟩ := h; exact (Array.getElem?_eq_some_iff.1 hb).1
  have HSP := Lib.hid h.spoil
  have hsz : (W.setCell ⟨sb, 1, none⟩ (.bool true)).heap.size = W.heap.size := by simp [World.setCell]
  obtain ⟨⟨A, c, G, hb', hs, hG⟩, hne⟩ := h
  have hu := Tryd.underlying135
  have m := fun o => cell_of_row _ _ o _ _ _ hb'
  have f := fun o => frozen_of_row _ _ o _ _ hb'
  have hmk := mk_bytes (W.setCell ⟨sb, 1, none⟩ (.bool true)) n (by omega)
  have HBN := Lib.hid (bytes_new (W.setCell ⟨sb, 1, none⟩ (.bool true)) n (by unfold maxLen; omega))
  have HFin : Hid (TakeP sb F n (zeros n) rest true W (.returned (.slice (some ⟨(W.setCell ⟨sb, 1, none⟩ (.bool true)).heap.size, 0, none⟩) n n)) ((W.setCell ⟨sb, 1, none⟩ (.bool true)).alloc (.cells (Array.replicate n (.int .u8 0)) 5))) :=
    Lib.hid ⟨_, _, _, rfl, HBN.out.sl, fun g hg => by simp at hg; omega, HSP.out.ext (alloc_ext _ _), ((Only.refl _ _).setCell (fun _ => by simp) _).ext (alloc_ext _ _)⟩
  clear hb' hs hG HSP HBN
  have hmin : min (n : Int) 8 = (n : Int) := by omega
  have hn0 : ¬ (n : Int) < 0 := by omega
  clear hn
  cases bad with
  | true =>
    clear hb
    go_enter Tryd.func121, Tryd.ntmps121
    go_wp2
    go_ret
    have hfin := HFin.out
    rw [hsz] at hfin
    exact hfin
  | false =>
    have hlt : rest.length < n := hb.elim (fun h => by cases h) id
    clear hb
    go_enter Tryd.func121, Tryd.ntmps121
    go_wp2
    go_ret
    have hfin := HFin.out
    rw [hsz] at hfin
    exact hfin
/-- A number read: the value; what is left; whether the scanner is bad. -/
def rdNum (n : Nat) (s : List Int × Bool) : Int × (List Int × Bool) :=
  if s.2 = false ∧ n ≤ s.1.length then (getNum (s.1.take n), (s.1.drop n, decide (getNum (s.1.take n) < 0))) else (0, (s.1, true))
theorem implGetN (w : World) (A : Option Addr) (c n : Nat) (l : List Int) (F : List Nat) (h : (Rep.int .u8).sl w A c l F) (hl : l.length = n) (h1 : 1 ≤ n) (h8 : n ≤ 8) :
    Calls Tryd.prog 120 #[.slice A n c] w fun e w' => e = .returned (.int .i64 (getNum l)) ∧ Ext w w' := by
  subst hl
  obtain ⟨g, off, rfl⟩ := sl_some h h1
  exact implGet_calls w g off c l F h h1 h8
set_option maxRecDepth 100000 in
set_option maxHeartbeats 4000000 in
theorem SC.num {sb : Nat} {F : List Nat} {rest : List Int} {bad : Bool} {W : World} (h : SC sb F rest bad W) (n : Nat) (nz : Int) (hnz : nz = n) (hn : n = 1 ∨ n = 2 ∨ n = 4 ∨ n = 8) (hm : rest.length ≤ 1048576) :
    Calls Tryd.prog 105 #[.pointer (some ⟨sb, 0, none⟩), .int .i64 nz] W fun e w' => e = .returned (.int .i64 (rdNum n (rest, bad)).1) ∧ SC sb F (rdNum n (rest, bad)).2.1 (rdNum n (rest, bad)).2.2 w' ∧ Only [sb] W w' := by
  subst hnz
  have HH := Lib.hid h
  have n8 : 1 ≤ n ∧ n ≤ 8 := by omega
  have HN := Lib.hid hn
  clear h hn
  by_cases hok : bad = false ∧ n ≤ rest.length
  · rw [rdNum, if_pos hok]
    obtain ⟨rfl, hle⟩ := hok
    have hlt : (rest.take n).length = n := by rw [List.length_take]; omega
    dsimp only
    obtain ⟨v, hv⟩ : ∃ v, v = getNum (rest.take n) := ⟨_, rfl⟩
    rw [← hv]
    have HV := Lib.hid hv; have HL := Lib.hid hlt
    clear hv hlt
    by_cases hneg : v < 0
    · rw [decide_eq_true hneg]
      go_enter Tryd.func105, Tryd.ntmps105
      go_wp2_with (first
        | (go_at_call 121; refine (take_ok HH.out n _ rfl hle hm).mono ?_; rintro e w1 ⟨A1, c1, G1, rfl, hs1, hG1, hSC1, hO1⟩; have HS1 := Lib.hid hs1; have HSC1 := Lib.hid hSC1; have HO1 := Lib.hid hO1; clear hs1 hG1 hSC1 hO1)
        | (go_at_call 120; refine (implGetN _ _ _ _ _ _ HS1.out HL.out n8.1 n8.2).mono ?_; rintro e w2 ⟨rfl, hE2⟩; rw [← HV.out]; have HSC2 := Lib.hid (HSC1.out.ext hE2); have HO2 := Lib.hid (HO1.out.ext hE2); obtain ⟨⟨A2, c2, G2, hb2, -, -⟩, -⟩ := HSC1.out.ext hE2; have m := fun o => cell_of_row _ _ o _ _ _ hb2; have f := fun o => frozen_of_row _ _ o _ _ hb2; clear hE2 hb2))
      go_ret
      exact ⟨rfl, HSC2.out.spoil, HO2.out.setCell (fun _ => by simp) _⟩
    · rw [decide_eq_false hneg]
      go_enter Tryd.func105, Tryd.ntmps105
      go_wp2_with (first
        | (go_at_call 121; refine (take_ok HH.out n _ rfl hle hm).mono ?_; rintro e w1 ⟨A1, c1, G1, rfl, hs1, hG1, hSC1, hO1⟩; have HS1 := Lib.hid hs1; have HSC1 := Lib.hid hSC1; have HO1 := Lib.hid hO1; clear hs1 hG1 hSC1 hO1)
        | (go_at_call 120; refine (implGetN _ _ _ _ _ _ HS1.out HL.out n8.1 n8.2).mono ?_; rintro e w2 ⟨rfl, hE2⟩; rw [← HV.out]; have HSC2 := Lib.hid (HSC1.out.ext hE2); have HO2 := Lib.hid (HO1.out.ext hE2); clear hE2))
      go_ret
      exact ⟨rfl, HSC2.out, HO2.out⟩
  · rw [rdNum, if_neg hok]
    have hb : bad = true ∨ rest.length < n := by
      cases bad
      · exact .inr (by have : ¬ n ≤ rest.length := fun h => hok ⟨rfl, h⟩; omega)
      · exact .inl rfl
    have HBD := Lib.hid hb
    clear hb hok
    dsimp only
    go_enter Tryd.func105, Tryd.ntmps105
    go_wp2_with (first
      | (go_at_call 121; refine (take_bad HH.out n _ rfl HN.out HBD.out hm).mono ?_; rintro e w1 ⟨A1, c1, G1, rfl, hs1, hG1, hSC1, hO1⟩; have HS1 := Lib.hid hs1; have HSC1 := Lib.hid hSC1; have HO1 := Lib.hid hO1; clear hs1 hG1 hSC1 hO1)
      | (go_at_call 120; refine (implGetN _ _ _ _ _ _ HS1.out (zeros_len n) n8.1 n8.2).mono ?_; rintro e w2 ⟨rfl, hE2⟩; rw [getNum_zeros]; have HSC2 := Lib.hid (HSC1.out.ext hE2); have HO2 := Lib.hid (HO1.out.ext hE2); clear hE2))
    go_ret
    exact ⟨rfl, HSC2.out, HO2.out⟩
end Go.Proofs.YtghgjddiheebeaaDoor
/- The program's scanner: a slot. -/
namespace Go.Proofs.YtghgjddiheebeaaDoor
open Go.RowKit
set_option linter.unusedSimpArgs false
set_option linter.unusedVariables false
def NumP (sb : Nat) (F : List Nat) (v : Int) (rest : List Int) (bad : Bool) (W : World) (e : Ending) (w' : World) : Prop := e = .returned (.int .i64 v) ∧ SC sb F rest bad w' ∧ Only [sb] W w'
theorem SC.lt {sb : Nat} {F : List Nat} {rest : List Int} {bad : Bool} {W : World} (h : SC sb F rest bad W) : sb < W.heap.size := by obtain ⟨⟨A, c, G, hb, -⟩, -⟩ := h; exact (Array.getElem?_eq_some_iff.1 hb).1
theorem SC.numP {sb : Nat} {F : List Nat} {rest : List Int} {bad : Bool} {W : World} (h : SC sb F rest bad W) (n : Nat) (nz : Int) (hnz : nz = n) (hn : n = 1 ∨ n = 2 ∨ n = 4 ∨ n = 8) (hm : rest.length ≤ 1048576) (a : Int) (r : List Int) (b : Bool) (hr : rdNum n (rest, bad) = (a, (r, b))) :
    Calls Tryd.prog 105 #[.pointer (some ⟨sb, 0, none⟩), .int .i64 nz] W (NumP sb F a r b W) := by
  refine (h.num n nz hnz hn hm).mono ?_
  rw [hr]
  exact fun e w' h => h
theorem rdNum_len (n : Nat) (s : List Int × Bool) : (rdNum n s).2.1.length ≤ s.1.length := by
  unfold rdNum
  split
  · simp
  · exact Nat.le_refl _
theorem rdNum_good {n : Nat} {s : List Int × Bool} {a : Int} {r : List Int} (h : rdNum n s = (a, (r, false))) : 0 ≤ a := by
  unfold rdNum at h
  split at h
  · injection h with h1 h2
    injection h2 with h2 h3
    have := of_decide_eq_false h3
    omega
  · injection h with h1 h2
    injection h2 with h2 h3
    cases h3
def rdSlot (s : List Int × Bool) : DPageRecord × (List Int × Bool) :=
  let a := rdNum 1 s
  if a.1 = 0 then (⟨false, []⟩, a.2)
  else if a.1 = 1 then
    let b := rdNum 2 a.2
    if b.2.2 = true ∨ b.2.1.length < b.1.toNat then (⟨false, []⟩, (b.2.1, true)) else (⟨true, b.2.1.take b.1.toNat⟩, (b.2.1.drop b.1.toNat, false))
  else (⟨false, []⟩, (a.2.1, true))
def SlotP (sb : Nat) (F : List Nat) (x : DPageRecord) (rest : List Int) (bad : Bool) (W : World) (e : Ending) (w' : World) : Prop :=
  ∃ A c G, e = .returned (.agg #[.bool x.Used, .slice A x.Data.length c]) ∧ (Rep.int .u8).sl w' A c x.Data G ∧ NewIn W.heap.size w' G ∧ SC sb F rest bad w' ∧ Only [sb] W w'
theorem SlotP.zero {sb : Nat} {F : List Nat} {rest : List Int} {bad : Bool} {W w2 w' : World} (h : SC sb F rest bad w2) (hO : Only [sb] W w2) (hlt : sb < W.heap.size) (hk : Only [W.heap.size] w2 w') (hF : ∀ g ∈ F, g < W.heap.size) :
    SlotP sb F ⟨false, []⟩ rest bad W (.returned (.agg #[.bool false, .slice none 0 0])) w' :=
  ⟨none, 0, [], rfl, Rep.sl_nil (by decide), NewIn.nil _ _, h.only hk (fun g hg => by simp at hg; subst hg; exact ⟨fun h => absurd (hF _ h) (Nat.lt_irrefl _), by omega⟩), hO.then_ hk (fun g hg hl => by simp at hg; omega)⟩
theorem CloneN (A : Option Addr) (c n : Nat) (xs : List Int) (F : List Nat) (w : World) (h : (Rep.int .u8).sl w A c xs F) (hl : xs.length = n) (hn : n ≤ 70368744177664) :
    Calls Tryd.prog 63 #[.slice A n c] w (NewPost (Rep.int .u8).slice xs w) := by
  subst hl; exact Clone_calls A c xs F w h hn
theorem NewIn.ofNew {n : Nat} {w w' : World} {G : List Nat} (h : New w w' G) (hl : ∀ g ∈ G, g < w'.heap.size) (hn : n ≤ w.heap.size) : NewIn n w' G := ⟨fun g hg => Nat.le_trans hn (h.new g hg), hl, h.nodup, h.unfr⟩
theorem SC.cells {sb : Nat} {F : List Nat} {rest : List Int} {bad : Bool} {W : World} (h : SC sb F rest bad W) : ∃ A c G, (∀ o, W.cell? ⟨sb, o, none⟩ = #[Value.slice A rest.length c, .bool bad][o]?) ∧ (∀ o, W.frozen? ⟨sb, o, none⟩ = false) ∧ (Rep.int .u8).sl W A c rest G ∧ ∀ g ∈ G, g ∈ F := by
  obtain ⟨⟨A, c, G, hb, hs, hG⟩, -⟩ := h
  exact ⟨A, c, G, fun o => cell_of_row _ _ o _ _ _ hb, fun o => frozen_of_row _ _ o _ _ hb, hs, hG⟩
theorem SlotP.made {sb : Nat} {F : List Nat} {rest xs : List Int} {bad : Bool} {W w4 w5 w' : World} {A : Option Addr} {c n : Nat} {G : List Nat} (hl : xs.length = n) (hs : (Rep.int .u8).sl w5 A c xs G) (hN : New w4 w5 G) (h : SC sb F rest bad w4) (hO : Only [sb] W w4) (hsz : W.heap.size < w4.heap.size) (hlt : sb < W.heap.size) (hk : Only [W.heap.size] w5 w') (hF : ∀ g ∈ F, g < W.heap.size) :
    SlotP sb F ⟨true, xs⟩ rest bad W (.returned (.agg #[.bool true, .slice A n c])) w' := by
  subst hl
  have hd : ∀ b ∈ G, b ∉ [W.heap.size] := fun b hb hm => by have := hN.new b hb; simp at hm; omega
  refine ⟨A, c, G, rfl, Rep.sl_only hs hk hd, ?_, (h.ext hN.ext).only hk (fun g hg => by simp at hg; subst hg; exact ⟨fun h => absurd (hF _ h) (Nat.lt_irrefl _), by omega⟩), (hO.ext hN.ext).then_ hk (fun g hg hl => by simp at hg; omega)⟩
  have hn := NewIn.ofNew (n := W.heap.size + 1) hN (Rep.sl_lt hs) (by omega)
  have h2 := hn.step hk (by simp)
  exact ⟨fun g hg => by have := h2.ge g hg; omega, h2.lt, h2.nodup, h2.unfr⟩
set_option maxRecDepth 100000 in
set_option maxHeartbeats 4000000 in
theorem SC.slot {sb : Nat} {F : List Nat} {rest : List Int} {bad : Bool} {W : World} (h : SC sb F rest bad W) (hm : rest.length ≤ 1048576) (hF : ∀ g ∈ F, g < W.heap.size) :
    Calls Tryd.prog 106 #[.pointer (some ⟨sb, 0, none⟩)] W (SlotP sb F (rdSlot (rest, bad)).1 (rdSlot (rest, bad)).2.1 (rdSlot (rest, bad)).2.2 W) := by
  have hu := Tryd.underlying33
  have hlt := h.lt
  have HH := Lib.hid (h.ext (alloc_ext W (.cells #[.bool false, .slice none 0 0] 33)))
  have HB0 := Lib.hid (heap_alloc_new W (.cells #[.bool false, .slice none 0 0] 33))
  have HE0 := Lib.hid ((Only.refl [sb] W).alloc (.cells #[.bool false, .slice none 0 0] 33))
  have HF := Lib.hid hF
  have hne : W.heap.size ∉ [sb] := by simp; omega
  clear h hF
  obtain ⟨a, ra, ba, ha⟩ : ∃ a r b, rdNum 1 (rest, bad) = (a, (r, b)) := ⟨_, _, _, rfl⟩
  have hra : ra.length ≤ rest.length := by have := rdNum_len 1 (rest, bad); rw [ha] at this; exact this
  have HA := Lib.hid ha
  simp only [rdSlot, ha]
  by_cases h0 : a = 0
  · subst h0
    simp only [if_true]
    clear ha
    go_enter Tryd.func106, Tryd.ntmps106
    go_wp2_with (go_at_call 105; refine (HH.out.numP 1 _ rfl (by decide) hm _ _ _ HA.out).mono ?_; rintro e w2 ⟨rfl, h2, hO2⟩; have HS2 := Lib.hid h2; have HO2 := Lib.hid (HE0.out.trans hO2); have hb := hO2.heap HB0.out hne; have m := fun o => cell_of_row _ _ o _ _ _ hb; have f := fun o => frozen_of_row _ _ o _ _ hb; clear h2 hO2 hb)
    refine bodyPost_ret (v := .agg #[.bool false, .slice none 0 0]) (by simp [results, Tryd.results106, go_sem, m]) rfl ?_
    exact SlotP.zero HS2.out HO2.out hlt (by repeat (first | with_reducible exact Only.refl _ _ | ((with_reducible apply Only.set); · simp))) HF.out
  · clear ha
    by_cases h1 : a = 1
    · subst h1
      obtain ⟨b, rb, bb, hb⟩ : ∃ b r x, rdNum 2 (ra, ba) = (b, (r, x)) := ⟨_, _, _, rfl⟩
      have hrb : rb.length ≤ ra.length := by have := rdNum_len 2 (ra, ba); rw [hb] at this; exact this
      have HBB := Lib.hid hb
      have hb0 : bb = false → 0 ≤ b := fun h => by subst h; exact rdNum_good hb
      simp only [hb, if_true]
      clear hb
      by_cases hbad : bb = true ∨ rb.length < b.toNat
      · rw [if_pos hbad]
        have hFz : Hid (∀ w3 w', SC sb F rb bb w3 → Only [sb] W w3 → Only [W.heap.size] (w3.setCell ⟨sb, 1, none⟩ (.bool true)) w' → SlotP sb F ⟨false, []⟩ rb true W (.returned (.agg #[.bool false, .slice none 0 0])) w') := Lib.hid fun w3 w' h3 hO3 hO => SlotP.zero h3.spoil (hO3.setCell (fun _ => by simp) _) hlt hO HF.out
        cases bb with
        | true =>
          clear hbad hb0
          go_enter Tryd.func106, Tryd.ntmps106
          go_wp2_with (first
            | (go_at_call 105; refine (HS2.out.numP 2 _ rfl (by decide) (by omega) _ _ _ HBB.out).mono ?_; rintro e w3 ⟨rfl, h3, hO3⟩; have HS3 := Lib.hid h3; have HO3 := Lib.hid (HO2.out.trans hO3); have hb := hO3.heap HB2.out hne; have HB3 := Lib.hid hb; clear m f ms fs; have m := fun o => cell_of_row _ _ o _ _ _ hb; have f := fun o => frozen_of_row _ _ o _ _ hb; obtain ⟨A3, c3, G3, ms, fs, -, -⟩ := h3.cells; clear h3 hO3 hb)
            | (go_at_call 105; refine (HH.out.numP 1 _ rfl (by decide) hm _ _ _ HA.out).mono ?_; rintro e w2 ⟨rfl, h2, hO2⟩; have HS2 := Lib.hid h2; have HO2 := Lib.hid (HE0.out.trans hO2); have hb := hO2.heap HB0.out hne; have HB2 := Lib.hid hb; have m := fun o => cell_of_row _ _ o _ _ _ hb; have f := fun o => frozen_of_row _ _ o _ _ hb; obtain ⟨A2, c2, G2, ms, fs, -, -⟩ := h2.cells; clear h2 hO2 hb))
          refine bodyPost_ret (v := .agg #[.bool false, .slice none 0 0]) (by simp [results, Tryd.results106, go_sem, m]) rfl ?_
          exact hFz.out _ _ HS3.out HO3.out (by repeat (first | with_reducible exact Only.refl _ _ | ((with_reducible apply Only.set); · simp)))
        | false =>
          have hlb : rb.length < b.toNat := hbad.elim (fun h => by cases h) id
          have hb1 := hb0 rfl
          obtain ⟨nb, rfl⟩ : ∃ n : Nat, b = n := ⟨b.toNat, by omega⟩
          rw [Int.toNat_natCast] at hlb
          have hlb2 : (rb.length : Int) < (nb : Int) := by omega
          clear hbad hb0 hb1
          go_enter Tryd.func106, Tryd.ntmps106
          go_wp2_with (first
            | (go_at_call 105; refine (HS2.out.numP 2 _ rfl (by decide) (by omega) _ _ _ HBB.out).mono ?_; rintro e w3 ⟨rfl, h3, hO3⟩; have HS3 := Lib.hid h3; have HO3 := Lib.hid (HO2.out.trans hO3); have hb := hO3.heap HB2.out hne; have HB3 := Lib.hid hb; clear m f ms fs; have m := fun o => cell_of_row _ _ o _ _ _ hb; have f := fun o => frozen_of_row _ _ o _ _ hb; obtain ⟨A3, c3, G3, ms, fs, -, -⟩ := h3.cells; clear h3 hO3 hb)
            | (go_at_call 105; refine (HH.out.numP 1 _ rfl (by decide) hm _ _ _ HA.out).mono ?_; rintro e w2 ⟨rfl, h2, hO2⟩; have HS2 := Lib.hid h2; have HO2 := Lib.hid (HE0.out.trans hO2); have hb := hO2.heap HB0.out hne; have HB2 := Lib.hid hb; have m := fun o => cell_of_row _ _ o _ _ _ hb; have f := fun o => frozen_of_row _ _ o _ _ hb; obtain ⟨A2, c2, G2, ms, fs, -, -⟩ := h2.cells; clear h2 hO2 hb))
          refine bodyPost_ret (v := .agg #[.bool false, .slice none 0 0]) (by simp [results, Tryd.results106, go_sem, m]) rfl ?_
          exact hFz.out _ _ HS3.out HO3.out (by repeat (first | with_reducible exact Only.refl _ _ | ((with_reducible apply Only.set); · simp)))
      · rw [if_neg hbad]
        obtain rfl : bb = false := by cases bb; rfl; exact absurd (.inl rfl) hbad
        have hb1 := hb0 rfl
        obtain ⟨nb, rfl⟩ : ∃ n : Nat, b = n := ⟨b.toNat, by omega⟩
        rw [Int.toNat_natCast] at hbad ⊢
        have hlb : nb ≤ rb.length := by have : ¬ rb.length < nb := fun h => hbad (.inr h); omega
        have hlb1 : ¬ rb.length < nb := by omega
        have hlb2 : ¬ (rb.length : Int) < (nb : Int) := by omega
        have HTL := Lib.hid (show (rb.take nb).length = nb by rw [List.length_take]; omega)
        clear hbad hb0 hb1
        go_enter Tryd.func106, Tryd.ntmps106
        go_wp2_with (first
          | (go_at_call 63; refine (CloneN _ _ _ _ _ _ HK4.out HTL.out (by omega)).mono ?_; rintro e w5 ⟨v5, G5, rfl, hV5, hN5⟩; obtain ⟨A5, c5, rfl, q5⟩ := Rep.slice_V hV5; have HQ5 := Lib.hid q5; have HN5 := Lib.hid hN5; have hb := hN5.ext.heap HB4.out (by simp); clear m f; have m := fun o => cell_of_row _ _ o _ _ _ hb; have f := fun o => frozen_of_row _ _ o _ _ hb; clear hV5 q5 hN5 hb)
          | (go_at_call 121; refine (take_ok HS3.out nb _ rfl hlb (by omega)).mono ?_; rintro e w4 ⟨A4, c4, G4, rfl, hk4, -, h4, hO4⟩; have HK4 := Lib.hid hk4; have HS4 := Lib.hid h4; have HO4 := Lib.hid (HO3.out.trans hO4); have hb := hO4.heap HB3.out hne; have HB4 := Lib.hid hb; clear m f ms fs; have m := fun o => cell_of_row _ _ o _ _ _ hb; have f := fun o => frozen_of_row _ _ o _ _ hb; clear hk4 h4 hO4 hb)
          | (go_at_call 105; refine (HS2.out.numP 2 _ rfl (by decide) (by omega) _ _ _ HBB.out).mono ?_; rintro e w3 ⟨rfl, h3, hO3⟩; have HS3 := Lib.hid h3; have HO3 := Lib.hid (HO2.out.trans hO3); have hb := hO3.heap HB2.out hne; have HB3 := Lib.hid hb; clear m f ms fs; have m := fun o => cell_of_row _ _ o _ _ _ hb; have f := fun o => frozen_of_row _ _ o _ _ hb; obtain ⟨A3, c3, G3, ms, fs, -, -⟩ := h3.cells; clear h3 hO3 hb)
          | (go_at_call 105; refine (HH.out.numP 1 _ rfl (by decide) hm _ _ _ HA.out).mono ?_; rintro e w2 ⟨rfl, h2, hO2⟩; have HS2 := Lib.hid h2; have HO2 := Lib.hid (HE0.out.trans hO2); have hb := hO2.heap HB0.out hne; have HB2 := Lib.hid hb; have m := fun o => cell_of_row _ _ o _ _ _ hb; have f := fun o => frozen_of_row _ _ o _ _ hb; obtain ⟨A2, c2, G2, ms, fs, -, -⟩ := h2.cells; clear h2 hO2 hb))
        refine bodyPost_ret (v := .agg #[.bool true, .slice A5 nb c5]) (by simp [results, Tryd.results106, go_sem, m]) rfl ?_
        exact SlotP.made HTL.out HQ5.out HN5.out HS4.out HO4.out (Array.getElem?_eq_some_iff.1 HB4.out).1 hlt (by repeat (first | with_reducible exact Only.refl _ _ | ((with_reducible apply Only.set); · simp))) HF.out
    · rw [if_neg h0, if_neg h1]
      have hFz : Hid (∀ w3 w', SC sb F ra ba w3 → Only [sb] W w3 → Only [W.heap.size] (w3.setCell ⟨sb, 1, none⟩ (.bool true)) w' → SlotP sb F ⟨false, []⟩ ra true W (.returned (.agg #[.bool false, .slice none 0 0])) w') := Lib.hid fun w3 w' h3 hO3 hO => SlotP.zero h3.spoil (hO3.setCell (fun _ => by simp) _) hlt hO HF.out
      go_enter Tryd.func106, Tryd.ntmps106
      go_wp2_with (go_at_call 105; refine (HH.out.numP 1 _ rfl (by decide) hm _ _ _ HA.out).mono ?_; rintro e w2 ⟨rfl, h2, hO2⟩; have HS2 := Lib.hid h2; have HO2 := Lib.hid (HE0.out.trans hO2); have hb := hO2.heap HB0.out hne; have HB2 := Lib.hid hb; have m := fun o => cell_of_row _ _ o _ _ _ hb; have f := fun o => frozen_of_row _ _ o _ _ hb; obtain ⟨A2, c2, G2, ms, fs, -, -⟩ := h2.cells; clear h2 hO2 hb)
      refine bodyPost_ret (v := .agg #[.bool false, .slice none 0 0]) (by simp [results, Tryd.results106, go_sem, m]) rfl ?_
      exact hFz.out _ _ HS2.out HO2.out (by repeat (first | with_reducible exact Only.refl _ _ | ((with_reducible apply Only.set); · simp)))
end Go.Proofs.YtghgjddiheebeaaDoor
/- Two rows of bytes compared as strings: bytes.Equal, l1Same. -/
namespace Go.Proofs.YtghgjddiheebeaaDoor
open Go.RowKit
set_option linter.unusedSimpArgs false
set_option linter.unusedVariables false
theorem conv_bytes {w : World} {A : Option Addr} {c : Nat} {xs : List Int} {F : List Nat} (h : (Rep.int .u8).sl w A c xs F) : (convert 22 9 (.slice A xs.length c)).run Tryd.prog w = .ok (.string (strOfNums xs)) w := by
  by_cases hx : xs = []
  · subst hx
    exact run_convert_bytes_zero w _ _ Tryd.underlying22 Tryd.underlying5 A c _ Tryd.underlying9
  · obtain ⟨g, off, rfl⟩ := sl_some h (List.length_pos_iff.2 hx)
    refine run_convert_bytes_arg (P := Tryd.prog) w _ _ Tryd.underlying22 Tryd.underlying5 g off _ c xs rfl (fun i hi => sl_byte h i hi) _ Tryd.underlying9
theorem strOfNums_inj {xs ys : List Int} (hx : ∀ z ∈ xs, (Lit.int .u8 z).wf = true) (hy : ∀ z ∈ ys, (Lit.int .u8 z).wf = true) : strOfNums xs = strOfNums ys ↔ xs = ys := by
  constructor
  · intro h
    have h2 := congrArg (fun b : ByteArray => b.data.toList) h
    simp only [strOfNums_data] at h2
    have key : ∀ (l m : List Int), (∀ z ∈ l, (Lit.int .u8 z).wf = true) → (∀ z ∈ m, (Lit.int .u8 z).wf = true) → l.map (fun n => UInt8.ofNat n.toNat) = m.map (fun n => UInt8.ofNat n.toNat) → l = m := by
      intro l
      induction l with
      | nil => intro m _ _ h; cases m with
        | nil => rfl
        | cons a m => simp at h
      | cons a l ih =>
        intro m hl hm h
        cases m with
        | nil => simp at h
        | cons b m =>
          simp only [List.map_cons, List.cons.injEq] at h
          have ha := Lib.byte_of_wf (hl a (by simp))
          have hb := Lib.byte_of_wf (hm b (by simp))
          have e := congrArg UInt8.toNat h.1
          simp only [UInt8.toNat_ofNat'] at e
          rw [ih m (fun z hz => hl z (by simp [hz])) (fun z hz => hm z (by simp [hz])) h.2]
          rw [show a = b by omega]
    exact key xs ys hx hy h2
  · rintro rfl; rfl
theorem str_eq {xs ys : List Int} (hx : ∀ z ∈ xs, (Lit.int .u8 z).wf = true) (hy : ∀ z ∈ ys, (Lit.int .u8 z).wf = true) : ((strOfNums xs).toList == (strOfNums ys).toList) = decide (xs = ys) := by
  have hi := strOfNums_inj hx hy
  rw [ByteArray.toList_eq, ByteArray.toList_eq]
  by_cases h : xs = ys
  · subst h; simp
  · rw [decide_eq_false h, beq_eq_false_iff_ne]
    intro e
    refine h (hi.1 ?_)
    have : (strOfNums xs).data = (strOfNums ys).data := by rw [← Array.toArray_toList (xs := (strOfNums xs).data), e, Array.toArray_toList]
    cases h1 : strOfNums xs; cases h2 : strOfNums ys
    rw [h1, h2] at this
    simpa using this
theorem l1Same_calls (w : World) (A : Option Addr) (c : Nat) (xs : List Int) (F : List Nat) (B : Option Addr) (d : Nat) (ys : List Int) (G : List Nat) (h : (Rep.int .u8).sl w A c xs F) (k : (Rep.int .u8).sl w B d ys G) :
    Calls Tryd.prog 104 #[.slice A xs.length c, .slice B ys.length d] w fun e w' => e = .returned (.bool (decide (xs = ys))) ∧ Ext w w' := by
  have h1 := conv_bytes h
  have h2 := conv_bytes k
  have hi := Lib.hid (str_eq (sl_wf h) (sl_wf k))
  clear h k
  go_enter Tryd.func104, Tryd.ntmps104
  go_wp2
  go_ret
  exact ⟨ret_bool hi.out, Only.refl _ _⟩
theorem bytesEqual_calls (w : World) (A : Option Addr) (c : Nat) (xs : List Int) (F : List Nat) (B : Option Addr) (d : Nat) (ys : List Int) (G : List Nat) (h : (Rep.int .u8).sl w A c xs F) (k : (Rep.int .u8).sl w B d ys G) :
    Calls Tryd.prog 107 #[.slice A xs.length c, .slice B ys.length d] w fun e w' => e = .returned (.bool (decide (xs = ys))) ∧ Ext w w' := by
  have h1 := conv_bytes h
  have h2 := conv_bytes k
  have hi := Lib.hid (str_eq (sl_wf h) (sl_wf k))
  clear h k
  go_enter Tryd.func107, Tryd.ntmps107
  go_wp2
  go_ret
  exact ⟨ret_bool hi.out, Only.refl _ _⟩
end Go.Proofs.YtghgjddiheebeaaDoor
/- DecodeRecord: the state of its walks: the reader, the box of the answer, the box of the record. -/
namespace Go.Proofs.YtghgjddiheebeaaDoor
open Go.RowKit
set_option linter.unusedSimpArgs false
set_option linter.unusedVariables false
/-- From block n on all stands. -/
structure Up (n : Nat) (W W' : World) : Prop where
  size : W.heap.size ≤ W'.heap.size
  block : ∀ k, n ≤ k → k < W.heap.size → W'.heap[k]? = W.heap[k]?
theorem Up.refl (n : Nat) (W : World) : Up n W W := ⟨Nat.le_refl _, fun _ _ _ => rfl⟩
theorem Up.trans {n : Nat} {a b c : World} (h : Up n a b) (k : Up n b c) : Up n a c := ⟨Nat.le_trans h.size k.size, fun i h1 h2 => (k.block i h1 (Nat.lt_of_lt_of_le h2 h.size)).trans (h.block i h1 h2)⟩
theorem Up.only {n : Nat} {W W' : World} {H : List Nat} (h : Only H W W') (hH : ∀ g ∈ H, g < n) : Up n W W' := ⟨h.size, fun k h1 h2 => h.block k h2 (fun hm => by have := hH k hm; omega)⟩
theorem Up.sl {α : Type} {r : Rep α} {n : Nat} {W W' : World} (h : Up n W W') {A : Option Addr} {c : Nat} {xs : List α} {G : List Nat} (hs : r.sl W A c xs G) (hG : NewIn n W G) : r.sl W' A c xs G := Rep.sl_keep hs (fun b hb => h.block b (hG.ge b hb) (hG.lt b hb))
theorem Up.newIn {n m : Nat} {W W' : World} (h : Up n W W') (hm : n ≤ m) {G : List Nat} (hG : NewIn m W G) : NewIn m W' G :=
  ⟨hG.ge, fun g hg => Nat.lt_of_lt_of_le (hG.lt g hg) h.size, hG.nodup, fun g hg j => (World.frozen?_of_block (a := ⟨g, j, none⟩) (h.block g (Nat.le_trans hm (hG.ge g hg)) (hG.lt g hg))).trans (hG.unfr g hg j)⟩
theorem NewIn.join {n m : Nat} {W : World} {F G : List Nat} (h : NewIn n W F) (k : NewIn m W G) (hm : n ≤ m) (hF : ∀ g ∈ F, g < m) : NewIn n W (F ++ G) := by
  refine ⟨fun g hg => ?_, fun g hg => ?_, List.nodup_append.2 ⟨h.nodup, k.nodup, fun a ha b hb e => ?_⟩, fun g hg j => ?_⟩
  · rcases List.mem_append.1 hg with hg | hg
    · exact h.ge g hg
    · exact Nat.le_trans hm (k.ge g hg)
  · rcases List.mem_append.1 hg with hg | hg
    · exact h.lt g hg
    · exact k.lt g hg
  · subst e; have := hF a ha; have := k.ge a hb; omega
  · rcases List.mem_append.1 hg with hg | hg
    · exact h.unfr g hg j
    · exact k.unfr g hg j
/-- How the blocks lie: the reader's, the answer's, the record's; all from w0 on, below n. -/
structure Geo (w0 : World) (sb rb rr n : Nat) (F : List Nat) : Prop where
  s : w0.heap.size ≤ sb ∧ sb < n
  b : w0.heap.size ≤ rb ∧ rb < n
  r : w0.heap.size ≤ rr ∧ rr < n
  d : sb ≠ rb ∧ sb ≠ rr ∧ rb ≠ rr
  f : ∀ g ∈ F, g < w0.heap.size
def res0 : Array Value := #[.bool false, .int .i64 0, .int .i64 0, .int .i64 0, .int .i64 0, .int .i64 0, .bool false, .slice none 0 0, .bool false, .slice none 0 0, .int .i64 0, .int .i64 0, .slice none 0 0, .slice none 0 0, .slice none 0 0]
structure DS (P : World → Prop) (w0 : World) (rb rr n : Nat) (arr : Array Value) (W : World) : Prop where
  p : P W
  res : W.heap[rb]? = some (.cells res0 65 (0, 0))
  row : W.heap[rr]? = some (.cells arr 49 (0, 0))
  ext : Ext w0 W
  le : n ≤ W.heap.size
section
variable {P Q : World → Prop} {w0 W W' : World} {sb rb rr n : Nat} {F : List Nat} {arr : Array Value}
theorem DS.only (h : DS P w0 rb rr n arr W) (g : Geo w0 sb rb rr n F) (hO : Only [sb] W W') (hQ : Q W') : DS Q w0 rb rr n arr W' :=
  ⟨hQ, hO.heap h.res (by have := g.d; simp; omega), hO.heap h.row (by have := g.d; simp; omega), h.ext.then_ hO (fun x hx hl => by have := g.s; simp at hx; omega), Nat.le_trans h.le hO.size⟩
theorem DS.up (h : DS P w0 rb rr n arr W) (g : Geo w0 sb rb rr n F) (hO : Only [sb] W W') : Up n W W' := .only hO (by simp; exact g.s.2)
theorem DS.set (h : DS P w0 rb rr n arr W) (g : Geo w0 sb rb rr n F) (i : Nat) (v : Value) (hQ : P (W.setCell ⟨rr, i, none⟩ v)) : DS P w0 rb rr n (arr.setIfInBounds i v) (W.setCell ⟨rr, i, none⟩ v) :=
  ⟨hQ, (Below.heap_setCell _ _ _ _ g.d.2.2).trans h.res, heap_setCell_same _ _ _ _ _ _ h.row, h.ext.setCell (fun hl => absurd hl (by have := g.r; dsimp only; omega)) _, by simpa [World.setCell] using h.le⟩
theorem Up.set (g : Geo w0 sb rb rr n F) (W : World) (i : Nat) (v : Value) : Up n W (W.setCell ⟨rr, i, none⟩ v) := .only ((Only.refl [rr] W).setCell (by simp) _) (by simp; exact g.r.2)
theorem DS.conv (h : DS P w0 rb rr n arr W) {arr' : Array Value} (e : arr = arr') : DS P w0 rb rr n arr' W := e ▸ h
end
section
variable {w0 W W' : World} {sb rb rr n : Nat} {F : List Nat} {arr : Array Value} {rest : List Int} {bad : Bool}
theorem DS.setS (h : DS (SC sb F rest bad) w0 rb rr n arr W) (g : Geo w0 sb rb rr n F) (i : Nat) (v : Value) : DS (SC sb F rest bad) w0 rb rr n (arr.setIfInBounds i v) (W.setCell ⟨rr, i, none⟩ v) :=
  h.set g i v (h.p.only ((Only.refl [rr] W).setCell (by simp) _) (fun x hx => by have := g.r; have := g.d; simp at hx; subst hx; exact ⟨fun hm => by have := g.f _ hm; omega, by omega⟩))
theorem DS.numS (h : DS (SC sb F rest bad) w0 rb rr n arr W) (g : Geo w0 sb rb rr n F) (k : Nat) (kz : Int) (hkz : kz = k) (hk : k = 1 ∨ k = 2 ∨ k = 4 ∨ k = 8) (hm : rest.length ≤ 1048576) (a : Int) (r : List Int) (b : Bool) (hr : rdNum k (rest, bad) = (a, (r, b))) :
    Calls Tryd.prog 105 #[.pointer (some ⟨sb, 0, none⟩), .int .i64 kz] W fun e w' => e = .returned (.int .i64 a) ∧ Hid (DS (SC sb F r b) w0 rb rr n arr w') ∧ Hid (Up n W w') :=
  (h.p.numP k kz hkz hk hm a r b hr).mono fun e w' ⟨h1, h2, h3⟩ => ⟨h1, Lib.hid (h.only g h3 h2), Lib.hid (h.up g h3)⟩
theorem DS.slotS (h : DS (SC sb F rest bad) w0 rb rr n arr W) (g : Geo w0 sb rb rr n F) (hm : rest.length ≤ 1048576) (x : DPageRecord) (r : List Int) (b : Bool) (hr : rdSlot (rest, bad) = (x, (r, b))) :
    Calls Tryd.prog 106 #[.pointer (some ⟨sb, 0, none⟩)] W fun e w' => ∃ A c G, e = .returned (.agg #[.bool x.Used, .slice A x.Data.length c]) ∧ Hid ((Rep.int .u8).sl w' A c x.Data G) ∧ Hid (NewIn W.heap.size w' G) ∧ Hid (DS (SC sb F r b) w0 rb rr n arr w') ∧ Hid (Up n W w') := by
  have hs := h.p.slot hm (fun x hx => Nat.lt_of_lt_of_le (g.f x hx) h.ext.size)
  rw [hr] at hs
  refine hs.mono ?_
  rintro e w' ⟨A, c, G, rfl, h1, h2, h3, h4⟩
  exact ⟨A, c, G, rfl, Lib.hid h1, Lib.hid h2, Lib.hid (h.only g h4 h3), Lib.hid (h.up g h4)⟩
end
end Go.Proofs.YtghgjddiheebeaaDoor
/- DecodeRecord: plain: what the readers give, what is answered. -/
namespace Go.Proofs.YtghgjddiheebeaaDoor
open Go.RowKit
set_option linter.unusedSimpArgs false
set_option linter.unusedVariables false
def isByte (l : List Int) : Prop := ∀ z ∈ l, 0 ≤ z ∧ z ≤ 255
theorem getNum_room {l : List Int} (h : isByte l) (h8 : l.length ≤ 8) : -1 ≤ getNum l ∧ getNum l ≤ 9223372036854775807 := by
  rw [getNum_lt h h8]
  have := beFromZ_range l 0 h
  have e : Lib.beZ l = Lib.beFromZ 0 l := rfl
  split <;> omega
theorem wf64 {v : Int} (h1 : -9223372036854775808 ≤ v) (h2 : v ≤ 9223372036854775807) : (Lit.int .i64 v).wf = true := by
  simp only [Lit.wf, IntKind.min, IntKind.max, IntKind.signed, IntKind.bits]
  simp
  omega
theorem rdNum_mem (n : Nat) (s : List Int × Bool) : ∀ z ∈ (rdNum n s).2.1, z ∈ s.1 := by
  unfold rdNum
  split
  · exact fun z hz => List.mem_of_mem_drop hz
  · exact fun z hz => hz
theorem rdNum_room {n : Nat} {s : List Int × Bool} {a : Int} {r : List Int} {b : Bool} (h : rdNum n s = (a, (r, b))) (hb : isByte s.1) (h8 : n ≤ 8) : (Lit.int .i64 a).wf = true ∧ isByte r ∧ r.length ≤ s.1.length := by
  have h1 := rdNum_mem n s
  have h2 := rdNum_len n s
  rw [h] at h1 h2
  refine ⟨?_, fun z hz => hb z (h1 z hz), h2⟩
  have : a = (rdNum n s).1 := by rw [h]
  rw [this]
  unfold rdNum
  split
  · have := getNum_room (l := s.1.take n) (fun z hz => hb z (List.mem_of_mem_take hz)) (by rw [List.length_take]; omega)
    exact wf64 (by dsimp only; omega) this.2
  · rfl
def rdTs : Nat → List Int × Bool → List DTxnEntry × (List Int × Bool)
  | 0, s => ([], s)
  | n + 1, s => if s.2 = true then ([], s) else
    let a := rdNum 4 s
    let b := rdNum 1 a.2
    let c := rdNum 8 b.2
    let d := rdNum 8 c.2
    let r := rdTs n d.2
    (⟨a.1, b.1, c.1, d.1⟩ :: r.1, r.2)
def rdDs : Nat → List Int × Bool → List DDirtyEntry × (List Int × Bool)
  | 0, s => ([], s)
  | n + 1, s => if s.2 = true then ([], s) else
    let a := rdNum 2 s
    let b := rdNum 8 a.2
    let r := rdDs n b.2
    (⟨a.1, b.1⟩ :: r.1, r.2)
/-- What the program's reader makes of bytes; whether it was bad. -/
def readI (b : List Int) : DLogRecord × Bool :=
  let k := rdNum 1 (b, false)
  let t := rdNum 4 k.2
  let p := rdNum 8 t.2
  if k.1 = 1 then
    let pg := rdNum 2 p.2
    let sl := rdNum 2 pg.2
    let x := rdSlot sl.2
    let y := rdSlot x.2
    (⟨k.1, t.1, p.1, pg.1, sl.1, x.1, y.1, 0, 0, [], [], []⟩, y.2.2)
  else if k.1 = 2 then
    let pg := rdNum 2 p.2
    let sl := rdNum 2 pg.2
    let y := rdSlot sl.2
    let un := rdNum 8 y.2
    (⟨k.1, t.1, p.1, pg.1, sl.1, ⟨false, []⟩, y.1, un.1, 0, [], [], []⟩, un.2.2)
  else if k.1 = 7 then
    let nt := rdNum 4 p.2
    let n := rdNum 1 nt.2
    let ts := rdTs n.1.toNat n.2
    let m := rdNum 1 ts.2
    let ds := rdDs m.1.toNat m.2
    (⟨k.1, t.1, p.1, 0, 0, ⟨false, []⟩, ⟨false, []⟩, 0, nt.1, ts.1, ds.1, []⟩, ds.2.2)
  else if k.1 = 8 then
    let pg := rdNum 2 p.2
    (⟨k.1, t.1, p.1, pg.1, 0, ⟨false, []⟩, ⟨false, []⟩, 0, 0, [], [], pg.2.1⟩, pg.2.2)
  else (⟨k.1, t.1, p.1, 0, 0, ⟨false, []⟩, ⟨false, []⟩, 0, 0, [], [], []⟩, p.2.2)
open Classical in
/-- The answer for a candidate. -/
noncomputable def decR (x : DLogRecord) (bad : Bool) (b : List Int) : DRecordResult := if bad = false ∧ recFault x = 0 ∧ encRec x = b then ⟨true, x⟩ else ⟨false, zeroRecD⟩
noncomputable def decI (b : List Int) : DRecordResult := decR (readI b).1 (readI b).2 b
theorem decRes_zero {w w' : World} (hO : Ext w w') : NewPost Rep.RecordResult ⟨false, zeroRecD⟩ w (.returned (.agg res0)) w' :=
  ⟨_, [], rfl, ⟨_, ⟨none, 0, [], none, 0, [], none, 0, [], none, 0, [], none, 0, [], rfl, rfl, ⟨rfl, rfl, rfl, rfl, rfl, rfl, rfl⟩, Rep.sl_nil (by simp), Rep.sl_nil (by simp), Rep.sl_nil (by simp), Rep.sl_nil (by simp), Rep.sl_nil (by simp)⟩, rfl⟩, hO, by simp, by simp, by simp [Unfr]⟩
theorem decRes_good {w W W' : World} {n : Nat} {x : DLogRecord} {A1 : Option Addr} {c1 : Nat} {F1 : List Nat} {A2 : Option Addr} {c2 : Nat} {F2 : List Nat} {A3 : Option Addr} {c3 : Nat} {F3 : List Nat} {A4 : Option Addr} {c4 : Nat} {F4 : List Nat} {A5 : Option Addr} {c5 : Nat} {F5 : List Nat}
    (hw : wfLogRecord x) (s1 : (Rep.int .u8).sl W A1 c1 x.Before.Data F1) (s2 : (Rep.int .u8).sl W A2 c2 x.After.Data F2) (s3 : Rep.TxnEntry.sl W A3 c3 x.Txns F3) (s4 : Rep.DirtyEntry.sl W A4 c4 x.Dirty F4) (s5 : (Rep.int .u8).sl W A5 c5 x.Image F5)
    (hN : NewIn n W (F1 ++ F2 ++ F3 ++ F4 ++ F5)) (hn : w.heap.size ≤ n) (hE : Ext w W') (hU : Up n W W') :
    NewPost Rep.RecordResult ⟨true, x⟩ w (.returned (.agg #[.bool true, .int .i64 x.Kind, .int .i64 x.Txn, .int .i64 x.Prev, .int .i64 x.Page, .int .i64 x.Slot, .bool x.Before.Used, .slice A1 x.Before.Data.length c1, .bool x.After.Used, .slice A2 x.After.Data.length c2, .int .i64 x.UndoNext, .int .i64 x.NextTxn, .slice A3 x.Txns.length c3, .slice A4 x.Dirty.length c4, .slice A5 x.Image.length c5])) W' := by
  have k : ∀ G : List Nat, (∀ g ∈ G, g ∈ F1 ++ F2 ++ F3 ++ F4 ++ F5) → ∀ b ∈ G, W'.heap[b]? = W.heap[b]? := fun G hG b hb => hU.block b (hN.ge b (hG b hb)) (hN.lt b (hG b hb))
  have hN' := hU.newIn (Nat.le_refl _) hN
  exact ⟨_, _, rfl, ⟨_, ⟨A1, c1, F1, A2, c2, F2, A3, c3, F3, A4, c4, F4, A5, c5, F5, rfl, rfl, hw, Rep.sl_keep s1 (k _ (by simp +contextual)), Rep.sl_keep s2 (k _ (by simp +contextual)), Rep.sl_keep s3 (k _ (by simp +contextual)), Rep.sl_keep s4 (k _ (by simp +contextual)), Rep.sl_keep s5 (k _ (by simp +contextual))⟩, rfl⟩, hE, fun g hg => Nat.le_trans hn (hN'.ge g hg), hN'.nodup, hN'.unfr⟩
end Go.Proofs.YtghgjddiheebeaaDoor
/- The specification's reader: bytes taken; behind the end there are zeros. -/
namespace Go.Proofs.YtghgjddiheebeaaDoor
open Go.RowKit
set_option linter.unusedSimpArgs false
set_option linter.unusedVariables false
/-- n bytes of b from place o on; behind the end zeros. -/
def extB (b : List Int) (o n : Nat) : List Int := (List.range n).map fun i => b.getD (o + i) 0
theorem extB_len (b : List Int) (o n : Nat) : (extB b o n).length = n := by simp [extB]
theorem extB_succ (b : List Int) (o n : Nat) : extB b o (n + 1) = extB b o n ++ [b.getD (o + n) 0] := by simp [extB, List.range_succ]
theorem extB_byte {b : List Int} (h : isByte b) (o n : Nat) : isByte (extB b o n) := by
  intro z hz
  obtain ⟨i, -, rfl⟩ := List.mem_map.1 hz
  rcases Nat.lt_or_ge (o + i) b.length with hl | hl
  · rw [List.getD_eq_getElem?_getD, List.getElem?_eq_getElem hl]; exact h _ (List.getElem_mem hl)
  · rw [List.getD_eq_getElem?_getD, List.getElem?_eq_none hl]; decide
def takeL (b : List Int) (o n k : Nat) : List Int := extB b o k ++ zeros (n - k)
theorem takeL_len (b : List Int) (o n k : Nat) (hk : k ≤ n) : (takeL b o n k).length = n := by rw [takeL, List.length_append, extB_len, zeros_len]; omega
theorem takeL_zero (b : List Int) (o n : Nat) : takeL b o n 0 = zeros n := by simp [takeL, extB]
theorem takeL_full (b : List Int) (o n : Nat) : takeL b o n n = extB b o n := by simp [takeL, zeros]
theorem zeros_cons (n : Nat) : zeros (n + 1) = 0 :: zeros n := rfl
theorem takeL_set (b : List Int) (o n k : Nat) (hk : k < n) : takeL b o n (k + 1) = splice (takeL b o n k) k [b.getD (o + k) 0] := by
  have e : n - k = (n - (k + 1)) + 1 := by omega
  rw [takeL, takeL, extB_succ, e, zeros_cons, splice]
  rw [List.take_append_of_le_length (by rw [extB_len]; exact Nat.le_refl _), List.take_of_length_le (by rw [extB_len]; exact Nat.le_refl _)]
  rw [List.drop_append, List.drop_of_length_le (by rw [extB_len]; simp), extB_len]
  simp
theorem takeL_skip (b : List Int) (o n k : Nat) (hk : k < n) (hl : b.length ≤ o + k) : takeL b o n (k + 1) = takeL b o n k := by
  have e : n - k = (n - (k + 1)) + 1 := by omega
  rw [takeL, takeL, extB_succ, e, zeros_cons, List.getD_eq_getElem?_getD, List.getElem?_eq_none hl]
  simp
/-- The reader in block sb stands at place o of the bytes b. -/
structure SR (sb : Nat) (F : List Nat) (b : List Int) (o : Nat) (W : World) : Prop where
  ex : ∃ A c, W.heap[sb]? = some (.cells #[.slice A b.length c, .int .i64 o] 129 (0, 0)) ∧ (Rep.int .u8).sl W A c b F
  ne : sb ∉ F
theorem SR.only {sb : Nat} {F : List Nat} {W W' : World} {b : List Int} {o : Nat} {H : List Nat} (h : SR sb F b o W) (hO : Only H W W') (hd : ∀ g ∈ H, g ∉ F ∧ g ≠ sb) : SR sb F b o W' := by
  obtain ⟨⟨A, c, hb, hs⟩, hne⟩ := h
  exact ⟨⟨A, c, hO.heap hb (fun e => (hd _ e).2 rfl), Rep.sl_only hs hO (fun b hb e => (hd b e).1 hb)⟩, hne⟩
theorem SR.ext {sb : Nat} {F : List Nat} {W W' : World} {b : List Int} {o : Nat} (h : SR sb F b o W) (hO : Ext W W') : SR sb F b o W' := h.only hO (by simp)
theorem SR.go {sb : Nat} {F : List Nat} {W : World} {b : List Int} {o : Nat} (h : SR sb F b o W) (o' : Nat) : SR sb F b o' (W.setCell ⟨sb, 1, none⟩ (.int .i64 o')) := by
  obtain ⟨⟨A, c, hb, hs⟩, hne⟩ := h
  refine ⟨⟨A, c, ?_, Rep.sl_keep hs (fun g hg => Below.heap_setCell _ _ _ _ (fun e => hne ((show g = sb from e) ▸ hg))), ⟩, hne⟩
  have h := heap_setCell_same W sb 1 _ _ (.int .i64 o') hb
  simpa using h
theorem SR.lt {sb : Nat} {F : List Nat} {W : World} {b : List Int} {o : Nat} (h : SR sb F b o W) : sb < W.heap.size := by obtain ⟨⟨A, c, hb, -⟩, -⟩ := h; exact (Array.getElem?_eq_some_iff.1 hb).1
def TakeS (sb : Nat) (F : List Nat) (b : List Int) (o n : Nat) (W : World) (e : Ending) (w' : World) : Prop :=
  ∃ g, e = .returned (.slice (some ⟨g, 0, none⟩) n n) ∧ W.heap.size ≤ g ∧ Buf w' g 0 n (extB b o n) ∧ SR sb F b (o + n) w' ∧ Only [sb] W w'
theorem mk_bytesN (w : World) (n : Nat) (hn : n ≤ 1048576) : (Instr.makeSlice 22 (.int .i64 n) (.int .i64 n)).run Tryd.prog w = .ok (.slice (some ⟨w.heap.size, 0, none⟩) n n) (w.alloc (.cells (Array.replicate n (.int .u8 0)) 5)) := by
  obtain ⟨i0, hi, hz0, hz1, hz2⟩ := info_parts info5
  have h := run_make (P := Tryd.prog) w 22 5 i0 _ Tryd.underlying22 hi hz0 .i64 .i64 n n (by omega) (by omega) (by rw [hz2]; omega) (by omega)
  rw [hz1, made_one _ _ rfl] at h
  simpa using h
set_option maxRecDepth 100000 in
set_option maxHeartbeats 4000000 in
theorem l4Take_calls {sb : Nat} {F : List Nat} {W : World} {b : List Int} {o : Nat} (h : SR sb F b o W) (n : Nat) (nz : Int) (hnz : nz = n) (hn : n ≤ 1048576) (ho : o ≤ 1073741824) (hm : b.length ≤ 1048576) :
    Calls Tryd.prog 103 #[.pointer (some ⟨sb, 0, none⟩), .int .i64 nz] W (TakeS sb F b o n W) := by
  subst hnz
  have hu := Tryd.underlying129
  have hlt := h.lt
  have HFL : Hid (∀ g ∈ F, g < W.heap.size) := by obtain ⟨⟨A, c, -, hs⟩, -⟩ := h; exact Lib.hid (Rep.sl_lt hs)
  have HB0 := Lib.hid (bytes_new W n (by unfold maxLen; omega))
  have hmk := mk_bytesN W n hn
  have HS := Lib.hid (h.ext (alloc_ext W (.cells (Array.replicate n (.int .u8 0)) 5)))
  have HT0 := Lib.hid (takeL_zero b o n); have HTF := Lib.hid (takeL_full b o n)
  have HTS := Lib.hid (takeL_set b o n); have HTK := Lib.hid (takeL_skip b o n); have HTL := Lib.hid (takeL_len b o n)
  obtain ⟨L, hL⟩ : ∃ L, L = takeL b o n := ⟨_, rfl⟩
  rw [← hL] at HT0 HTF HTS HTK HTL
  clear hL h
  have hn0 : ¬ (n : Int) < 0 := by omega
  go_enter Tryd.func103, Tryd.ntmps103
  go_wp2
  clear hmk
  go_loopg [6] n (fun m i wr => ∃ k : Nat, m + k = n ∧ i = .int .i64 k ∧ Hid (Buf wr W.heap.size 0 n (L k)) ∧ SR sb F b o wr ∧ Ext W wr)
  case atStart => exact ⟨0, by simp, rfl, by rw [HT0.out]; exact HB0, HS.out, alloc_ext _ _⟩
  case round =>
    obtain ⟨k, hmk, rfl, HBF, hS, hE⟩ := hrel
    have HE := Lib.hid hE; have HMK := Lib.hid hmk; have HSR := Lib.hid hS
    clear hE hmk hS
    obtain ⟨⟨A, c, hb, hs⟩, hne⟩ := HSR.out
    have m := fun o => cell_of_row _ _ o _ _ _ hb
    have f := fun o => frozen_of_row _ _ o _ _ hb
    have HSL := Lib.hid hs
    clear hb hs
    have w1 : IntKind.i64.wrap ((o : Int) + (k : Int)) = (o : Int) + (k : Int) := by rw [IntKind.wrap_i64]; have := HMK.out; omega
    by_cases hlt2 : k < n
    · by_cases hin : o + k < b.length
      · obtain ⟨g0, off0, rfl⟩ := sl_some HSL.out (by omega)
        have hc := sl_byte HSL.out (o + k) hin
        have hil : (o : Int) + (k : Int) < (b.length : Int) := by omega
        have HL := Lib.hid (HTS.out k hlt2)
        have hk := sl_byte HBF.out.sl k (by rw [HTL.out k (by omega)]; exact hlt2)
        have hkf := HBF.out.un W.heap.size (by simp) k
        rw [Nat.zero_add] at hk
        obtain ⟨z, hz⟩ : ∃ z, z = b.getD (o + k) 0 := ⟨_, rfl⟩
        rw [← hz] at HL
        rw [← hz] at hc
        have HZW := Lib.hid (show (Lit.int .u8 z).wf = true by rw [hz, List.getD_eq_getElem?_getD, List.getElem?_eq_getElem hin]; exact sl_wf HSL.out _ (List.getElem_mem hin))
        clear hz
        go_wp2
        go_quiet (fail)
        go_wp2_with fail
        have x0 : (wr.drewN nq).cell? ⟨sb, 0, none⟩ = some (.slice (some ⟨g0, off0, none⟩) b.length c) := m 0
        have x1 : (wr.drewN nq).cell? ⟨sb, 1, none⟩ = some (.int .i64 o) := m 1
        have hc' : (wr.drewN nq).cell? ⟨g0, off0 + (o + k), none⟩ = some (.int .u8 z) := hc
        have e1 : ((o : Int) + (k : Int)).toNat = o + k := by omega
        have e2 : (0 : Int) ≤ (o : Int) + (k : Int) := by omega
        have e3 : (o : Int) + (k : Int) < (b.length : Int) := by omega
        refine region_tail 15 (by kernel_rfl) (by kernel_rfl) ?_
        simp only [List.take_succ_cons, List.take_zero, List.drop_succ_cons, List.drop_zero]
        repeat (first
          | (refine WQ.skip (by rfl) ?_
             try simp only [Act.put, List.setIfInBounds_toArray, List.set_cons_zero, List.set_cons_succ])
          | (refine WQ.take ?_ (by rfl) (fun w' hw => ?_) ?_
             rotate_left
             · have cq0 := hw.ecell x0
               have cq1 := hw.ecell x1
               have cq2 := hw.ecell hc'
               unfold Oper.quietAt
               go_simp
               first
                 | done
                 | exact ⟨rfl, rfl⟩
                 | exact rfl
             try simp only [Act.put, List.setIfInBounds_toArray, List.set_cons_zero, List.set_cons_succ]))
        refine WQ.nil ?_
        intro wq hwq
        have hkq := hwq.ecell (show (wr.drewN nq).cell? ⟨W.heap.size, k, none⟩ = _ from hk)
        have HXq := Lib.hid (((Only.refl [] wr).drewN nq).ext hwq)
        have HBq := Lib.hid (HBF.out.ext HXq.out)
        have hfq := HBq.out.un W.heap.size (by simp) k
        have hset := HBq.out.set k (by rw [HTL.out k (by omega)]; exact hlt2) z HZW.out
        rw [Nat.zero_add] at hset
        have HST := Lib.hid hset
        clear hset
        go_wp2
        go_roundg (n - (k + 1))
        case measure => have := HMK.out; omega
        case rel => exact ⟨k + 1, by omega, by go_num, by rw [HL.out]; exact HST, (HSR.out.ext HXq.out).only ((Only.refl [W.heap.size] wq).setCell (by simp) _) (fun x hx => by simp at hx; subst hx; exact ⟨fun hm => absurd (HFL.out _ hm) (Nat.lt_irrefl _), by omega⟩), (HE.out.ext HXq.out).setCell (fun hq => absurd hq (Nat.lt_irrefl _)) _⟩
      · have hge : ¬ (o : Int) + (k : Int) < (b.length : Int) := by omega
        have HL := Lib.hid (HTK.out k hlt2 (by omega))
        go_wp2
        go_quiet (fail)
        go_wp2
        go_roundg (n - (k + 1))
        case measure => have := HMK.out; omega
        case rel => exact ⟨k + 1, by omega, by go_num, by rw [HL.out]; exact Lib.hid (HBF.out.ext ((Only.refl _ _).drewN _)), HSR.out.ext ((Only.refl _ _).drewN _), HE.out.drewN _⟩
    · obtain rfl : k = n := by have := HMK.out; omega
      go_wp2
      go_ret
      rw [HTF.out] at HBF
      have hgo := HSR.out.go (o + k)
      rw [Int.natCast_add] at hgo
      have hne2 : W.heap.size ≠ sb := by omega
      refine ⟨W.heap.size, rfl, Nat.le_refl _, ⟨Rep.sl_keep HBF.out.sl (fun x hx => Below.heap_setCell _ _ _ _ (by simp at hx; subst hx; exact hne2)), fun x hx j => ?_⟩, hgo, (HE.out.more (by simp)).setCell (fun _ => by simp) _⟩
      rw [World.frozen?_setCell]
      exact HBF.out.un x hx j
end Go.Proofs.YtghgjddiheebeaaDoor
/- The specification's reader: numbers, slots. -/
namespace Go.Proofs.YtghgjddiheebeaaDoor
open Go.RowKit
set_option linter.unusedSimpArgs false
set_option linter.unusedVariables false
def NumS (sb : Nat) (F : List Nat) (b : List Int) (v : Int) (o : Nat) (W : World) (e : Ending) (w' : World) : Prop := e = .returned (.int .i64 v) ∧ SR sb F b o w' ∧ Only [sb] W w'
theorem getNumberN (w : World) (g c n : Nat) (l : List Int) (h : Buf w g 0 c l) (hl : l.length = n) (h1 : 1 ≤ n) (h8 : n ≤ 8) :
    Calls Tryd.prog 119 #[.slice (some ⟨g, 0, none⟩) n c] w fun e w' => e = .returned (.int .i64 (getNum l)) ∧ Ext w w' := by
  subst hl
  exact getNumber_calls w g 0 c l [g] h.sl h1 h8
set_option maxRecDepth 100000 in
set_option maxHeartbeats 4000000 in
theorem SR.num {sb : Nat} {F : List Nat} {W : World} {b : List Int} {o : Nat} (h : SR sb F b o W) (n : Nat) (nz : Int) (hnz : nz = n) (h1 : 1 ≤ n) (h8 : n ≤ 8) (ho : o ≤ 1073741824) (hm : b.length ≤ 1048576) :
    Calls Tryd.prog 101 #[.pointer (some ⟨sb, 0, none⟩), .int .i64 nz] W (NumS sb F b (getNum (extB b o n)) (o + n) W) := by
  subst hnz
  have HH := Lib.hid h
  obtain ⟨v, hv⟩ : ∃ v, v = getNum (extB b o n) := ⟨_, rfl⟩
  rw [← hv]
  have HV := Lib.hid hv
  clear h hv
  go_enter Tryd.func101, Tryd.ntmps101
  go_wp2_with (first
    | (go_at_call 119; refine (getNumberN _ _ _ _ _ HB1.out (extB_len b o n) h1 h8).mono ?_; rintro e w2 ⟨rfl, hE2⟩; rw [← HV.out]; have HE2 := Lib.hid hE2; clear hE2)
    | (go_at_call 103; refine (l4Take_calls HH.out n _ rfl (by omega) ho hm).mono ?_; rintro e w1 ⟨g1, rfl, hg1, hb1, hS1, hO1⟩; have HB1 := Lib.hid hb1; have HS1 := Lib.hid hS1; have HO1 := Lib.hid hO1; clear hg1 hb1 hS1 hO1))
  go_ret
  exact ⟨rfl, HS1.out.ext HE2.out, HO1.out.ext HE2.out⟩
def spSlot (b : List Int) (o : Nat) : DPageRecord × Nat :=
  if getNum (extB b o 1) = 1 then (⟨true, extB b (o + 3) (getNum (extB b (o + 1) 2)).toNat⟩, o + 3 + (getNum (extB b (o + 1) 2)).toNat) else (⟨false, []⟩, o + 1)
theorem num2_room {b : List Int} (h : isByte b) (o : Nat) : 0 ≤ getNum (extB b o 2) ∧ getNum (extB b o 2) ≤ 65535 := by
  have hb := extB_byte h o 2
  have hl := extB_len b o 2
  have h2 := beFromZ_range (extB b o 2) 0 hb
  rw [hl] at h2
  have e : Lib.beZ (extB b o 2) = Lib.beFromZ 0 (extB b o 2) := rfl
  have h5 : (256 : Int) ^ 2 = 65536 := by decide
  rw [h5] at h2
  unfold getNum
  rw [if_neg (by rw [hl]; rintro ⟨h, -⟩; omega)]
  omega
def SlotS (sb : Nat) (F : List Nat) (b : List Int) (x : DPageRecord) (o : Nat) (W : World) (e : Ending) (w' : World) : Prop :=
  ∃ A c G, e = .returned (.agg #[.bool x.Used, .slice A x.Data.length c]) ∧ (Rep.int .u8).sl w' A c x.Data G ∧ NewIn W.heap.size w' G ∧ SR sb F b o w' ∧ Only [sb] W w'
theorem SlotS.zero {sb : Nat} {F : List Nat} {b : List Int} {o : Nat} {W w2 w' : World} (h : SR sb F b o w2) (hO : Only [sb] W w2) (hlt : sb < W.heap.size) (hk : Only [W.heap.size] w2 w') (hF : ∀ g ∈ F, g < W.heap.size) :
    SlotS sb F b ⟨false, []⟩ o W (.returned (.agg #[.bool false, .slice none 0 0])) w' :=
  ⟨none, 0, [], rfl, Rep.sl_nil (by decide), NewIn.nil _ _, h.only hk (fun g hg => by simp at hg; subst hg; exact ⟨fun h => absurd (hF _ h) (Nat.lt_irrefl _), by omega⟩), hO.then_ hk (fun g hg hl => by simp at hg; omega)⟩
theorem SlotS.made {sb : Nat} {F : List Nat} {b xs : List Int} {o n g : Nat} {W w4 w5 w' : World} (hl : xs.length = n) (hb : Buf w5 g 0 n xs) (hg : w4.heap.size ≤ g) (h : SR sb F b o w5) (hO : Only [sb] W w5) (hsz : W.heap.size < w4.heap.size) (hlt : sb < W.heap.size) (hk : Only [W.heap.size] w5 w') (hF : ∀ g ∈ F, g < W.heap.size) :
    SlotS sb F b ⟨true, xs⟩ o W (.returned (.agg #[.bool true, .slice (some ⟨g, 0, none⟩) n n])) w' := by
  subst hl
  have hd : ∀ b ∈ [g], b ∉ [W.heap.size] := fun b hb hm => by simp at hm hb; omega
  refine ⟨_, _, [g], rfl, Rep.sl_only hb.sl hk hd, ?_, h.only hk (fun g hg => by simp at hg; subst hg; exact ⟨fun h => absurd (hF _ h) (Nat.lt_irrefl _), by omega⟩), hO.then_ hk (fun g hg hl => by simp at hg; omega)⟩
  exact ⟨fun x hx => by simp at hx; omega, fun x hx => Nat.lt_of_lt_of_le (Rep.sl_lt hb.sl x hx) hk.size, by simp, hb.un.only hk (fun x hx => Rep.sl_lt hb.sl x hx) hd⟩
set_option maxRecDepth 100000 in
set_option maxHeartbeats 4000000 in
theorem SR.slot {sb : Nat} {F : List Nat} {W : World} {b : List Int} {o : Nat} (h : SR sb F b o W) (ho : o ≤ 536870912) (hm : b.length ≤ 1048576) (hby : isByte b) (hF : ∀ g ∈ F, g < W.heap.size) :
    Calls Tryd.prog 102 #[.pointer (some ⟨sb, 0, none⟩)] W (SlotS sb F b (spSlot b o).1 (spSlot b o).2 W) := by
  have hu := Tryd.underlying33
  have hlt := h.lt
  have HH := Lib.hid (h.ext (alloc_ext W (.cells #[.bool false, .slice none 0 0] 33)))
  have HB0 := Lib.hid (heap_alloc_new W (.cells #[.bool false, .slice none 0 0] 33))
  have HE0 := Lib.hid ((Only.refl [sb] W).alloc (.cells #[.bool false, .slice none 0 0] 33))
  have HF := Lib.hid hF
  have hne : W.heap.size ∉ [sb] := by simp; omega
  obtain ⟨a, ha⟩ : ∃ a, a = getNum (extB b o 1) := ⟨_, rfl⟩
  obtain ⟨n, hn⟩ : ∃ n : Nat, getNum (extB b (o + 1) 2) = n := ⟨_, (Int.toNat_of_nonneg (num2_room hby (o + 1)).1).symm⟩
  have hn6 := (num2_room hby (o + 1)).2
  rw [hn] at hn6
  have HA := Lib.hid ha; have HN := Lib.hid hn
  simp only [spSlot, ← ha, hn, Int.toNat_natCast]
  clear h hF ha hn hby
  by_cases h1 : a = 1
  · subst h1
    simp only [if_true]
    go_enter Tryd.func102, Tryd.ntmps102
    go_wp2_with (first
      | (go_at_call 103; refine (l4Take_calls HS3.out n _ rfl (by omega) (by omega) hm).mono ?_; rintro e w4 ⟨g4, rfl, hg4, hb4, hS4, hO4⟩; have HB4 := Lib.hid hb4; have HS4 := Lib.hid hS4; have HG4 := Lib.hid hg4; have HO4 := Lib.hid (HO3.out.trans hO4); have hb := hO4.heap HB3.out hne; clear m f; have m := fun o => cell_of_row _ _ o _ _ _ hb; have f := fun o => frozen_of_row _ _ o _ _ hb; clear hg4 hb4 hS4 hO4 hb)
      | (go_at_call 101; refine (HS2.out.num 2 _ rfl (by decide) (by decide) (by omega) hm).mono ?_; rintro e w3 ⟨rfl, hS3, hO3⟩; rw [HN.out]; have HS3 := Lib.hid hS3; have HO3 := Lib.hid (HO2.out.trans hO3); have hb := hO3.heap HB2.out hne; have HB3 := Lib.hid hb; clear m f; have m := fun o => cell_of_row _ _ o _ _ _ hb; have f := fun o => frozen_of_row _ _ o _ _ hb; clear hS3 hO3 hb)
      | (go_at_call 101; refine (HH.out.num 1 _ rfl (by decide) (by decide) (by omega) hm).mono ?_; rintro e w2 ⟨rfl, hS2, hO2⟩; rw [← HA.out]; have HS2 := Lib.hid hS2; have HO2 := Lib.hid (HE0.out.trans hO2); have hb := hO2.heap HB0.out hne; have HB2 := Lib.hid hb; have m := fun o => cell_of_row _ _ o _ _ _ hb; have f := fun o => frozen_of_row _ _ o _ _ hb; clear hS2 hO2 hb))
    refine bodyPost_ret (v := .agg #[.bool true, .slice (some ⟨g4, 0, none⟩) n n]) (by simp [results, Tryd.results102, go_sem, m]) rfl ?_
    exact SlotS.made (extB_len b _ n) HB4.out HG4.out HS4.out HO4.out (Array.getElem?_eq_some_iff.1 HB3.out).1 hlt (by repeat (first | with_reducible exact Only.refl _ _ | ((with_reducible apply Only.set); · simp))) HF.out
  · simp only [if_neg h1]
    have hk1 : (a != 1) = true := bne_iff_ne.2 h1
    go_enter Tryd.func102, Tryd.ntmps102
    go_wp2_with (go_at_call 101; refine (HH.out.num 1 _ rfl (by decide) (by decide) (by omega) hm).mono ?_; rintro e w2 ⟨rfl, hS2, hO2⟩; rw [← HA.out]; have HS2 := Lib.hid hS2; have HO2 := Lib.hid (HE0.out.trans hO2); have hb := hO2.heap HB0.out hne; have m := fun o => cell_of_row _ _ o _ _ _ hb; have f := fun o => frozen_of_row _ _ o _ _ hb; clear hS2 hO2 hb)
    refine bodyPost_ret (v := .agg #[.bool false, .slice none 0 0]) (by simp [results, Tryd.results102, go_sem, m]) rfl ?_
    exact SlotS.zero HS2.out HO2.out hlt (by repeat (first | with_reducible exact Only.refl _ _ | ((with_reducible apply Only.set); · simp))) HF.out
end Go.Proofs.YtghgjddiheebeaaDoor
/- DecodeRecord, the specification's: the state of its walk; what its reader makes of bytes. -/
namespace Go.Proofs.YtghgjddiheebeaaDoor
open Go.RowKit
set_option linter.unusedSimpArgs false
set_option linter.unusedVariables false
section
variable {w0 W W' : World} {sb rb rr n : Nat} {F : List Nat} {arr : Array Value} {b : List Int} {o : Nat}
theorem DS.setR (h : DS (SR sb F b o) w0 rb rr n arr W) (g : Geo w0 sb rb rr n F) (i : Nat) (v : Value) : DS (SR sb F b o) w0 rb rr n (arr.setIfInBounds i v) (W.setCell ⟨rr, i, none⟩ v) :=
  h.set g i v (h.p.only ((Only.refl [rr] W).setCell (by simp) _) (fun x hx => by have := g.r; have := g.d; simp at hx; subst hx; exact ⟨fun hm => by have := g.f _ hm; omega, by omega⟩))
theorem DS.moreR (h : DS (SR sb F b o) w0 rb rr n arr W) (hE : Ext W W') : DS (SR sb F b o) w0 rb rr n arr W' :=
  ⟨h.p.ext hE, hE.heap h.res (by simp), hE.heap h.row (by simp), h.ext.ext hE, Nat.le_trans h.le hE.size⟩
theorem DS.numR (h : DS (SR sb F b o) w0 rb rr n arr W) (g : Geo w0 sb rb rr n F) (k : Nat) (kz : Int) (hkz : kz = k) (h1 : 1 ≤ k) (h8 : k ≤ 8) (ho : o ≤ 1073741824) (hm : b.length ≤ 1048576) (v : Int) (o' : Nat) (hv : getNum (extB b o k) = v) (ho' : o + k = o') :
    Calls Tryd.prog 101 #[.pointer (some ⟨sb, 0, none⟩), .int .i64 kz] W fun e w' => e = .returned (.int .i64 v) ∧ Hid (DS (SR sb F b o') w0 rb rr n arr w') ∧ Hid (Up n W w') := by
  subst hv; subst ho'
  exact (h.p.num k kz hkz h1 h8 ho hm).mono fun e w' ⟨h1, h2, h3⟩ => ⟨h1, Lib.hid (h.only g h3 h2), Lib.hid (h.up g h3)⟩
theorem DS.slotR (h : DS (SR sb F b o) w0 rb rr n arr W) (g : Geo w0 sb rb rr n F) (ho : o ≤ 536870912) (hm : b.length ≤ 1048576) (hby : isByte b) (x : DPageRecord) (o' : Nat) (hr : spSlot b o = (x, o')) :
    Calls Tryd.prog 102 #[.pointer (some ⟨sb, 0, none⟩)] W fun e w' => ∃ A c G, e = .returned (.agg #[.bool x.Used, .slice A x.Data.length c]) ∧ Hid ((Rep.int .u8).sl w' A c x.Data G) ∧ Hid (NewIn W.heap.size w' G) ∧ Hid (DS (SR sb F b o') w0 rb rr n arr w') ∧ Hid (Up n W w') := by
  have hs := h.p.slot ho hm hby (fun x hx => Nat.lt_of_lt_of_le (g.f x hx) h.ext.size)
  rw [hr] at hs
  refine hs.mono ?_
  rintro e w' ⟨A, c, G, rfl, h1, h2, h3, h4⟩
  exact ⟨A, c, G, rfl, Lib.hid h1, Lib.hid h2, Lib.hid (h.only g h4 h3), Lib.hid (h.up g h4)⟩
end
theorem spSlot_le {b : List Int} (h : isByte b) (o : Nat) : (spSlot b o).2 ≤ o + 65538 := by
  unfold spSlot
  have := num2_room h (o + 1)
  split
  · dsimp only; omega
  · dsimp only; omega
theorem num_wf {b : List Int} (h : isByte b) (o n : Nat) (h8 : n ≤ 8) : (Lit.int .i64 (getNum (extB b o n))).wf = true := by
  have := getNum_room (extB_byte h o n) (by rw [extB_len]; exact h8)
  exact wf64 (by omega) this.2
theorem num1_room {b : List Int} (h : isByte b) (o : Nat) : 0 ≤ getNum (extB b o 1) ∧ getNum (extB b o 1) ≤ 255 := by
  have hb := extB_byte h o 1
  have hl := extB_len b o 1
  have h2 := beFromZ_range (extB b o 1) 0 hb
  rw [hl] at h2
  have e : Lib.beZ (extB b o 1) = Lib.beFromZ 0 (extB b o 1) := rfl
  have h5 : (256 : Int) ^ 1 = 256 := by decide
  rw [h5] at h2
  unfold getNum
  rw [if_neg (by rw [hl]; rintro ⟨h, -⟩; omega)]
  omega
def rsTs (b : List Int) : Nat → Nat → List DTxnEntry × Nat
  | 0, o => ([], o)
  | n + 1, o =>
    let r := rsTs b n (o + 21)
    (⟨getNum (extB b o 4), getNum (extB b (o + 4) 1), getNum (extB b (o + 5) 8), getNum (extB b (o + 13) 8)⟩ :: r.1, r.2)
def rsDs (b : List Int) : Nat → Nat → List DDirtyEntry × Nat
  | 0, o => ([], o)
  | n + 1, o =>
    let r := rsDs b n (o + 10)
    (⟨getNum (extB b o 2), getNum (extB b (o + 2) 8)⟩ :: r.1, r.2)
def readS (b : List Int) : DLogRecord :=
  let k := getNum (extB b 0 1)
  let t := getNum (extB b 1 4)
  let p := getNum (extB b 5 8)
  if k = 1 then
    let x := spSlot b 17
    let y := spSlot b x.2
    ⟨k, t, p, getNum (extB b 13 2), getNum (extB b 15 2), x.1, y.1, 0, 0, [], [], []⟩
  else if k = 2 then
    let y := spSlot b 17
    ⟨k, t, p, getNum (extB b 13 2), getNum (extB b 15 2), ⟨false, []⟩, y.1, getNum (extB b y.2 8), 0, [], [], []⟩
  else if k = 7 then
    let ts := rsTs b (getNum (extB b 17 1)).toNat 18
    let ds := rsDs b (getNum (extB b ts.2 1)).toNat (ts.2 + 1)
    ⟨k, t, p, 0, 0, ⟨false, []⟩, ⟨false, []⟩, 0, getNum (extB b 13 4), ts.1, ds.1, []⟩
  else if k = 8 then ⟨k, t, p, getNum (extB b 13 2), 0, ⟨false, []⟩, ⟨false, []⟩, 0, 0, [], [], extB b 15 4096⟩
  else ⟨k, t, p, 0, 0, ⟨false, []⟩, ⟨false, []⟩, 0, 0, [], [], []⟩
noncomputable def decS (b : List Int) : DRecordResult := decR (readS b) false b
end Go.Proofs.YtghgjddiheebeaaDoor
/- DecodeRecord: the plain law: both readers get back a record without fault from its bytes. -/
namespace Go.Proofs.YtghgjddiheebeaaDoor
set_option linter.unusedSimpArgs false
set_option linter.unusedVariables false
theorem isByte_beL (n v : Nat) : isByte (beL n v) := fun z hz => beL_byte n v z hz
theorem getNum_beL (n v : Nat) (h : v < 256 ^ n) (h8 : n ≤ 8) (hv : v ≤ 9223372036854775807) : getNum (beL n v) = v := by
  rw [getNum_lt (isByte_beL n v) (by rw [beL_length]; exact h8), beZ_beL n v h, if_pos (by omega)]
theorem rdNum_beL (n v : Nat) (rest : List Int) (h : v < 256 ^ n) (h8 : n ≤ 8) (hv : v ≤ 9223372036854775807) : rdNum n (beL n v ++ rest, false) = ((v : Int), (rest, false)) := by
  have hl : (beL n v ++ rest).length = n + rest.length := by rw [List.length_append, beL_length]
  have ht : (beL n v ++ rest).take n = beL n v := by rw [List.take_append_of_le_length (by rw [beL_length]; exact Nat.le_refl _), List.take_of_length_le (by rw [beL_length]; exact Nat.le_refl _)]
  have hd : (beL n v ++ rest).drop n = rest := by rw [List.drop_append_of_le_length (by rw [beL_length]; exact Nat.le_refl _), List.drop_of_length_le (by rw [beL_length]; exact Nat.le_refl _), List.nil_append]
  unfold rdNum
  rw [if_pos ⟨rfl, by dsimp only; omega⟩]
  dsimp only
  rw [ht, hd, getNum_beL n v h h8 hv]
  simp
theorem rdI (n : Nat) (v : Int) (rest : List Int) (h0 : 0 ≤ v) (h : v.toNat < 256 ^ n) (h8 : n ≤ 8) (hv : v ≤ 9223372036854775807) : rdNum n (beL n v.toNat ++ rest, false) = (v, (rest, false)) := by
  rw [rdNum_beL n v.toNat rest h h8 (by omega)]
  rw [Int.toNat_of_nonneg h0]
theorem rdSlot_slotB (u : Bool) (d rest : List Int) (hd : d.length ≤ 1000) (hu : u = true ∨ d.length = 0) : rdSlot (slotB u d ++ rest, false) = (⟨u, d⟩, (rest, false)) := by
  unfold rdSlot
  cases u
  · have : d = [] := List.eq_nil_of_length_eq_zero (by simpa using hu)
    subst this
    have e := rdNum_beL 1 0 rest (by decide) (by decide) (by decide)
    simp only [slotB, if_false, Bool.false_eq_true]
    rw [e]
    simp
  · simp only [slotB, if_true, List.append_assoc]
    have e := rdNum_beL 1 1 (beL 2 d.length ++ (d ++ rest)) (by decide) (by decide) (by decide)
    have e2 := rdNum_beL 2 d.length (d ++ rest) (by omega) (by decide) (by omega)
    rw [e]
    dsimp only
    rw [if_neg (by decide), if_pos (by rfl), e2]
    dsimp only
    rw [if_neg (by rintro (h | h); cases h; rw [Int.toNat_natCast, List.length_append] at h; omega), Int.toNat_natCast]
    simp
theorem rdTs_enc : ∀ (ts : List DTxnEntry) (rest : List Int), (∀ x ∈ ts, (0 ≤ x.Txn ∧ x.Txn ≤ 2147483647) ∧ (0 ≤ x.State ∧ x.State ≤ 3) ∧ (0 ≤ x.Last ∧ x.Last ≤ 1099511627776) ∧ 0 ≤ x.UndoNext ∧ x.UndoNext ≤ 1099511627776) →
    rdTs ts.length (ts.flatMap encT ++ rest, false) = (ts, (rest, false))
  | [], rest, _ => rfl
  | t :: ts, rest, h => by
    have ht := h t (by simp)
    have ih := rdTs_enc ts rest (fun x hx => h x (by simp [hx]))
    rw [List.length_cons, rdTs, if_neg Bool.false_ne_true, List.flatMap_cons, encT]
    simp only [List.append_assoc]
    rw [rdI 4 t.Txn _ (by omega) (by omega) (by decide) (by omega)]
    dsimp only
    rw [rdI 1 t.State _ (by omega) (by omega) (by decide) (by omega)]
    dsimp only
    rw [rdI 8 t.Last _ (by omega) (by omega) (by decide) (by omega)]
    dsimp only
    rw [rdI 8 t.UndoNext _ (by omega) (by omega) (by decide) (by omega)]
    dsimp only
    rw [ih]
theorem rdDs_enc : ∀ (ds : List DDirtyEntry) (rest : List Int), (∀ x ∈ ds, (0 ≤ x.Page ∧ x.Page ≤ 15) ∧ 0 ≤ x.RecLSN ∧ x.RecLSN ≤ 1099511627776) →
    rdDs ds.length (ds.flatMap encD ++ rest, false) = (ds, (rest, false))
  | [], rest, _ => rfl
  | t :: ds, rest, h => by
    have ht := h t (by simp)
    have ih := rdDs_enc ds rest (fun x hx => h x (by simp [hx]))
    rw [List.length_cons, rdDs, if_neg Bool.false_ne_true, List.flatMap_cons, encD]
    simp only [List.append_assoc]
    rw [rdI 2 t.Page _ (by omega) (by omega) (by decide) (by omega)]
    dsimp only
    rw [rdI 8 t.RecLSN _ (by omega) (by omega) (by decide) (by omega)]
    dsimp only
    rw [ih]
theorem recExtra {x : DLogRecord} (h : recFault x = 0) : extraF x.Kind x.Txn x.Prev x.Page x.Slot x.Before.Used x.Before.Data.length x.After.Used x.After.Data.length x.UndoNext x.NextTxn x.Txns.length x.Dirty.length x.Image.length = false := by
  unfold recFault recF at h
  repeat' split at h
  all_goals first
    | (exact absurd h (by decide))
    | skip
  rename_i h1 h2 h3 h4 h5 h6 h7 h8 h9
  simpa using h2
/-- What a record without fault does not hold. -/
structure RecNo (x : DLogRecord) : Prop where
  tp : 5 < x.Kind → x.Txn = 0 ∧ x.Prev = 0
  sl : 2 < x.Kind → x.Slot = 0 ∧ x.After = ⟨false, []⟩
  pg : 2 < x.Kind → x.Kind ≠ 8 → x.Page = 0
  be : x.Kind ≠ 1 → x.Before = ⟨false, []⟩
  un : x.Kind ≠ 2 → x.UndoNext = 0
  tb : x.Kind ≠ 7 → x.NextTxn = 0 ∧ x.Txns = [] ∧ x.Dirty = []
  im : x.Kind ≠ 8 → x.Image = []
theorem zeroSlot {r : DPageRecord} (h : zR r.Used r.Data.length = true) : r = ⟨false, []⟩ := by
  obtain ⟨u, d⟩ := r
  have := zR_true.1 h
  dsimp only at this
  rw [this.1, List.eq_nil_of_length_eq_zero this.2]
theorem recNo {x : DLogRecord} (h : recFault x = 0) : RecNo x := by
  have e := recExtra h
  simp only [extraF, Bool.or_eq_false_iff, Bool.and_eq_false_iff, decide_eq_false_iff_not, Bool.not_eq_eq_eq_not, Bool.not_false, Classical.not_not] at e
  obtain ⟨⟨⟨⟨⟨⟨h1, h2⟩, h3⟩, h4⟩, h5⟩, h6⟩, h7⟩ := e
  refine ⟨fun hk => ?_, fun hk => ?_, fun hk h8 => ?_, fun hk => ?_, fun hk => ?_, fun hk => ?_, fun hk => ?_⟩
  · rcases h1 with h1 | h1
    · omega
    · exact h1
  · rcases h2 with h2 | h2
    · omega
    · exact ⟨h2.1, zeroSlot h2.2⟩
  · rcases h3 with (h3 | h3) | h3
    · omega
    · exact absurd h3 h8
    · exact h3
  · rcases h4 with h4 | h4
    · exact absurd h4 hk
    · exact zeroSlot h4
  · rcases h5 with h5 | h5
    · exact absurd h5 hk
    · exact h5
  · rcases h6 with h6 | h6
    · exact absurd h6 hk
    · exact ⟨h6.1.1, List.eq_nil_of_length_eq_zero (by omega), List.eq_nil_of_length_eq_zero (by omega)⟩
  · rcases h7 with h7 | h7
    · exact absurd h7 hk
    · exact List.eq_nil_of_length_eq_zero (by omega)
/-- The program's reader gets a record without fault back. -/
theorem readI_enc {x : DLogRecord} (h : recFault x = 0) : readI (encR x) = (x, false) := by
  have ok := recOk h
  have no := recNo h
  obtain ⟨k, t, pv, pg, sl, ⟨u1, d1⟩, ⟨u2, d2⟩, un, nt, ts, ds, im⟩ := x
  have hk := ok.kind; have ht := ok.txn; have hp := ok.prev; have hg := ok.page; have hs := ok.slot
  dsimp only at hk ht hp hg hs
  unfold readI encR
  dsimp only
  rw [rdI 1 k _ (by omega) (by omega) (by decide) (by omega)]
  dsimp only
  rw [rdI 4 t _ (by omega) (by omega) (by decide) (by omega)]
  dsimp only
  rw [rdI 8 pv _ (by omega) (by omega) (by decide) (by omega)]
  dsimp only
  by_cases h1 : k = 1
  · subst h1
    have hb := ok.bef (by dsimp only; decide); have ha := ok.aft (by dsimp only; decide)
    have n1 := no.un (by dsimp only; decide); have n2 := no.tb (by dsimp only; decide); have n3 := no.im (by dsimp only; decide)
    dsimp only at hb ha n1 n2 n3
    obtain ⟨n2, n4, n5⟩ := n2
    subst n1; subst n2; subst n3; subst n4; subst n5
    rw [if_pos rfl]
    unfold encBody
    dsimp only
    rw [if_pos rfl, rdI 2 pg _ (by omega) (by omega) (by decide) (by omega)]
    dsimp only
    rw [rdI 2 sl _ (by omega) (by omega) (by decide) (by omega)]
    dsimp only
    rw [rdSlot_slotB u1 d1 _ hb.1 hb.2]
    dsimp only
    have e := rdSlot_slotB u2 d2 [] ha.1 ha.2
    rw [List.append_nil] at e
    rw [e]
  rw [if_neg h1]
  have hbz := no.be h1
  dsimp only at hbz
  by_cases h2 : k = 2
  · subst h2
    have ha := ok.aft (by dsimp only; decide)
    have hun := ok.un rfl
    have n2 := no.tb (by dsimp only; decide); have n3 := no.im (by dsimp only; decide)
    dsimp only at ha hun n2 n3
    obtain ⟨n2, n4, n5⟩ := n2
    subst n2; subst n3; subst n4; subst n5
    rw [if_pos rfl]
    unfold encBody
    dsimp only
    rw [if_neg (by decide), if_pos rfl, rdI 2 pg _ (by omega) (by omega) (by decide) (by omega)]
    dsimp only
    rw [rdI 2 sl _ (by omega) (by omega) (by decide) (by omega)]
    dsimp only
    rw [rdSlot_slotB u2 d2 _ ha.1 ha.2]
    dsimp only
    have e := rdI 8 un [] (by omega) (by omega) (by decide) (by omega)
    rw [List.append_nil] at e
    rw [e, hbz]
  rw [if_neg h2]
  have hun := no.un h2
  dsimp only at hun
  subst hun
  have hsl := no.sl (by dsimp only; omega)
  dsimp only at hsl
  obtain ⟨rfl, haz⟩ := hsl
  rw [hbz, haz]
  by_cases h7 : k = 7
  · subst h7
    have tk := tabOk (ok.tab rfl)
    have n1 := no.pg (by dsimp only; decide) (by dsimp only; decide); have n3 := no.im (by dsimp only; decide)
    dsimp only at tk n1 n3
    subst n1; subst n3
    have tnt := tk.nt; have tlt := tk.lt; have tld := tk.ld
    rw [if_pos rfl]
    unfold encBody
    dsimp only
    rw [if_neg (by decide), if_neg (by decide), if_pos rfl, rdI 4 nt _ (by omega) (by omega) (by decide) (by omega)]
    dsimp only
    rw [rdNum_beL 1 ts.length _ (by omega) (by decide) (by omega)]
    dsimp only
    rw [Int.toNat_natCast, rdTs_enc ts _ tk.t]
    dsimp only
    rw [rdNum_beL 1 ds.length _ (by omega) (by decide) (by omega)]
    dsimp only
    have e := rdDs_enc ds [] tk.d
    rw [List.append_nil] at e
    rw [Int.toNat_natCast, e]
  rw [if_neg h7]
  have htb := no.tb h7
  dsimp only at htb
  obtain ⟨rfl, rfl, rfl⟩ := htb
  by_cases h8 : k = 8
  · subst h8
    rw [if_pos rfl]
    unfold encBody
    dsimp only
    rw [if_neg (by decide), if_neg (by decide), if_neg (by decide), if_pos rfl, rdI 2 pg _ (by omega) (by omega) (by decide) (by omega)]
  rw [if_neg h8]
  have him := no.im h8
  have hpz := no.pg (by dsimp only; omega) h8
  dsimp only at him hpz
  subst him; subst hpz
  rfl
end Go.Proofs.YtghgjddiheebeaaDoor
/- DecodeRecord: the plain law for the specification's reader; both readers' answers are one. -/
namespace Go.Proofs.YtghgjddiheebeaaDoor
set_option linter.unusedSimpArgs false
set_option linter.unusedVariables false
theorem extB_of_drop {b : List Int} {o n : Nat} {xs rest : List Int} (h : b.drop o = xs ++ rest) (hl : xs.length = n) : extB b o n = xs := by
  subst hl
  apply List.ext_getElem (by rw [extB_len])
  intro i h1 h2
  have e : b[o + i]? = some xs[i] := by
    have h3 : (b.drop o)[i]? = some xs[i] := by rw [h, List.getElem?_append_left h2, List.getElem?_eq_getElem h2]
    rwa [List.getElem?_drop] at h3
  simp only [extB, List.getElem_map, List.getElem_range]
  rw [List.getD_eq_getElem?_getD, e]
  rfl
theorem drop_next {b : List Int} {o n : Nat} {xs rest : List Int} (h : b.drop o = xs ++ rest) (hl : xs.length = n) : b.drop (o + n) = rest := by
  rw [← List.drop_drop, h, ← hl]; simp
theorem numS {b : List Int} {o n : Nat} {v : Int} {rest : List Int} (h : b.drop o = beL n v.toNat ++ rest) (h0 : 0 ≤ v) (hv : v.toNat < 256 ^ n) (h8 : n ≤ 8) (hm : v ≤ 9223372036854775807) : getNum (extB b o n) = v ∧ b.drop (o + n) = rest := by
  rw [extB_of_drop h (beL_length _ _), getNum_beL n _ hv h8 (by omega)]
  exact ⟨Int.toNat_of_nonneg h0, drop_next h (beL_length _ _)⟩
theorem numS' {b : List Int} {o n m : Nat} {rest : List Int} (h : b.drop o = beL n m ++ rest) (hv : m < 256 ^ n) (h8 : n ≤ 8) (hm : m ≤ 9223372036854775807) : getNum (extB b o n) = m ∧ b.drop (o + n) = rest := by
  rw [extB_of_drop h (beL_length _ _), getNum_beL n _ hv h8 hm]
  exact ⟨rfl, drop_next h (beL_length _ _)⟩
theorem slotS {b : List Int} {o : Nat} {u : Bool} {d rest : List Int} (h : b.drop o = slotB u d ++ rest) (hd : d.length ≤ 1000) (hu : u = true ∨ d.length = 0) : ∃ o', spSlot b o = (⟨u, d⟩, o') ∧ b.drop o' = rest := by
  unfold spSlot
  cases u
  · have : d = [] := List.eq_nil_of_length_eq_zero (by simpa using hu)
    subst this
    simp only [slotB, if_false, Bool.false_eq_true] at h
    have e := numS' h (by decide) (by decide) (by decide)
    rw [e.1]
    exact ⟨o + 1, by simp, e.2⟩
  · simp only [slotB, if_true, List.append_assoc] at h
    have e := numS' h (by decide) (by decide) (by decide)
    have e2 := numS' e.2 (by omega) (by decide) (by omega)
    rw [e.1, e2.1]
    refine ⟨o + 3 + d.length, ?_, drop_next (by simpa [Nat.add_assoc] using e2.2) rfl⟩
    rw [if_pos (by rfl), Int.toNat_natCast]
    have h3 : b.drop (o + 3) = d ++ rest := by simpa [Nat.add_assoc] using e2.2
    rw [extB_of_drop h3 rfl]
theorem rsTs_enc {b : List Int} : ∀ (ts : List DTxnEntry) (o : Nat) (rest : List Int), b.drop o = ts.flatMap encT ++ rest → (∀ x ∈ ts, (0 ≤ x.Txn ∧ x.Txn ≤ 2147483647) ∧ (0 ≤ x.State ∧ x.State ≤ 3) ∧ (0 ≤ x.Last ∧ x.Last ≤ 1099511627776) ∧ 0 ≤ x.UndoNext ∧ x.UndoNext ≤ 1099511627776) →
    ∃ o', rsTs b ts.length o = (ts, o') ∧ b.drop o' = rest
  | [], o, rest, h, _ => ⟨o, rfl, h⟩
  | t :: ts, o, rest, h, hx => by
    have ht := hx t (by simp)
    rw [List.flatMap_cons, encT] at h
    simp only [List.append_assoc] at h
    have e1 := numS h (by omega) (by omega) (by decide) (by omega)
    have e2 := numS e1.2 (by omega) (by omega) (by decide) (by omega)
    have e3 := numS e2.2 (by omega) (by omega) (by decide) (by omega)
    have e4 := numS e3.2 (by omega) (by omega) (by decide) (by omega)
    obtain ⟨o', h1, h2⟩ := rsTs_enc ts _ rest e4.2 (fun x h => hx x (by simp [h]))
    refine ⟨o', ?_, h2⟩
    have a2 := e2.1; have a3 := e3.1; have a4 := e4.1
    simp only [Nat.add_assoc, Nat.reduceAdd] at a2 a3 a4 h1
    rw [List.length_cons, rsTs, h1, e1.1, a2, a3, a4]
theorem rsDs_enc {b : List Int} : ∀ (ds : List DDirtyEntry) (o : Nat) (rest : List Int), b.drop o = ds.flatMap encD ++ rest → (∀ x ∈ ds, (0 ≤ x.Page ∧ x.Page ≤ 15) ∧ 0 ≤ x.RecLSN ∧ x.RecLSN ≤ 1099511627776) →
    ∃ o', rsDs b ds.length o = (ds, o') ∧ b.drop o' = rest
  | [], o, rest, h, _ => ⟨o, rfl, h⟩
  | t :: ds, o, rest, h, hx => by
    have ht := hx t (by simp)
    rw [List.flatMap_cons, encD] at h
    simp only [List.append_assoc] at h
    have e1 := numS h (by omega) (by omega) (by decide) (by omega)
    have e2 := numS e1.2 (by omega) (by omega) (by decide) (by omega)
    obtain ⟨o', h1, h2⟩ := rsDs_enc ds _ rest e2.2 (fun x h => hx x (by simp [h]))
    refine ⟨o', ?_, h2⟩
    have a2 := e2.1
    simp only [Nat.add_assoc, Nat.reduceAdd] at a2 h1
    rw [List.length_cons, rsDs, h1, e1.1, a2]
/-- The specification's reader gets a record without fault back. -/
theorem readS_enc {x : DLogRecord} (h : recFault x = 0) : readS (encR x) = x := by
  have ok := recOk h
  have no := recNo h
  obtain ⟨k, t, pv, pg, sl, ⟨u1, d1⟩, ⟨u2, d2⟩, un, nt, ts, ds, im⟩ := x
  have hk := ok.kind; have ht := ok.txn; have hp := ok.prev; have hg := ok.page; have hs := ok.slot
  dsimp only at hk ht hp hg hs
  obtain ⟨b, hb⟩ : ∃ b, b = encR ⟨k, t, pv, pg, sl, ⟨u1, d1⟩, ⟨u2, d2⟩, un, nt, ts, ds, im⟩ := ⟨_, rfl⟩
  rw [← hb]
  have e0 : b.drop 0 = beL 1 k.toNat ++ (beL 4 t.toNat ++ (beL 8 pv.toNat ++ encBody ⟨k, t, pv, pg, sl, ⟨u1, d1⟩, ⟨u2, d2⟩, un, nt, ts, ds, im⟩)) := by rw [List.drop_zero, hb]; rfl
  have q1 := numS e0 (by omega) (by omega) (by decide) (by omega)
  have q2 := numS q1.2 (by omega) (by omega) (by decide) (by omega)
  have q3 := numS q2.2 (by omega) (by omega) (by decide) (by omega)
  clear hb e0
  simp only [Nat.reduceAdd] at q1 q2 q3
  have e3 := q3.2
  unfold readS
  dsimp only
  rw [q1.1, q2.1, q3.1]
  by_cases h1 : k = 1
  · subst h1
    have hb := ok.bef (by dsimp only; decide); have ha := ok.aft (by dsimp only; decide)
    have n1 := no.un (by dsimp only; decide); have n2 := no.tb (by dsimp only; decide); have n3 := no.im (by dsimp only; decide)
    dsimp only at hb ha n1 n2 n3
    obtain ⟨n2, n4, n5⟩ := n2
    subst n1; subst n2; subst n3; subst n4; subst n5
    unfold encBody at e3
    dsimp only at e3
    rw [if_pos rfl] at e3
    have r1 := numS e3 (by omega) (by omega) (by decide) (by omega)
    have r2 := numS r1.2 (by omega) (by omega) (by decide) (by omega)
    simp only [Nat.reduceAdd] at r1 r2
    obtain ⟨o1, s1, s2⟩ := slotS r2.2 hb.1 hb.2
    have s2' : b.drop o1 = slotB u2 d2 ++ [] := by rw [List.append_nil]; exact s2
    obtain ⟨o2, s3, s4⟩ := slotS s2' ha.1 ha.2
    rw [if_pos rfl, s1]
    dsimp only
    rw [s3, r1.1, r2.1]
  rw [if_neg h1]
  have hbz := no.be h1
  dsimp only at hbz
  by_cases h2 : k = 2
  · subst h2
    have ha := ok.aft (by dsimp only; decide)
    have hun := ok.un rfl
    have n2 := no.tb (by dsimp only; decide); have n3 := no.im (by dsimp only; decide)
    dsimp only at ha hun n2 n3
    obtain ⟨n2, n4, n5⟩ := n2
    subst n2; subst n3; subst n4; subst n5
    unfold encBody at e3
    dsimp only at e3
    rw [if_neg (by decide), if_pos rfl] at e3
    have r1 := numS e3 (by omega) (by omega) (by decide) (by omega)
    have r2 := numS r1.2 (by omega) (by omega) (by decide) (by omega)
    simp only [Nat.reduceAdd] at r1 r2
    obtain ⟨o1, s1, s2⟩ := slotS r2.2 ha.1 ha.2
    have s2' : b.drop o1 = beL 8 un.toNat ++ [] := by rw [List.append_nil]; exact s2
    have r3 := numS s2' (by omega) (by omega) (by decide) (by omega)
    rw [if_pos rfl, s1]
    dsimp only
    rw [r3.1, r1.1, r2.1, hbz]
  rw [if_neg h2]
  have hun := no.un h2
  dsimp only at hun
  subst hun
  have hsl := no.sl (by dsimp only; omega)
  dsimp only at hsl
  obtain ⟨rfl, haz⟩ := hsl
  rw [hbz, haz]
  by_cases h7 : k = 7
  · subst h7
    have tk := tabOk (ok.tab rfl)
    have n1 := no.pg (by dsimp only; decide) (by dsimp only; decide); have n3 := no.im (by dsimp only; decide)
    dsimp only at tk n1 n3
    subst n1; subst n3
    have tnt := tk.nt; have tlt := tk.lt; have tld := tk.ld
    unfold encBody at e3
    dsimp only at e3
    rw [if_neg (by decide), if_neg (by decide), if_pos rfl] at e3
    have r1 := numS e3 (by omega) (by omega) (by decide) (by omega)
    have r2 := numS' r1.2 (by omega) (by decide) (by omega)
    simp only [Nat.reduceAdd] at r1 r2
    obtain ⟨o1, s1, s2⟩ := rsTs_enc ts _ _ r2.2 tk.t
    have r3 := numS' s2 (by omega) (by decide) (by omega)
    have r3' : b.drop (o1 + 1) = ds.flatMap encD ++ [] := by rw [List.append_nil]; exact r3.2
    obtain ⟨o2, s3, s4⟩ := rsDs_enc ds _ _ r3' tk.d
    rw [if_pos rfl, r2.1, Int.toNat_natCast, s1]
    dsimp only
    rw [r3.1, Int.toNat_natCast, s3, r1.1]
  rw [if_neg h7]
  have htb := no.tb h7
  dsimp only at htb
  obtain ⟨rfl, rfl, rfl⟩ := htb
  by_cases h8 : k = 8
  · subst h8
    have hil := (fault_zero (ok.img rfl)).1
    dsimp only at hil
    unfold encBody at e3
    dsimp only at e3
    rw [if_neg (by decide), if_neg (by decide), if_neg (by decide), if_pos rfl] at e3
    have r1 := numS e3 (by omega) (by omega) (by decide) (by omega)
    simp only [Nat.reduceAdd] at r1
    have r2 : b.drop 15 = im ++ [] := by rw [List.append_nil]; exact r1.2
    rw [if_pos rfl, r1.1, extB_of_drop r2 hil]
  rw [if_neg h8]
  have him := no.im h8
  have hpz := no.pg (by dsimp only; omega) h8
  dsimp only at him hpz
  subst him; subst hpz
  rfl
theorem decR_good {x : DLogRecord} {bad : Bool} {b : List Int} (h : bad = false ∧ recFault x = 0 ∧ encRec x = b) : decR x bad b = ⟨true, x⟩ := if_pos h
theorem decR_bad {x : DLogRecord} {bad : Bool} {b : List Int} (h : ¬ (bad = false ∧ recFault x = 0 ∧ encRec x = b)) : decR x bad b = ⟨false, zeroRecD⟩ := if_neg h
/-- Both answer the same. -/
theorem decI_decS (b : List Int) : decI b = decS b := by
  unfold decI decS
  by_cases h1 : (readI b).2 = false ∧ recFault (readI b).1 = 0 ∧ encRec (readI b).1 = b
  · obtain ⟨e1, e2, e3⟩ := h1
    rw [decR_good ⟨e1, e2, e3⟩]
    have e4 : encR (readI b).1 = b := by rw [encRec, if_pos e2] at e3; exact e3
    have e5 : readS b = (readI b).1 := by
      have := readS_enc e2
      rwa [e4] at this
    rw [e5, decR_good ⟨rfl, e2, e3⟩]
  · rw [decR_bad h1]
    by_cases h2 : recFault (readS b) = 0 ∧ encRec (readS b) = b
    · exfalso
      obtain ⟨e2, e3⟩ := h2
      have e4 : encR (readS b) = b := by rw [encRec, if_pos e2] at e3; exact e3
      have e5 := readI_enc e2
      rw [e4] at e5
      exact h1 (by rw [e5]; exact ⟨rfl, e2, e3⟩)
    · rw [decR_bad (fun h => h2 h.2)]
end Go.Proofs.YtghgjddiheebeaaDoor
