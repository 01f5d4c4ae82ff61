/- DecodeRecord, the program's: the tables: lemmas. -/
import Derived.Test.YtghgjddiheebeaaDoorMS9
import Derived.Deep.RegionHeld3
import Derived.Deep.DeepCutAuto
import Derived.Deep.CutBlock
namespace Go.Proofs.YtghgjddiheebeaaDoor
open Go.RowKit
set_option linter.unusedSimpArgs false
set_option linter.unusedVariables false
theorem DS.below {w0 W W' : World} {sb rb rr n : Nat} {F : List Nat} {rest : List Int} {bad : Bool} {arr : Array Value} (h : DS (SC sb F rest bad) w0 rb rr n arr W) (g : Geo w0 sb rb rr n F) (hb : Below n W W') : DS (SC sb F rest bad) w0 rb rr n arr W' := by
  obtain ⟨⟨⟨A, c, G, h1, hs, hG⟩, hne⟩, h2, h3, h4, h5⟩ := h
  have gs := g.s; have gb := g.b; have gr := g.r
  refine ⟨⟨⟨A, c, G, (hb.block sb (by omega)).trans h1, Rep.sl_keep hs (fun x hx => hb.block x (by have := g.f x (hG x hx); omega)), hG⟩, hne⟩, (hb.block rb (by omega)).trans h2, (hb.block rr (by omega)).trans h3, ?_, Nat.le_trans h5 hb.size⟩
  exact ⟨hb.os.trans h4.os, hb.tape.trans h4.tape, hb.output.trans h4.output, Nat.le_trans h4.size hb.size, fun k hk hn => (hb.block k (by omega)).trans (h4.block k hk hn)⟩
theorem infoT : (Tryd.prog.info? 104).map (fun i => (i.zero, i.size, i.bytes)) = some (some (.agg #[.int .i64 0, .int .i64 0, .int .i64 0, .int .i64 0]), 4, 32) := by kernel_rfl
theorem infoD : (Tryd.prog.info? 106).map (fun i => (i.zero, i.size, i.bytes)) = some (some (.agg #[.int .i64 0, .int .i64 0]), 2, 16) := by kernel_rfl
theorem rdTs_room : ∀ (n : Nat) (s : List Int × Bool), (rdTs n s).2.1.length ≤ s.1.length ∧ (∀ z ∈ (rdTs n s).2.1, z ∈ s.1)
  | 0, s => ⟨Nat.le_refl _, fun _ h => h⟩
  | n + 1, s => by
    unfold rdTs
    split
    · exact ⟨Nat.le_refl _, fun _ h => h⟩
    · dsimp only
      have r := rdTs_room n (rdNum 8 (rdNum 8 (rdNum 1 (rdNum 4 s).2).2).2).2
      have a1 := rdNum_len 4 s; have a2 := rdNum_len 1 (rdNum 4 s).2; have a3 := rdNum_len 8 (rdNum 1 (rdNum 4 s).2).2; have a4 := rdNum_len 8 (rdNum 8 (rdNum 1 (rdNum 4 s).2).2).2
      exact ⟨by omega, fun z hz => rdNum_mem _ _ z (rdNum_mem _ _ z (rdNum_mem _ _ z (rdNum_mem _ _ z (r.2 z hz))))⟩
theorem rdTs_done {m : Nat} {s : List Int × Bool} (h : m = 0 ∨ s.2 = true) : rdTs m s = ([], s) := by
  cases m with
  | zero => rfl
  | succ m => rw [rdTs, if_pos (h.elim (fun h => by cases h) id)]
theorem rdDs_done {m : Nat} {s : List Int × Bool} (h : m = 0 ∨ s.2 = true) : rdDs m s = ([], s) := by
  cases m with
  | zero => rfl
  | succ m => rw [rdDs, if_pos (h.elim (fun h => by cases h) id)]
theorem rdTs_step {m : Nat} {r0 r1 r2 r3 r4 : List Int} {b1 b2 b3 b4 : Bool} {a b c d : Int} (h1 : rdNum 4 (r0, false) = (a, (r1, b1))) (h2 : rdNum 1 (r1, b1) = (b, (r2, b2))) (h3 : rdNum 8 (r2, b2) = (c, (r3, b3))) (h4 : rdNum 8 (r3, b3) = (d, (r4, b4))) :
    rdTs (m + 1) (r0, false) = (⟨a, b, c, d⟩ :: (rdTs m (r4, b4)).1, (rdTs m (r4, b4)).2) := by
  rw [rdTs, if_neg Bool.false_ne_true, h1]
  dsimp only
  rw [h2]
  dsimp only
  rw [h3]
  dsimp only
  rw [h4]
theorem rdDs_step {m : Nat} {r0 r1 r2 : List Int} {b1 b2 : Bool} {a b : Int} (h1 : rdNum 2 (r0, false) = (a, (r1, b1))) (h2 : rdNum 8 (r1, b1) = (b, (r2, b2))) :
    rdDs (m + 1) (r0, false) = (⟨a, b⟩ :: (rdDs m (r2, b2)).1, (rdDs m (r2, b2)).2) := by
  rw [rdDs, if_neg Bool.false_ne_true, h1]
  dsimp only
  rw [h2]
theorem DS.numO {w0 W : World} {sb rb rr n : Nat} {F : List Nat} {arr : Array Value} {rest : List Int} {bad : Bool} (h : DS (SC sb F rest bad) w0 rb rr n arr W) (g : Geo w0 sb rb rr n F) (k : Nat) (kz : Int) (hkz : kz = k) (hk : k = 1 ∨ k = 2 ∨ k = 4 ∨ k = 8) (hm : rest.length ≤ 1048576) (a : Int) (r : List Int) (b : Bool) (hr : rdNum k (rest, bad) = (a, (r, b))) :
    Calls Tryd.prog 105 #[.pointer (some ⟨sb, 0, none⟩), .int .i64 kz] W fun e w' => e = .returned (.int .i64 a) ∧ Hid (DS (SC sb F r b) w0 rb rr n arr w') ∧ Hid (Only [sb] W w') :=
  (h.p.numP k kz hkz hk hm a r b hr).mono fun e w' ⟨h1, h2, h3⟩ => ⟨h1, Lib.hid (h.only g h3 h2), Lib.hid h3⟩
theorem rdNum1_room {s : List Int × Bool} {a : Int} {r : List Int} {b : Bool} (h : rdNum 1 s = (a, (r, b))) (hb : isByte s.1) : 0 ≤ a ∧ a ≤ 255 := by
  have e : a = (rdNum 1 s).1 := by rw [h]
  rw [e]
  unfold rdNum
  split
  · rename_i hc
    have hl : (s.1.take 1).length = 1 := by rw [List.length_take]; omega
    have hw : isByte (s.1.take 1) := fun z hz => hb z (List.mem_of_mem_take hz)
    have h2 := beFromZ_range (s.1.take 1) 0 hw
    rw [hl] at h2
    have e : Lib.beZ (s.1.take 1) = Lib.beFromZ 0 (s.1.take 1) := rfl
    have h5 : (256 : Int) ^ 1 = 256 := by decide
    rw [h5] at h2
    dsimp only
    unfold getNum
    rw [if_neg (by rw [hl]; rintro ⟨h, -⟩; omega)]
    omega
  · exact ⟨Int.le_refl _, by dsimp only; decide⟩
theorem Own.sl {α : Type} {r : Rep α} {e : TypeId} {n : Nat} {w : World} {A : Option Addr} {c : Nat} {xs : List α} (h : Own r e n w (.slice A xs.length c) xs) : ∃ G, r.sl w A c xs G ∧ NewIn n w G := by
  obtain ⟨F, hV, hF⟩ := h.done
  obtain ⟨A', c', he, hs⟩ := Rep.slice_V hV
  injection he with h1 h2 h3
  subst h1; subst h3
  exact ⟨F, hs, hF⟩
theorem Up.two {n : Nat} {W W' : World} {a b : Nat} (h : Only [a, b] W W') (ha : a < n) (hb : b < n) : Up n W W' := .only h (fun g hg => by simp at hg; omega)
end Go.Proofs.YtghgjddiheebeaaDoor
