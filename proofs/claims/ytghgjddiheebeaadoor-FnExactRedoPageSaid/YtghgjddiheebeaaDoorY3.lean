/- A buffer of one's own: writes. -/
import Derived.Test.YtghgjddiheebeaaDoorY2
namespace Go.Proofs.YtghgjddiheebeaaDoor
open Go.RowKit
set_option linter.unusedSimpArgs false
set_option linter.unusedVariables false
/-- Bytes of the call's own, on one block. -/
structure Buf (w : World) (g off c : Nat) (xs : List Int) : Prop where
  sl : (Rep.int .u8).sl w (some ⟨g, off, none⟩) c xs [g]
  un : Unfr w [g]
theorem Buf.lt {w : World} {g off c : Nat} {xs : List Int} (h : Buf w g off c xs) : g < w.heap.size := Rep.sl_lt h.sl g (by simp)
theorem Buf.ext {w w' : World} {g off c : Nat} {xs : List Int} (h : Buf w g off c xs) (hE : Ext w w') : Buf w' g off c xs :=
  ⟨Rep.sl_ext h.sl hE, h.un.ext hE (fun b hb => Rep.sl_lt h.sl b hb)⟩
theorem Buf.putU16 {w : World} {g off c : Nat} {xs : List Int} (h : Buf w g off c xs) (n c' a q : Nat) (hq : q = off + a) (ha : a + 2 ≤ xs.length) (hn : 2 ≤ n) (v : Nat) (hv : v < 65536) :
    Calls Tryd.prog 66 #[.agg #[], .slice (some ⟨g, q, none⟩) n c', .int .u16 v] w fun e w' => e = .returned (.tuple #[]) ∧ Buf w' g off c (splice xs a (beL 2 v)) ∧ Only [g] w w' := by
  subst hq
  exact (putU16_calls w g off c n c' xs [g] h.sl h.un a ha hn v hv).mono fun e w' ⟨h1, h2, h3, h4⟩ => ⟨h1, ⟨h2, h3⟩, h4⟩
theorem Buf.putU32 {w : World} {g off c : Nat} {xs : List Int} (h : Buf w g off c xs) (n c' a q : Nat) (hq : q = off + a) (ha : a + 4 ≤ xs.length) (hn : 4 ≤ n) (v : Nat) (hv : v < 4294967296) :
    Calls Tryd.prog 64 #[.agg #[], .slice (some ⟨g, q, none⟩) n c', .int .u32 v] w fun e w' => e = .returned (.tuple #[]) ∧ Buf w' g off c (splice xs a (beL 4 v)) ∧ Only [g] w w' := by
  subst hq
  exact (putU32_calls w g off c n c' xs [g] h.sl h.un a ha hn v hv).mono fun e w' ⟨h1, h2, h3, h4⟩ => ⟨h1, ⟨h2, h3⟩, h4⟩
theorem Buf.putU64 {w : World} {g off c : Nat} {xs : List Int} (h : Buf w g off c xs) (n c' a q : Nat) (hq : q = off + a) (ha : a + 8 ≤ xs.length) (hn : 8 ≤ n) (v : Nat) (hv : v < 18446744073709551616) :
    Calls Tryd.prog 67 #[.agg #[], .slice (some ⟨g, q, none⟩) n c', .int .u64 v] w fun e w' => e = .returned (.tuple #[]) ∧ Buf w' g off c (splice xs a (beL 8 v)) ∧ Only [g] w w' := by
  subst hq
  exact (putU64_calls w g off c n c' xs [g] h.sl h.un a ha hn v hv).mono fun e w' ⟨h1, h2, h3, h4⟩ => ⟨h1, ⟨h2, h3⟩, h4⟩
theorem splice_nil {α : Type} (L : List α) (o : Nat) : splice L o [] = L := by simp [splice]
/-- A byte written. -/
theorem Buf.set {w : World} {g off c : Nat} {xs : List Int} (h : Buf w g off c xs) (i : Nat) (hi : i < xs.length) (z : Int) (hz : (Lit.int .u8 z).wf = true) : Buf (w.setCell ⟨g, off + i, none⟩ (.int .u8 z)) g off c (splice xs i [z]) := by
  obtain ⟨g', off', e, -, -, -, -, h1, h2⟩ := sl_splice (ys := [z]) h.sl h.un i (by simp; omega) (by omega) (fun y hy => by simp at hy; subst hy; exact hz)
  injection e with e
  injection e with e1 e2
  subst e1; subst e2
  exact ⟨h1, h2⟩
/-- copy(dst, src): dst cut out of the buffer at place p. -/
theorem copy_buf {P : Program} {w : World} {ops : Array Oper} {rest : List Oper} {o : Oper} {a : Act} {Q : Exit → Act → World → Prop} (hgd : o.guard = none) (d s : Operand) (dT sT : TypeId)
    (ho : o.op = .call { callee := .builtin .copy, args := #[d, s], argTypes := #[dT, sT] }) (elem : TypeId) (hu : P.underlying dT = some (.slice elem)) (hsz : (P.info? elem).map (·.size) = some 1)
    (dp sp : Option Addr) (dLen dCap sLen sCap : Nat) (hd : a.eval d = .slice dp dLen dCap) (hs : a.eval s = .slice sp sLen sCap)
    {g off c : Nat} {xs ys : List Int} (h : Buf w g off c xs) (p : Nat) (hy : ∀ y ∈ ys, (Lit.int .u8 y).wf = true) (hp : p + ys.length ≤ xs.length) (hn : ys.length = Nat.min sLen dLen)
    (hpos : 0 < ys.length → dp = some ⟨g, off + p, none⟩ ∧ ∃ ad, sp = some ad ∧ ∀ j v, (ys.map (Value.int .u8))[j]? = some v → w.cell? (ad.add j) = some v)
    (K : ∀ w', Buf w' g off c (splice xs p ys) → Only [g] w w' → wpList P ops Q rest (a.put o.dst (goInt ys.length)) w') : wpList P ops Q (o :: rest) a w := by
  by_cases h0 : ys.length = 0
  · obtain rfl : ys = [] := List.eq_nil_of_length_eq_zero h0
    refine wpList_copy_nothing hgd d s dT sT ho elem hu hsz dp sp dLen dCap sLen sCap hd hs (by simpa using hn.symm) ?_
    rw [splice_nil] at K
    exact K w h (Only.refl _ _)
  · obtain ⟨rfl, ad, rfl, hsrc⟩ := hpos (by omega)
    obtain ⟨g', off', e, -, -, hin, hfr, h1, h2⟩ := sl_splice (ys := ys) h.sl h.un p hp (by omega) hy
    injection e with e
    injection e with e1 e2
    subst e1; subst e2
    have := wpList_copy_to (P := P) (w := w) (ops := ops) (rest := rest) (o := o) (a := a) (Q := Q) hgd d s dT sT ho elem hu hsz g (off + p) dLen dCap ad sLen sCap hd hs (ys.map (.int .u8)) (by rw [List.length_map]; exact hn) hsrc (fun j hj => hin j (by simpa using hj)) (fun j hj => hfr _) (ints_cells1 _)
    rw [List.length_map] at this
    exact this (K _ ⟨h1, h2⟩ ((Only.refl [g] w).cells (fun _ => by simp) _ _))
theorem page_new (w : World) : Buf (w.alloc (.cells (Array.replicate 4096 (.int .u8 0)) 5)) w.heap.size 0 4096 (zeros 4096) := by
  refine ⟨⟨by rw [zeros_len]; exact Nat.le_refl _, by decide, .inr ⟨w.heap.size, 0, [], (zeros 4096).map (.int .u8), rfl, rfl, by simp, cells_ints _ ?_, fun j u hu => ?_⟩⟩, ?_⟩
  · intro x hx
    obtain ⟨_, rfl⟩ := List.mem_replicate.1 hx
    rfl
  · rw [Nat.zero_add, World.cell?_alloc_at _ _ _ _ rfl]
    rw [List.getElem?_map, zeros_at] at hu
    split at hu
    · rename_i hj
      simp at hu
      subst hu
      simp [hj]
    · simp at hu
  · intro b hb j
    simp only [List.mem_singleton] at hb
    subst hb
    exact World.frozen?_alloc_at _ _ _ _ rfl
theorem mk_page (w : World) : (Instr.makeSlice 22 (.int .i64 4096) (.int .i64 4096)).run Tryd.prog w = .ok (.slice (some ⟨w.heap.size, 0, none⟩) 4096 4096) (w.alloc (.cells (Array.replicate 4096 (.int .u8 0)) 5)) := by
  obtain ⟨i0, hi, hz0, hz1, hz2⟩ := info_parts info5
  have h := run_make (P := Tryd.prog) w 22 5 i0 _ Tryd.underlying22 hi hz0 .i64 .i64 4096 4096 (by omega) (by omega) (by rw [hz2]; omega) (by omega)
  rw [hz1, made_one _ _ rfl] at h
  exact h
end Go.Proofs.YtghgjddiheebeaaDoor
