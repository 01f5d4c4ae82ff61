/- EncodeRecord, the specification's: kinds without a body; images. -/
import Derived.Test.YtghgjddiheebeaaDoorMG4
import Derived.Deep.RegionHeld3
namespace Go.Proofs.YtghgjddiheebeaaDoor
open Go.RowKit Go.Shelf
set_option linter.unusedSimpArgs false
set_option linter.unusedVariables false

theorem SP.start (v1 : World) (k : Int) (hk : (Lit.int .u8 k).wf = true) : SP v1.heap.size v1 [k] (.slice (some ⟨v1.heap.size, 0, none⟩) 1 1) (v1.alloc (.cells #[.int .u8 k] 5)) :=
  ⟨World.ownsRow_lit v1 #[.int .u8 k] 1 (Nat.le_refl _) (by decide) rfl, by simpa using hk, by simp, (Below.refl _ _).alloc (Nat.le_refl _) _⟩
theorem SP.putE {n0 : Nat} {w0 W : World} {xs : List Int} {v : Value} (h : SP n0 w0 xs v W) (n u : Nat) (z nz : Int) (hz : z = u) (hnz : nz = n) (h1 : 1 ≤ n) (h8 : n ≤ 8) (hv : u < 256 ^ n) (hv2 : u < 4611686018427387904) (hlim : xs.length ≤ 1073741824) :
    Calls Tryd.prog 90 #[v, .int .i64 z, .int .i64 nz] W fun e w' => ∃ A c ys, e = .returned (.slice A ys.length c) ∧ Hid (ys = xs ++ beL n u) ∧ Hid (ys.length = xs.length + n) ∧ Hid (SP n0 w0 ys (.slice A ys.length c) w') ∧ Hid (KeptT W w') := by
  refine (h.put n u z nz hz hnz h1 h8 hv hv2 hlim).mono ?_
  rintro e w' ⟨v', rfl, h2, h3⟩
  obtain ⟨A, c, rfl⟩ := h2.form
  exact ⟨A, c, xs ++ beL n u, rfl, Lib.hid rfl, Lib.hid (by rw [List.length_append, beL_length]), Lib.hid h2, Lib.hid h3⟩
theorem SP.slotE {n0 : Nat} {w0 W : World} {xs : List Int} {v : Value} (h : SP n0 w0 xs v W) (u : Bool) (A : Option Addr) (c : Nat) (bs : List Int) (G : List Nat) (hs : (Rep.int .u8).sl w0 A c bs G) (hG : ∀ g ∈ G, g < n0) (hb : bs.length ≤ 1000) (hlim : xs.length ≤ 536870912) :
    Calls Tryd.prog 91 #[v, .agg #[.bool u, .slice A bs.length c]] W fun e w' => ∃ A c ys, e = .returned (.slice A ys.length c) ∧ Hid (ys = xs ++ slotB u bs) ∧ Hid (ys.length ≤ xs.length + 1003) ∧ Hid (SP n0 w0 ys (.slice A ys.length c) w') ∧ Hid (KeptT W w') := by
  refine (h.slot u A c bs G hs hG hb hlim).mono ?_
  rintro e w' ⟨v', rfl, h2, h3⟩
  obtain ⟨A, c, rfl⟩ := h2.form
  exact ⟨A, c, xs ++ slotB u bs, rfl, Lib.hid rfl, Lib.hid (by rw [List.length_append, slotB_len]; split <;> omega), Lib.hid h2, Lib.hid h3⟩
theorem SP.stepE {n0 : Nat} {w0 w : World} {xs : List Int} {v : Value} (h : SP n0 w0 xs v w) {ops : Array Oper} {o : Oper} {a : Act} {K : Act → World → Prop} {Q : Exit → Act → World → Prop} {E : Prop} (hgd : o.guard = none) (s x : Operand)
    (ho : o.op = .call { callee := .builtin .append, args := #[s, x], argTypes := #[22, 22] }) (hs : a.eval s = v) (A : Option Addr) (c n : Nat) (bs : List Int) (G : List Nat) (hn : n = bs.length) (hx : a.eval x = .slice A n c) (hsl : (Rep.int .u8).sl w A c bs G) (hlim : xs.length + bs.length ≤ 1073741824)
    (hk : ∀ A' c' ys w', Hid (ys = xs ++ bs) → Hid (ys.length = xs.length + bs.length) → Hid (SP n0 w0 ys (.slice A' ys.length c') w') → Hid (KeptT w w') → K (a.put o.dst (.slice A' ys.length c')) w') : if Region.wanted o (yielded ops a.tmps) = true then Oper.wp Tryd.prog o a w K Q else E := by
  refine h.step hgd s x ho hs A c n bs G hn hx hsl hlim ?_
  intro v' w' h2 h3
  obtain ⟨A', c', rfl⟩ := h2.form
  exact hk A' c' (xs ++ bs) w' (Lib.hid rfl) (Lib.hid (by rw [List.length_append])) (Lib.hid h2) (Lib.hid h3)
theorem SP.done {n0 : Nat} {w0 W : World} {xs : List Int} {v : Value} (h : SP n0 w0 xs v W) (hn : n0 = w0.heap.size) : NewPost (Rep.int .u8).slice xs w0 (.returned v) W := by
  subst hn
  exact NewPost.ofOwn (clone_done h.wf h.own h.le) (Nat.le_refl _) (Only.of_below h.below)
theorem NewPost.behind {α : Type} {r : Rep α} {x : α} {w w1 w2 : World} {e : Ending} (h : NewPost r x w1 e w2) (hE : Ext w w1) : NewPost r x w e w2 := by
  obtain ⟨v, F, rfl, hV, hN⟩ := h
  exact ⟨v, F, rfl, hV, hE.ext hN.ext, fun g hg => Nat.le_trans hE.size (hN.new g hg), hN.nodup, hN.unfr⟩

set_option maxRecDepth 100000 in
set_option maxHeartbeats 8000000 in
theorem specEnc_plain (w : World) (k t pv pg sl : Int) (u1 : Bool) (A1 : Option Addr) (c1 : Nat) (d1 : List Int) (F1 : List Nat) (u2 : Bool) (A2 : Option Addr) (c2 : Nat) (d2 : List Int) (F2 : List Nat) (un nt : Int) (A3 : Option Addr) (c3 : Nat) (ts : List DTxnEntry) (F3 : List Nat) (A4 : Option Addr) (c4 : Nat) (ds : List DDirtyEntry) (F4 : List Nat) (A5 : Option Addr) (c5 : Nat) (im : List Int) (F5 : List Nat) (s1 : (Rep.int .u8).sl w A1 c1 d1 F1) (s2 : (Rep.int .u8).sl w A2 c2 d2 F2) (s3 : Rep.TxnEntry.sl w A3 c3 ts F3) (s4 : Rep.DirtyEntry.sl w A4 c4 ds F4) (s5 : (Rep.int .u8).sl w A5 c5 im F5) (hk : 3 ≤ k ∧ k ≤ 6)
    (ok : RecOk ⟨k, t, pv, pg, sl, ⟨u1, d1⟩, ⟨u2, d2⟩, un, nt, ts, ds, im⟩) (HC : Hid (∀ W, Ext w W → Calls Tryd.prog 27 #[.agg #[.int .i64 k, .int .i64 t, .int .i64 pv, .int .i64 pg, .int .i64 sl, .bool u1, .slice A1 d1.length c1, .bool u2, .slice A2 d2.length c2, .int .i64 un, .int .i64 nt, .slice A3 ts.length c3, .slice A4 ds.length c4, .slice A5 im.length c5]] W fun e w' => e = .returned (.int .i64 0) ∧ Ext W w')) :
    Calls Tryd.prog 37 #[.agg #[.int .i64 k, .int .i64 t, .int .i64 pv, .int .i64 pg, .int .i64 sl, .bool u1, .slice A1 d1.length c1, .bool u2, .slice A2 d2.length c2, .int .i64 un, .int .i64 nt, .slice A3 ts.length c3, .slice A4 ds.length c4, .slice A5 im.length c5]] w (NewPost (Rep.int .u8).slice (encR ⟨k, t, pv, pg, sl, ⟨u1, d1⟩, ⟨u2, d2⟩, un, nt, ts, ds, im⟩) w) := by
  have hu := Tryd.underlying49
  obtain ⟨ok0, ok1, ok2, ok3, ok4, ok5, ok6, ok7, ok8, ok9⟩ := ok
  dsimp only at ok0 ok1 ok2 ok3 ok4 ok5 ok6 ok7 ok8 ok9
  have k1 : ¬ k = 1 := by omega
  have k2 : ¬ k = 2 := by omega
  have k7 : ¬ k = 7 := by omega
  have k8 : ¬ k = 8 := by omega
  have encE := Lib.hid (show [k] ++ beL 4 t.toNat ++ beL 8 pv.toNat = encR ⟨k, t, pv, pg, sl, ⟨u1, d1⟩, ⟨u2, d2⟩, un, nt, ts, ds, im⟩ by simp [encR, encBody, List.append_assoc, k1, k2, k7, k8, beL]; omega)
  have HE0 := Lib.hid (alloc_ext w (.cells #[.int .i64 k, .int .i64 t, .int .i64 pv, .int .i64 pg, .int .i64 sl, .bool u1, .slice A1 d1.length c1, .bool u2, .slice A2 d2.length c2, .int .i64 un, .int .i64 nt, .slice A3 ts.length c3, .slice A4 ds.length c4, .slice A5 im.length c5] 49))
  have HB0 := Lib.hid (heap_alloc_new w (.cells #[.int .i64 k, .int .i64 t, .int .i64 pv, .int .i64 pg, .int .i64 sl, .bool u1, .slice A1 d1.length c1, .bool u2, .slice A2 d2.length c2, .int .i64 un, .int .i64 nt, .slice A3 ts.length c3, .slice A4 ds.length c4, .slice A5 im.length c5] 49))
  have S1 := Lib.hid s1; have S2 := Lib.hid s2; have S3 := Lib.hid s3; have S4 := Lib.hid s4; have S5 := Lib.hid s5
  clear s1 s2 s3 s4 s5
  have hw8 : IntKind.u8.wrap k = k := by simp [IntKind.wrap, IntKind.min, IntKind.max, IntKind.signed, IntKind.bits]; omega
  go_enter Tryd.func37, Tryd.ntmps37
  go_wp2_with (go_at_call 27; refine (HC.out _ HE0.out).mono ?_; rintro e v1 ⟨rfl, hE⟩; have hb := hE.heap HB0.out (by simp); have n0 := fun o => cell_of_row _ _ o _ _ _ hb; have brn := fun o => cell_of_row _ _ o _ _ _ hb; have HBX := Lib.hid hb; have hlt := (Array.getElem?_eq_some_iff.1 hb).1; have HE1 := Lib.hid (HE0.out.ext hE); clear hE hb; refine Hid.out ?_)
  refine Lib.hid ?_
  go_wp2_with fail
  have HSs := Lib.hid ((SP.start v1 k (by simp [Lit.wf, IntKind.min, IntKind.max, IntKind.signed, IntKind.bits]; omega)).ext (Only.refl [] _).drew)
  have brs := fun o => cell_of_row _ _ o _ _ _ ((alloc_ext v1 (.cells #[.int .u8 k] 5)).heap HBX.out (by simp))
  have cbn : v1.drew.cell? ⟨w.heap.size, 0, none⟩ = some (.int .i64 k) ∧ v1.drew.cell? ⟨w.heap.size, 1, none⟩ = some (.int .i64 t) ∧ v1.drew.cell? ⟨w.heap.size, 2, none⟩ = some (.int .i64 pv) := ⟨brn 0, brn 1, brn 2⟩
  have cbs : (v1.alloc (.cells #[.int .u8 k] 5)).drew.cell? ⟨w.heap.size, 0, none⟩ = some (.int .i64 k) ∧ (v1.alloc (.cells #[.int .u8 k] 5)).drew.cell? ⟨w.heap.size, 1, none⟩ = some (.int .i64 t) ∧ (v1.alloc (.cells #[.int .u8 k] 5)).drew.cell? ⟨w.heap.size, 2, none⟩ = some (.int .i64 pv) := ⟨brs 0, brs 1, brs 2⟩
  go_region_held3 (fun w' => w'.cell? ⟨w.heap.size, 0, none⟩ = some (.int .i64 k) ∧ w'.cell? ⟨w.heap.size, 1, none⟩ = some (.int .i64 t) ∧ w'.cell? ⟨w.heap.size, 2, none⟩ = some (.int .i64 pv)) (first | with_reducible exact cb1 | with_reducible exact cb0 | with_reducible exact cbs | with_reducible exact cbn) (first
    | (go_at_call 90; refine (HS0.out.putE 8 pv.toNat _ _ (by omega) rfl (by decide) (by decide) (by omega) (by omega) (by have := Hl0.out; simp only [List.length_cons, List.length_nil] at this; omega)).mono ?_; rintro e ww1 ⟨Au1, cu1, L1, rfl, HL1, Hl1, HS1, HK1⟩; have br1 := fun o => cell_of_row _ _ o _ _ _ (HS1.out.row HBX.out hlt); have cb1 : ww1.cell? ⟨w.heap.size, 0, none⟩ = some (.int .i64 k) ∧ ww1.cell? ⟨w.heap.size, 1, none⟩ = some (.int .i64 t) ∧ ww1.cell? ⟨w.heap.size, 2, none⟩ = some (.int .i64 pv) := ⟨br1 0, br1 1, br1 2⟩; clear br1)
    | (go_at_call 90; refine (HSs.out.putE 4 t.toNat _ _ (by omega) rfl (by decide) (by decide) (by omega) (by omega) (by show 1 ≤ 1073741824; omega)).mono ?_; rintro e ww0 ⟨Au0, cu0, L0, rfl, HL0, Hl0, HS0, HK0⟩; have br0 := fun o => cell_of_row _ _ o _ _ _ (HS0.out.row HBX.out hlt); have cb0 : ww0.cell? ⟨w.heap.size, 0, none⟩ = some (.int .i64 k) ∧ ww0.cell? ⟨w.heap.size, 1, none⟩ = some (.int .i64 t) ∧ ww0.cell? ⟨w.heap.size, 2, none⟩ = some (.int .i64 pv) := ⟨br0 0, br0 1, br0 2⟩; clear br0))
  have hl0 := Hl0.out; have hl1 := Hl1.out; simp only [List.length_cons, List.length_nil] at hl0; clear Hl0 Hl1; have Hl0 := Lib.hid (show L0.length = 5 by omega); have Hl1 := Lib.hid (show L1.length = 13 by omega); clear hl0 hl1
  go_wp2
  go_ret
  have hfin := HS1.out.done rfl
  rw [show encR ⟨k, t, pv, pg, sl, ⟨u1, d1⟩, ⟨u2, d2⟩, un, nt, ts, ds, im⟩ = L1 by rw [HL1.out, HL0.out]; exact encE.out.symm]
  exact hfin.behind HE1.out
set_option maxRecDepth 100000 in
set_option maxHeartbeats 8000000 in
theorem specEnc_8 (w : World) (t pv pg sl : Int) (u1 : Bool) (A1 : Option Addr) (c1 : Nat) (d1 : List Int) (F1 : List Nat) (u2 : Bool) (A2 : Option Addr) (c2 : Nat) (d2 : List Int) (F2 : List Nat) (un nt : Int) (A3 : Option Addr) (c3 : Nat) (ts : List DTxnEntry) (F3 : List Nat) (A4 : Option Addr) (c4 : Nat) (ds : List DDirtyEntry) (F4 : List Nat) (A5 : Option Addr) (c5 : Nat) (im : List Int) (F5 : List Nat) (s1 : (Rep.int .u8).sl w A1 c1 d1 F1) (s2 : (Rep.int .u8).sl w A2 c2 d2 F2) (s3 : Rep.TxnEntry.sl w A3 c3 ts F3) (s4 : Rep.DirtyEntry.sl w A4 c4 ds F4) (s5 : (Rep.int .u8).sl w A5 c5 im F5) 
    (ok : RecOk ⟨8, t, pv, pg, sl, ⟨u1, d1⟩, ⟨u2, d2⟩, un, nt, ts, ds, im⟩) (HC : Hid (∀ W, Ext w W → Calls Tryd.prog 27 #[.agg #[.int .i64 8, .int .i64 t, .int .i64 pv, .int .i64 pg, .int .i64 sl, .bool u1, .slice A1 d1.length c1, .bool u2, .slice A2 d2.length c2, .int .i64 un, .int .i64 nt, .slice A3 ts.length c3, .slice A4 ds.length c4, .slice A5 im.length c5]] W fun e w' => e = .returned (.int .i64 0) ∧ Ext W w')) :
    Calls Tryd.prog 37 #[.agg #[.int .i64 8, .int .i64 t, .int .i64 pv, .int .i64 pg, .int .i64 sl, .bool u1, .slice A1 d1.length c1, .bool u2, .slice A2 d2.length c2, .int .i64 un, .int .i64 nt, .slice A3 ts.length c3, .slice A4 ds.length c4, .slice A5 im.length c5]] w (NewPost (Rep.int .u8).slice (encR ⟨8, t, pv, pg, sl, ⟨u1, d1⟩, ⟨u2, d2⟩, un, nt, ts, ds, im⟩) w) := by
  have hu := Tryd.underlying49
  obtain ⟨ok0, ok1, ok2, ok3, ok4, ok5, ok6, ok7, ok8, ok9⟩ := ok
  dsimp only at ok0 ok1 ok2 ok3 ok4 ok5 ok6 ok7 ok8 ok9
  have HIL := Lib.hid (fault_zero (ok9 rfl)).1
  have HPF := Lib.hid (ok9 rfl)
  clear ok9
  have encE := Lib.hid (show [8] ++ beL 4 t.toNat ++ beL 8 pv.toNat ++ beL 2 pg.toNat ++ im = encR ⟨8, t, pv, pg, sl, ⟨u1, d1⟩, ⟨u2, d2⟩, un, nt, ts, ds, im⟩ by simp [encR, encBody, List.append_assoc, beL])
  have HE0 := Lib.hid (alloc_ext w (.cells #[.int .i64 8, .int .i64 t, .int .i64 pv, .int .i64 pg, .int .i64 sl, .bool u1, .slice A1 d1.length c1, .bool u2, .slice A2 d2.length c2, .int .i64 un, .int .i64 nt, .slice A3 ts.length c3, .slice A4 ds.length c4, .slice A5 im.length c5] 49))
  have HB0 := Lib.hid (heap_alloc_new w (.cells #[.int .i64 8, .int .i64 t, .int .i64 pv, .int .i64 pg, .int .i64 sl, .bool u1, .slice A1 d1.length c1, .bool u2, .slice A2 d2.length c2, .int .i64 un, .int .i64 nt, .slice A3 ts.length c3, .slice A4 ds.length c4, .slice A5 im.length c5] 49))
  have S1 := Lib.hid s1; have S2 := Lib.hid s2; have S3 := Lib.hid s3; have S4 := Lib.hid s4; have S5 := Lib.hid s5
  clear s1 s2 s3 s4 s5
  have hw8 : IntKind.u8.wrap 8 = 8 := by simp [IntKind.wrap, IntKind.min, IntKind.max, IntKind.signed, IntKind.bits]
  go_enter Tryd.func37, Tryd.ntmps37
  go_wp2_with (go_at_call 27; refine (HC.out _ HE0.out).mono ?_; rintro e v1 ⟨rfl, hE⟩; have hb := hE.heap HB0.out (by simp); have n0 := fun o => cell_of_row _ _ o _ _ _ hb; have brn := fun o => cell_of_row _ _ o _ _ _ hb; have HBX := Lib.hid hb; have hlt := (Array.getElem?_eq_some_iff.1 hb).1; have HE1 := Lib.hid (HE0.out.ext hE); clear hE hb; refine Hid.out ?_)
  refine Lib.hid ?_
  go_wp2_with fail
  have HSs := Lib.hid ((SP.start v1 8 (by simp [Lit.wf, IntKind.min, IntKind.max, IntKind.signed, IntKind.bits])).ext (Only.refl [] _).drew)
  have brs := fun o => cell_of_row _ _ o _ _ _ ((alloc_ext v1 (.cells #[.int .u8 8] 5)).heap HBX.out (by simp))
  have cbn : v1.drew.cell? ⟨w.heap.size, 0, none⟩ = some (.int .i64 8) ∧ v1.drew.cell? ⟨w.heap.size, 1, none⟩ = some (.int .i64 t) ∧ v1.drew.cell? ⟨w.heap.size, 2, none⟩ = some (.int .i64 pv) := ⟨brn 0, brn 1, brn 2⟩
  have cbs : (v1.alloc (.cells #[.int .u8 8] 5)).drew.cell? ⟨w.heap.size, 0, none⟩ = some (.int .i64 8) ∧ (v1.alloc (.cells #[.int .u8 8] 5)).drew.cell? ⟨w.heap.size, 1, none⟩ = some (.int .i64 t) ∧ (v1.alloc (.cells #[.int .u8 8] 5)).drew.cell? ⟨w.heap.size, 2, none⟩ = some (.int .i64 pv) := ⟨brs 0, brs 1, brs 2⟩
  go_region_held3 (fun w' => w'.cell? ⟨w.heap.size, 0, none⟩ = some (.int .i64 8) ∧ w'.cell? ⟨w.heap.size, 1, none⟩ = some (.int .i64 t) ∧ w'.cell? ⟨w.heap.size, 2, none⟩ = some (.int .i64 pv)) (first | with_reducible exact cb1 | with_reducible exact cb0 | with_reducible exact cbs | with_reducible exact cbn) (first
    | (go_at_call 90; refine (HS0.out.putE 8 pv.toNat _ _ (by omega) rfl (by decide) (by decide) (by omega) (by omega) (by have := Hl0.out; simp only [List.length_cons, List.length_nil] at this; omega)).mono ?_; rintro e ww1 ⟨Au1, cu1, L1, rfl, HL1, Hl1, HS1, HK1⟩; have br1 := fun o => cell_of_row _ _ o _ _ _ (HS1.out.row HBX.out hlt); have cb1 : ww1.cell? ⟨w.heap.size, 0, none⟩ = some (.int .i64 8) ∧ ww1.cell? ⟨w.heap.size, 1, none⟩ = some (.int .i64 t) ∧ ww1.cell? ⟨w.heap.size, 2, none⟩ = some (.int .i64 pv) := ⟨br1 0, br1 1, br1 2⟩; clear br1)
    | (go_at_call 90; refine (HSs.out.putE 4 t.toNat _ _ (by omega) rfl (by decide) (by decide) (by omega) (by omega) (by show 1 ≤ 1073741824; omega)).mono ?_; rintro e ww0 ⟨Au0, cu0, L0, rfl, HL0, Hl0, HS0, HK0⟩; have br0 := fun o => cell_of_row _ _ o _ _ _ (HS0.out.row HBX.out hlt); have cb0 : ww0.cell? ⟨w.heap.size, 0, none⟩ = some (.int .i64 8) ∧ ww0.cell? ⟨w.heap.size, 1, none⟩ = some (.int .i64 t) ∧ ww0.cell? ⟨w.heap.size, 2, none⟩ = some (.int .i64 pv) := ⟨br0 0, br0 1, br0 2⟩; clear br0))
  have hl0 := Hl0.out; have hl1 := Hl1.out; simp only [List.length_cons, List.length_nil] at hl0; clear Hl0 Hl1; have Hl0 := Lib.hid (show L0.length = 5 by omega); have Hl1 := Lib.hid (show L1.length = 13 by omega); clear hl0 hl1
  go_wp2_with fail
  have HS1d := Lib.hid (HS1.out.ext (Only.refl [] _).drew); have HK1d := Lib.hid (KeptT.ext (Only.refl [] ww1).drew)
  have br1d := fun o => cell_of_row _ _ o _ _ _ (HS1d.out.row HBX.out hlt)
  have cb1d : ww1.drew.cell? ⟨w.heap.size, 3, none⟩ = some (.int .i64 pg) ∧ ww1.drew.cell? ⟨w.heap.size, 13, none⟩ = some (.slice A5 im.length c5) := ⟨br1d 3, br1d 13⟩; clear br1d
  go_region_held3 (fun w' => w'.cell? ⟨w.heap.size, 3, none⟩ = some (.int .i64 pg) ∧ w'.cell? ⟨w.heap.size, 13, none⟩ = some (.slice A5 im.length c5)) (first | with_reducible exact cb3 | with_reducible exact cb2 | with_reducible exact cb1d) (first
    | (refine HS2.out.stepE rfl _ _ rfl rfl A5 c5 im.length im F5 rfl rfl (Rep.sl_keep (Rep.sl_ext S5.out HE1.out) (fun g hg => HS2.out.below.block g (Nat.lt_of_lt_of_le (Rep.sl_lt S5.out g hg) HE1.out.size))) (by have := Hl1.out; have := Hl2.out; have := HIL.out; omega) ?_; intro Au3 cu3 L3 ww3 HL3 Hl3 HS3 HK3; have br3 := fun o => cell_of_row _ _ o _ _ _ (HS3.out.row HBX.out hlt); have cb3 : ww3.cell? ⟨w.heap.size, 3, none⟩ = some (.int .i64 pg) ∧ ww3.cell? ⟨w.heap.size, 13, none⟩ = some (.slice A5 im.length c5) := ⟨br3 3, br3 13⟩; clear br3)
    | (go_at_call 90; refine (HS1d.out.putE 2 pg.toNat _ _ (by omega) rfl (by decide) (by decide) (by omega) (by omega) (by have := Hl1.out; omega)).mono ?_; rintro e ww2 ⟨Au2, cu2, L2, rfl, HL2, Hl2, HS2, HK2⟩; have br2 := fun o => cell_of_row _ _ o _ _ _ (HS2.out.row HBX.out hlt); have cb2 : ww2.cell? ⟨w.heap.size, 3, none⟩ = some (.int .i64 pg) ∧ ww2.cell? ⟨w.heap.size, 13, none⟩ = some (.slice A5 im.length c5) := ⟨br2 3, br2 13⟩; clear br2))
  go_wp2
  go_ret
  have hfin := HS3.out.done rfl
  rw [show encR ⟨8, t, pv, pg, sl, ⟨u1, d1⟩, ⟨u2, d2⟩, un, nt, ts, ds, im⟩ = L3 by rw [HL3.out, HL2.out, HL1.out, HL0.out]; exact encE.out.symm]
  exact hfin.behind HE1.out
end Go.Proofs.YtghgjddiheebeaaDoor
/- EncodeRecord, the specification's: changes. -/
namespace Go.Proofs.YtghgjddiheebeaaDoor
open Go.RowKit Go.Shelf
set_option linter.unusedSimpArgs false
set_option linter.unusedVariables false

set_option maxRecDepth 100000 in
set_option maxHeartbeats 8000000 in
theorem specEnc_1 (w : World) (t pv pg sl : Int) (u1 : Bool) (A1 : Option Addr) (c1 : Nat) (d1 : List Int) (F1 : List Nat) (u2 : Bool) (A2 : Option Addr) (c2 : Nat) (d2 : List Int) (F2 : List Nat) (un nt : Int) (A3 : Option Addr) (c3 : Nat) (ts : List DTxnEntry) (F3 : List Nat) (A4 : Option Addr) (c4 : Nat) (ds : List DDirtyEntry) (F4 : List Nat) (A5 : Option Addr) (c5 : Nat) (im : List Int) (F5 : List Nat) (s1 : (Rep.int .u8).sl w A1 c1 d1 F1) (s2 : (Rep.int .u8).sl w A2 c2 d2 F2) (s3 : Rep.TxnEntry.sl w A3 c3 ts F3) (s4 : Rep.DirtyEntry.sl w A4 c4 ds F4) (s5 : (Rep.int .u8).sl w A5 c5 im F5) 
    (ok : RecOk ⟨1, t, pv, pg, sl, ⟨u1, d1⟩, ⟨u2, d2⟩, un, nt, ts, ds, im⟩) (HC : Hid (∀ W, Ext w W → Calls Tryd.prog 27 #[.agg #[.int .i64 1, .int .i64 t, .int .i64 pv, .int .i64 pg, .int .i64 sl, .bool u1, .slice A1 d1.length c1, .bool u2, .slice A2 d2.length c2, .int .i64 un, .int .i64 nt, .slice A3 ts.length c3, .slice A4 ds.length c4, .slice A5 im.length c5]] W fun e w' => e = .returned (.int .i64 0) ∧ Ext W w')) :
    Calls Tryd.prog 37 #[.agg #[.int .i64 1, .int .i64 t, .int .i64 pv, .int .i64 pg, .int .i64 sl, .bool u1, .slice A1 d1.length c1, .bool u2, .slice A2 d2.length c2, .int .i64 un, .int .i64 nt, .slice A3 ts.length c3, .slice A4 ds.length c4, .slice A5 im.length c5]] w (NewPost (Rep.int .u8).slice (encR ⟨1, t, pv, pg, sl, ⟨u1, d1⟩, ⟨u2, d2⟩, un, nt, ts, ds, im⟩) w) := by
  have hu := Tryd.underlying49
  obtain ⟨ok0, ok1, ok2, ok3, ok4, ok5, ok6, ok7, ok8, ok9⟩ := ok
  dsimp only at ok0 ok1 ok2 ok3 ok4 ok5 ok6 ok7 ok8 ok9
  have hd1 := (ok5 (by decide)).1
  have hd2 := (ok6 (by decide)).1
  clear ok5 ok6 ok7 ok8 ok9
  have encE := Lib.hid (show [1] ++ beL 4 t.toNat ++ beL 8 pv.toNat ++ beL 2 pg.toNat ++ beL 2 sl.toNat ++ slotB u1 d1 ++ slotB u2 d2 = encR ⟨1, t, pv, pg, sl, ⟨u1, d1⟩, ⟨u2, d2⟩, un, nt, ts, ds, im⟩ by simp [encR, encBody, List.append_assoc, beL])
  have HE0 := Lib.hid (alloc_ext w (.cells #[.int .i64 1, .int .i64 t, .int .i64 pv, .int .i64 pg, .int .i64 sl, .bool u1, .slice A1 d1.length c1, .bool u2, .slice A2 d2.length c2, .int .i64 un, .int .i64 nt, .slice A3 ts.length c3, .slice A4 ds.length c4, .slice A5 im.length c5] 49))
  have HB0 := Lib.hid (heap_alloc_new w (.cells #[.int .i64 1, .int .i64 t, .int .i64 pv, .int .i64 pg, .int .i64 sl, .bool u1, .slice A1 d1.length c1, .bool u2, .slice A2 d2.length c2, .int .i64 un, .int .i64 nt, .slice A3 ts.length c3, .slice A4 ds.length c4, .slice A5 im.length c5] 49))
  have S1 := Lib.hid s1; have S2 := Lib.hid s2; have S3 := Lib.hid s3; have S4 := Lib.hid s4; have S5 := Lib.hid s5
  clear s1 s2 s3 s4 s5
  have hw8 : IntKind.u8.wrap 1 = 1 := by simp [IntKind.wrap, IntKind.min, IntKind.max, IntKind.signed, IntKind.bits]
  go_enter Tryd.func37, Tryd.ntmps37
  go_wp2_with (go_at_call 27; refine (HC.out _ HE0.out).mono ?_; rintro e v1 ⟨rfl, hE⟩; have hb := hE.heap HB0.out (by simp); have n0 := fun o => cell_of_row _ _ o _ _ _ hb; have brn := fun o => cell_of_row _ _ o _ _ _ hb; have HBX := Lib.hid hb; have hlt := (Array.getElem?_eq_some_iff.1 hb).1; have HE1 := Lib.hid (HE0.out.ext hE); clear hE hb; refine Hid.out ?_)
  refine Lib.hid ?_
  go_wp2_with fail
  have HSs := Lib.hid ((SP.start v1 1 (by simp [Lit.wf, IntKind.min, IntKind.max, IntKind.signed, IntKind.bits])).ext (Only.refl [] _).drew)
  have brs := fun o => cell_of_row _ _ o _ _ _ ((alloc_ext v1 (.cells #[.int .u8 1] 5)).heap HBX.out (by simp))
  have cbn : v1.drew.cell? ⟨w.heap.size, 0, none⟩ = some (.int .i64 1) ∧ v1.drew.cell? ⟨w.heap.size, 1, none⟩ = some (.int .i64 t) ∧ v1.drew.cell? ⟨w.heap.size, 2, none⟩ = some (.int .i64 pv) := ⟨brn 0, brn 1, brn 2⟩
  have cbs : (v1.alloc (.cells #[.int .u8 1] 5)).drew.cell? ⟨w.heap.size, 0, none⟩ = some (.int .i64 1) ∧ (v1.alloc (.cells #[.int .u8 1] 5)).drew.cell? ⟨w.heap.size, 1, none⟩ = some (.int .i64 t) ∧ (v1.alloc (.cells #[.int .u8 1] 5)).drew.cell? ⟨w.heap.size, 2, none⟩ = some (.int .i64 pv) := ⟨brs 0, brs 1, brs 2⟩
  go_region_held3 (fun w' => w'.cell? ⟨w.heap.size, 0, none⟩ = some (.int .i64 1) ∧ w'.cell? ⟨w.heap.size, 1, none⟩ = some (.int .i64 t) ∧ w'.cell? ⟨w.heap.size, 2, none⟩ = some (.int .i64 pv)) (first | with_reducible exact cb1 | with_reducible exact cb0 | with_reducible exact cbs | with_reducible exact cbn) (first
    | (go_at_call 90; refine (HS0.out.putE 8 pv.toNat _ _ (by omega) rfl (by decide) (by decide) (by omega) (by omega) (by have := Hl0.out; simp only [List.length_cons, List.length_nil] at this; omega)).mono ?_; rintro e ww1 ⟨Au1, cu1, L1, rfl, HL1, Hl1, HS1, HK1⟩; have br1 := fun o => cell_of_row _ _ o _ _ _ (HS1.out.row HBX.out hlt); have cb1 : ww1.cell? ⟨w.heap.size, 0, none⟩ = some (.int .i64 1) ∧ ww1.cell? ⟨w.heap.size, 1, none⟩ = some (.int .i64 t) ∧ ww1.cell? ⟨w.heap.size, 2, none⟩ = some (.int .i64 pv) := ⟨br1 0, br1 1, br1 2⟩; clear br1)
    | (go_at_call 90; refine (HSs.out.putE 4 t.toNat _ _ (by omega) rfl (by decide) (by decide) (by omega) (by omega) (by show 1 ≤ 1073741824; omega)).mono ?_; rintro e ww0 ⟨Au0, cu0, L0, rfl, HL0, Hl0, HS0, HK0⟩; have br0 := fun o => cell_of_row _ _ o _ _ _ (HS0.out.row HBX.out hlt); have cb0 : ww0.cell? ⟨w.heap.size, 0, none⟩ = some (.int .i64 1) ∧ ww0.cell? ⟨w.heap.size, 1, none⟩ = some (.int .i64 t) ∧ ww0.cell? ⟨w.heap.size, 2, none⟩ = some (.int .i64 pv) := ⟨br0 0, br0 1, br0 2⟩; clear br0))
  have hl0 := Hl0.out; have hl1 := Hl1.out; simp only [List.length_cons, List.length_nil] at hl0; clear Hl0 Hl1; have Hl0 := Lib.hid (show L0.length = 5 by omega); have Hl1 := Lib.hid (show L1.length = 13 by omega); clear hl0 hl1
  go_wp2_with fail
  have HS1d := Lib.hid (HS1.out.ext (Only.refl [] _).drew); have HK1d := Lib.hid (KeptT.ext (Only.refl [] ww1).drew)
  have br1d := fun o => cell_of_row _ _ o _ _ _ (HS1d.out.row HBX.out hlt)
  have cb1d : ww1.drew.cell? ⟨w.heap.size, 3, none⟩ = some (.int .i64 pg) ∧ ww1.drew.cell? ⟨w.heap.size, 4, none⟩ = some (.int .i64 sl) := ⟨br1d 3, br1d 4⟩; clear br1d
  go_region_held3 (fun w' => w'.cell? ⟨w.heap.size, 3, none⟩ = some (.int .i64 pg) ∧ w'.cell? ⟨w.heap.size, 4, none⟩ = some (.int .i64 sl)) (first | with_reducible exact cb3 | with_reducible exact cb2 | with_reducible exact cb1d) (first
    | (go_at_call 90; refine (HS2.out.putE 2 sl.toNat _ _ (by omega) rfl (by decide) (by decide) (by omega) (by omega) (by have := Hl1.out; have := Hl2.out; omega)).mono ?_; rintro e ww3 ⟨Au3, cu3, L3, rfl, HL3, Hl3, HS3, HK3⟩; have br3 := fun o => cell_of_row _ _ o _ _ _ (HS3.out.row HBX.out hlt); have cb3 : ww3.cell? ⟨w.heap.size, 3, none⟩ = some (.int .i64 pg) ∧ ww3.cell? ⟨w.heap.size, 4, none⟩ = some (.int .i64 sl) := ⟨br3 3, br3 4⟩; clear br3)
    | (go_at_call 90; refine (HS1d.out.putE 2 pg.toNat _ _ (by omega) rfl (by decide) (by decide) (by omega) (by omega) (by have := Hl1.out; omega)).mono ?_; rintro e ww2 ⟨Au2, cu2, L2, rfl, HL2, Hl2, HS2, HK2⟩; have br2 := fun o => cell_of_row _ _ o _ _ _ (HS2.out.row HBX.out hlt); have cb2 : ww2.cell? ⟨w.heap.size, 3, none⟩ = some (.int .i64 pg) ∧ ww2.cell? ⟨w.heap.size, 4, none⟩ = some (.int .i64 sl) := ⟨br2 3, br2 4⟩; clear br2))
  go_wp2_with fail
  have HS3d := Lib.hid (HS3.out.ext (Only.refl [] _).drew); have HK3d := Lib.hid (KeptT.ext (Only.refl [] ww3).drew)
  have br3d := fun o => cell_of_row _ _ o _ _ _ (HS3d.out.row HBX.out hlt)
  have cb3d : ww3.drew.cell? ⟨w.heap.size, 5, none⟩ = some (.bool u1) ∧ ww3.drew.cell? ⟨w.heap.size, 6, none⟩ = some (.slice A1 d1.length c1) ∧ ww3.drew.cell? ⟨w.heap.size, 7, none⟩ = some (.bool u2) ∧ ww3.drew.cell? ⟨w.heap.size, 8, none⟩ = some (.slice A2 d2.length c2) := ⟨br3d 5, br3d 6, br3d 7, br3d 8⟩; clear br3d
  go_region_held3 (fun w' => w'.cell? ⟨w.heap.size, 5, none⟩ = some (.bool u1) ∧ w'.cell? ⟨w.heap.size, 6, none⟩ = some (.slice A1 d1.length c1) ∧ w'.cell? ⟨w.heap.size, 7, none⟩ = some (.bool u2) ∧ w'.cell? ⟨w.heap.size, 8, none⟩ = some (.slice A2 d2.length c2)) (first | with_reducible exact cb5 | with_reducible exact cb4 | with_reducible exact cb3d) (first
    | (go_at_call 91; refine (HS4.out.slotE u2 A2 c2 d2 F2 (Rep.sl_ext S2.out HE1.out) (fun g hg => Nat.lt_of_lt_of_le (Rep.sl_lt S2.out g hg) HE1.out.size) (by omega) (by have := Hl1.out; have := Hl2.out; have := Hl3.out; have := Hl4.out; omega)).mono ?_; rintro e ww5 ⟨Au5, cu5, L5, rfl, HL5, Hl5, HS5, HK5⟩; have br5 := fun o => cell_of_row _ _ o _ _ _ (HS5.out.row HBX.out hlt); have cb5 : ww5.cell? ⟨w.heap.size, 5, none⟩ = some (.bool u1) ∧ ww5.cell? ⟨w.heap.size, 6, none⟩ = some (.slice A1 d1.length c1) ∧ ww5.cell? ⟨w.heap.size, 7, none⟩ = some (.bool u2) ∧ ww5.cell? ⟨w.heap.size, 8, none⟩ = some (.slice A2 d2.length c2) := ⟨br5 5, br5 6, br5 7, br5 8⟩; clear br5)
    | (go_at_call 91; refine (HS3d.out.slotE u1 A1 c1 d1 F1 (Rep.sl_ext S1.out HE1.out) (fun g hg => Nat.lt_of_lt_of_le (Rep.sl_lt S1.out g hg) HE1.out.size) (by omega) (by have := Hl1.out; have := Hl2.out; have := Hl3.out; omega)).mono ?_; rintro e ww4 ⟨Au4, cu4, L4, rfl, HL4, Hl4, HS4, HK4⟩; have br4 := fun o => cell_of_row _ _ o _ _ _ (HS4.out.row HBX.out hlt); have cb4 : ww4.cell? ⟨w.heap.size, 5, none⟩ = some (.bool u1) ∧ ww4.cell? ⟨w.heap.size, 6, none⟩ = some (.slice A1 d1.length c1) ∧ ww4.cell? ⟨w.heap.size, 7, none⟩ = some (.bool u2) ∧ ww4.cell? ⟨w.heap.size, 8, none⟩ = some (.slice A2 d2.length c2) := ⟨br4 5, br4 6, br4 7, br4 8⟩; clear br4))
  go_wp2
  go_ret
  have hfin := HS5.out.done rfl
  rw [show encR ⟨1, t, pv, pg, sl, ⟨u1, d1⟩, ⟨u2, d2⟩, un, nt, ts, ds, im⟩ = L5 by rw [HL5.out, HL4.out, HL3.out, HL2.out, HL1.out, HL0.out]; exact encE.out.symm]
  exact hfin.behind HE1.out
set_option maxRecDepth 100000 in
set_option maxHeartbeats 8000000 in
theorem specEnc_2 (w : World) (t pv pg sl : Int) (u1 : Bool) (A1 : Option Addr) (c1 : Nat) (d1 : List Int) (F1 : List Nat) (u2 : Bool) (A2 : Option Addr) (c2 : Nat) (d2 : List Int) (F2 : List Nat) (un nt : Int) (A3 : Option Addr) (c3 : Nat) (ts : List DTxnEntry) (F3 : List Nat) (A4 : Option Addr) (c4 : Nat) (ds : List DDirtyEntry) (F4 : List Nat) (A5 : Option Addr) (c5 : Nat) (im : List Int) (F5 : List Nat) (s1 : (Rep.int .u8).sl w A1 c1 d1 F1) (s2 : (Rep.int .u8).sl w A2 c2 d2 F2) (s3 : Rep.TxnEntry.sl w A3 c3 ts F3) (s4 : Rep.DirtyEntry.sl w A4 c4 ds F4) (s5 : (Rep.int .u8).sl w A5 c5 im F5) 
    (ok : RecOk ⟨2, t, pv, pg, sl, ⟨u1, d1⟩, ⟨u2, d2⟩, un, nt, ts, ds, im⟩) (HC : Hid (∀ W, Ext w W → Calls Tryd.prog 27 #[.agg #[.int .i64 2, .int .i64 t, .int .i64 pv, .int .i64 pg, .int .i64 sl, .bool u1, .slice A1 d1.length c1, .bool u2, .slice A2 d2.length c2, .int .i64 un, .int .i64 nt, .slice A3 ts.length c3, .slice A4 ds.length c4, .slice A5 im.length c5]] W fun e w' => e = .returned (.int .i64 0) ∧ Ext W w')) :
    Calls Tryd.prog 37 #[.agg #[.int .i64 2, .int .i64 t, .int .i64 pv, .int .i64 pg, .int .i64 sl, .bool u1, .slice A1 d1.length c1, .bool u2, .slice A2 d2.length c2, .int .i64 un, .int .i64 nt, .slice A3 ts.length c3, .slice A4 ds.length c4, .slice A5 im.length c5]] w (NewPost (Rep.int .u8).slice (encR ⟨2, t, pv, pg, sl, ⟨u1, d1⟩, ⟨u2, d2⟩, un, nt, ts, ds, im⟩) w) := by
  have hu := Tryd.underlying49
  obtain ⟨ok0, ok1, ok2, ok3, ok4, ok5, ok6, ok7, ok8, ok9⟩ := ok
  dsimp only at ok0 ok1 ok2 ok3 ok4 ok5 ok6 ok7 ok8 ok9
  have hd2 := (ok6 (by decide)).1
  have hun := ok7 rfl
  clear ok5 ok6 ok7 ok8 ok9
  have encE := Lib.hid (show [2] ++ beL 4 t.toNat ++ beL 8 pv.toNat ++ beL 2 pg.toNat ++ beL 2 sl.toNat ++ slotB u2 d2 ++ beL 8 un.toNat = encR ⟨2, t, pv, pg, sl, ⟨u1, d1⟩, ⟨u2, d2⟩, un, nt, ts, ds, im⟩ by simp [encR, encBody, List.append_assoc, beL])
  have HE0 := Lib.hid (alloc_ext w (.cells #[.int .i64 2, .int .i64 t, .int .i64 pv, .int .i64 pg, .int .i64 sl, .bool u1, .slice A1 d1.length c1, .bool u2, .slice A2 d2.length c2, .int .i64 un, .int .i64 nt, .slice A3 ts.length c3, .slice A4 ds.length c4, .slice A5 im.length c5] 49))
  have HB0 := Lib.hid (heap_alloc_new w (.cells #[.int .i64 2, .int .i64 t, .int .i64 pv, .int .i64 pg, .int .i64 sl, .bool u1, .slice A1 d1.length c1, .bool u2, .slice A2 d2.length c2, .int .i64 un, .int .i64 nt, .slice A3 ts.length c3, .slice A4 ds.length c4, .slice A5 im.length c5] 49))
  have S1 := Lib.hid s1; have S2 := Lib.hid s2; have S3 := Lib.hid s3; have S4 := Lib.hid s4; have S5 := Lib.hid s5
  clear s1 s2 s3 s4 s5
  have hw8 : IntKind.u8.wrap 2 = 2 := by simp [IntKind.wrap, IntKind.min, IntKind.max, IntKind.signed, IntKind.bits]
  go_enter Tryd.func37, Tryd.ntmps37
  go_wp2_with (go_at_call 27; refine (HC.out _ HE0.out).mono ?_; rintro e v1 ⟨rfl, hE⟩; have hb := hE.heap HB0.out (by simp); have n0 := fun o => cell_of_row _ _ o _ _ _ hb; have brn := fun o => cell_of_row _ _ o _ _ _ hb; have HBX := Lib.hid hb; have hlt := (Array.getElem?_eq_some_iff.1 hb).1; have HE1 := Lib.hid (HE0.out.ext hE); clear hE hb; refine Hid.out ?_)
  refine Lib.hid ?_
  go_wp2_with fail
  have HSs := Lib.hid ((SP.start v1 2 (by simp [Lit.wf, IntKind.min, IntKind.max, IntKind.signed, IntKind.bits])).ext (Only.refl [] _).drew)
  have brs := fun o => cell_of_row _ _ o _ _ _ ((alloc_ext v1 (.cells #[.int .u8 2] 5)).heap HBX.out (by simp))
  have cbn : v1.drew.cell? ⟨w.heap.size, 0, none⟩ = some (.int .i64 2) ∧ v1.drew.cell? ⟨w.heap.size, 1, none⟩ = some (.int .i64 t) ∧ v1.drew.cell? ⟨w.heap.size, 2, none⟩ = some (.int .i64 pv) := ⟨brn 0, brn 1, brn 2⟩
  have cbs : (v1.alloc (.cells #[.int .u8 2] 5)).drew.cell? ⟨w.heap.size, 0, none⟩ = some (.int .i64 2) ∧ (v1.alloc (.cells #[.int .u8 2] 5)).drew.cell? ⟨w.heap.size, 1, none⟩ = some (.int .i64 t) ∧ (v1.alloc (.cells #[.int .u8 2] 5)).drew.cell? ⟨w.heap.size, 2, none⟩ = some (.int .i64 pv) := ⟨brs 0, brs 1, brs 2⟩
  go_region_held3 (fun w' => w'.cell? ⟨w.heap.size, 0, none⟩ = some (.int .i64 2) ∧ w'.cell? ⟨w.heap.size, 1, none⟩ = some (.int .i64 t) ∧ w'.cell? ⟨w.heap.size, 2, none⟩ = some (.int .i64 pv)) (first | with_reducible exact cb1 | with_reducible exact cb0 | with_reducible exact cbs | with_reducible exact cbn) (first
    | (go_at_call 90; refine (HS0.out.putE 8 pv.toNat _ _ (by omega) rfl (by decide) (by decide) (by omega) (by omega) (by have := Hl0.out; simp only [List.length_cons, List.length_nil] at this; omega)).mono ?_; rintro e ww1 ⟨Au1, cu1, L1, rfl, HL1, Hl1, HS1, HK1⟩; have br1 := fun o => cell_of_row _ _ o _ _ _ (HS1.out.row HBX.out hlt); have cb1 : ww1.cell? ⟨w.heap.size, 0, none⟩ = some (.int .i64 2) ∧ ww1.cell? ⟨w.heap.size, 1, none⟩ = some (.int .i64 t) ∧ ww1.cell? ⟨w.heap.size, 2, none⟩ = some (.int .i64 pv) := ⟨br1 0, br1 1, br1 2⟩; clear br1)
    | (go_at_call 90; refine (HSs.out.putE 4 t.toNat _ _ (by omega) rfl (by decide) (by decide) (by omega) (by omega) (by show 1 ≤ 1073741824; omega)).mono ?_; rintro e ww0 ⟨Au0, cu0, L0, rfl, HL0, Hl0, HS0, HK0⟩; have br0 := fun o => cell_of_row _ _ o _ _ _ (HS0.out.row HBX.out hlt); have cb0 : ww0.cell? ⟨w.heap.size, 0, none⟩ = some (.int .i64 2) ∧ ww0.cell? ⟨w.heap.size, 1, none⟩ = some (.int .i64 t) ∧ ww0.cell? ⟨w.heap.size, 2, none⟩ = some (.int .i64 pv) := ⟨br0 0, br0 1, br0 2⟩; clear br0))
  have hl0 := Hl0.out; have hl1 := Hl1.out; simp only [List.length_cons, List.length_nil] at hl0; clear Hl0 Hl1; have Hl0 := Lib.hid (show L0.length = 5 by omega); have Hl1 := Lib.hid (show L1.length = 13 by omega); clear hl0 hl1
  go_wp2_with fail
  have HS1d := Lib.hid (HS1.out.ext (Only.refl [] _).drew); have HK1d := Lib.hid (KeptT.ext (Only.refl [] ww1).drew)
  have br1d := fun o => cell_of_row _ _ o _ _ _ (HS1d.out.row HBX.out hlt)
  have cb1d : ww1.drew.cell? ⟨w.heap.size, 3, none⟩ = some (.int .i64 pg) ∧ ww1.drew.cell? ⟨w.heap.size, 4, none⟩ = some (.int .i64 sl) := ⟨br1d 3, br1d 4⟩; clear br1d
  go_region_held3 (fun w' => w'.cell? ⟨w.heap.size, 3, none⟩ = some (.int .i64 pg) ∧ w'.cell? ⟨w.heap.size, 4, none⟩ = some (.int .i64 sl)) (first | with_reducible exact cb3 | with_reducible exact cb2 | with_reducible exact cb1d) (first
    | (go_at_call 90; refine (HS2.out.putE 2 sl.toNat _ _ (by omega) rfl (by decide) (by decide) (by omega) (by omega) (by have := Hl1.out; have := Hl2.out; omega)).mono ?_; rintro e ww3 ⟨Au3, cu3, L3, rfl, HL3, Hl3, HS3, HK3⟩; have br3 := fun o => cell_of_row _ _ o _ _ _ (HS3.out.row HBX.out hlt); have cb3 : ww3.cell? ⟨w.heap.size, 3, none⟩ = some (.int .i64 pg) ∧ ww3.cell? ⟨w.heap.size, 4, none⟩ = some (.int .i64 sl) := ⟨br3 3, br3 4⟩; clear br3)
    | (go_at_call 90; refine (HS1d.out.putE 2 pg.toNat _ _ (by omega) rfl (by decide) (by decide) (by omega) (by omega) (by have := Hl1.out; omega)).mono ?_; rintro e ww2 ⟨Au2, cu2, L2, rfl, HL2, Hl2, HS2, HK2⟩; have br2 := fun o => cell_of_row _ _ o _ _ _ (HS2.out.row HBX.out hlt); have cb2 : ww2.cell? ⟨w.heap.size, 3, none⟩ = some (.int .i64 pg) ∧ ww2.cell? ⟨w.heap.size, 4, none⟩ = some (.int .i64 sl) := ⟨br2 3, br2 4⟩; clear br2))
  go_wp2_with fail
  have HS3d := Lib.hid (HS3.out.ext (Only.refl [] _).drew); have HK3d := Lib.hid (KeptT.ext (Only.refl [] ww3).drew)
  have br3d := fun o => cell_of_row _ _ o _ _ _ (HS3d.out.row HBX.out hlt)
  have cb3d : ww3.drew.cell? ⟨w.heap.size, 7, none⟩ = some (.bool u2) ∧ ww3.drew.cell? ⟨w.heap.size, 8, none⟩ = some (.slice A2 d2.length c2) ∧ ww3.drew.cell? ⟨w.heap.size, 9, none⟩ = some (.int .i64 un) := ⟨br3d 7, br3d 8, br3d 9⟩; clear br3d
  go_region_held3 (fun w' => w'.cell? ⟨w.heap.size, 7, none⟩ = some (.bool u2) ∧ w'.cell? ⟨w.heap.size, 8, none⟩ = some (.slice A2 d2.length c2) ∧ w'.cell? ⟨w.heap.size, 9, none⟩ = some (.int .i64 un)) (first | with_reducible exact cb5 | with_reducible exact cb4 | with_reducible exact cb3d) (first
    | (go_at_call 90; refine (HS4.out.putE 8 un.toNat _ _ (by omega) rfl (by decide) (by decide) (by omega) (by omega) (by have := Hl1.out; have := Hl2.out; have := Hl3.out; have := Hl4.out; omega)).mono ?_; rintro e ww5 ⟨Au5, cu5, L5, rfl, HL5, Hl5, HS5, HK5⟩; have br5 := fun o => cell_of_row _ _ o _ _ _ (HS5.out.row HBX.out hlt); have cb5 : ww5.cell? ⟨w.heap.size, 7, none⟩ = some (.bool u2) ∧ ww5.cell? ⟨w.heap.size, 8, none⟩ = some (.slice A2 d2.length c2) ∧ ww5.cell? ⟨w.heap.size, 9, none⟩ = some (.int .i64 un) := ⟨br5 7, br5 8, br5 9⟩; clear br5)
    | (go_at_call 91; refine (HS3d.out.slotE u2 A2 c2 d2 F2 (Rep.sl_ext S2.out HE1.out) (fun g hg => Nat.lt_of_lt_of_le (Rep.sl_lt S2.out g hg) HE1.out.size) (by omega) (by have := Hl1.out; have := Hl2.out; have := Hl3.out; omega)).mono ?_; rintro e ww4 ⟨Au4, cu4, L4, rfl, HL4, Hl4, HS4, HK4⟩; have br4 := fun o => cell_of_row _ _ o _ _ _ (HS4.out.row HBX.out hlt); have cb4 : ww4.cell? ⟨w.heap.size, 7, none⟩ = some (.bool u2) ∧ ww4.cell? ⟨w.heap.size, 8, none⟩ = some (.slice A2 d2.length c2) ∧ ww4.cell? ⟨w.heap.size, 9, none⟩ = some (.int .i64 un) := ⟨br4 7, br4 8, br4 9⟩; clear br4))
  go_wp2
  go_ret
  have hfin := HS5.out.done rfl
  rw [show encR ⟨2, t, pv, pg, sl, ⟨u1, d1⟩, ⟨u2, d2⟩, un, nt, ts, ds, im⟩ = L5 by rw [HL5.out, HL4.out, HL3.out, HL2.out, HL1.out, HL0.out]; exact encE.out.symm]
  exact hfin.behind HE1.out
end Go.Proofs.YtghgjddiheebeaaDoor
/- EncodeRecord, the specification's: the tables. -/
namespace Go.Proofs.YtghgjddiheebeaaDoor
open Go.RowKit Go.Shelf
set_option linter.unusedSimpArgs false
set_option linter.unusedVariables false

set_option maxRecDepth 100000 in
set_option maxHeartbeats 8000000 in
theorem specEnc_7 (w : World) (t pv pg sl : Int) (u1 : Bool) (A1 : Option Addr) (c1 : Nat) (d1 : List Int) (F1 : List Nat) (u2 : Bool) (A2 : Option Addr) (c2 : Nat) (d2 : List Int) (F2 : List Nat) (un nt : Int) (A3 : Option Addr) (c3 : Nat) (ts : List DTxnEntry) (F3 : List Nat) (A4 : Option Addr) (c4 : Nat) (ds : List DDirtyEntry) (F4 : List Nat) (A5 : Option Addr) (c5 : Nat) (im : List Int) (F5 : List Nat) (s1 : (Rep.int .u8).sl w A1 c1 d1 F1) (s2 : (Rep.int .u8).sl w A2 c2 d2 F2) (s3 : Rep.TxnEntry.sl w A3 c3 ts F3) (s4 : Rep.DirtyEntry.sl w A4 c4 ds F4) (s5 : (Rep.int .u8).sl w A5 c5 im F5) 
    (ok : RecOk ⟨7, t, pv, pg, sl, ⟨u1, d1⟩, ⟨u2, d2⟩, un, nt, ts, ds, im⟩) (HC : Hid (∀ W, Ext w W → Calls Tryd.prog 27 #[.agg #[.int .i64 7, .int .i64 t, .int .i64 pv, .int .i64 pg, .int .i64 sl, .bool u1, .slice A1 d1.length c1, .bool u2, .slice A2 d2.length c2, .int .i64 un, .int .i64 nt, .slice A3 ts.length c3, .slice A4 ds.length c4, .slice A5 im.length c5]] W fun e w' => e = .returned (.int .i64 0) ∧ Ext W w')) :
    Calls Tryd.prog 37 #[.agg #[.int .i64 7, .int .i64 t, .int .i64 pv, .int .i64 pg, .int .i64 sl, .bool u1, .slice A1 d1.length c1, .bool u2, .slice A2 d2.length c2, .int .i64 un, .int .i64 nt, .slice A3 ts.length c3, .slice A4 ds.length c4, .slice A5 im.length c5]] w (NewPost (Rep.int .u8).slice (encR ⟨7, t, pv, pg, sl, ⟨u1, d1⟩, ⟨u2, d2⟩, un, nt, ts, ds, im⟩) w) := by
  have hu := Tryd.underlying49
  obtain ⟨ok0, ok1, ok2, ok3, ok4, ok5, ok6, ok7, ok8, ok9⟩ := ok
  dsimp only at ok0 ok1 ok2 ok3 ok4 ok5 ok6 ok7 ok8 ok9
  obtain ⟨tk1, tk2, tk3, tk4, tk5⟩ := tabOk (ok8 rfl)
  have HMts := Lib.hid tk4; have HMds := Lib.hid tk5
  have HLts := Lib.hid tk2; have HLds := Lib.hid tk3
  clear ok5 ok6 ok7 ok8 ok9 tk4 tk5
  have encE := Lib.hid (show [7] ++ beL 4 t.toNat ++ beL 8 pv.toNat ++ beL 4 nt.toNat ++ beL 1 ts.length ++ ts.flatMap encT ++ beL 1 ds.length ++ ds.flatMap encD = encR ⟨7, t, pv, pg, sl, ⟨u1, d1⟩, ⟨u2, d2⟩, un, nt, ts, ds, im⟩ by simp [encR, encBody, List.append_assoc, beL])
  have HE0 := Lib.hid (alloc_ext w (.cells #[.int .i64 7, .int .i64 t, .int .i64 pv, .int .i64 pg, .int .i64 sl, .bool u1, .slice A1 d1.length c1, .bool u2, .slice A2 d2.length c2, .int .i64 un, .int .i64 nt, .slice A3 ts.length c3, .slice A4 ds.length c4, .slice A5 im.length c5] 49))
  have HB0 := Lib.hid (heap_alloc_new w (.cells #[.int .i64 7, .int .i64 t, .int .i64 pv, .int .i64 pg, .int .i64 sl, .bool u1, .slice A1 d1.length c1, .bool u2, .slice A2 d2.length c2, .int .i64 un, .int .i64 nt, .slice A3 ts.length c3, .slice A4 ds.length c4, .slice A5 im.length c5] 49))
  have S1 := Lib.hid s1; have S2 := Lib.hid s2; have S3 := Lib.hid s3; have S4 := Lib.hid s4; have S5 := Lib.hid s5
  clear s1 s2 s3 s4 s5
  have hw8 : IntKind.u8.wrap 7 = 7 := by simp [IntKind.wrap, IntKind.min, IntKind.max, IntKind.signed, IntKind.bits]
  go_enter Tryd.func37, Tryd.ntmps37
  go_wp2_with (go_at_call 27; refine (HC.out _ HE0.out).mono ?_; rintro e v1 ⟨rfl, hE⟩; have hb := hE.heap HB0.out (by simp); have n0 := fun o => cell_of_row _ _ o _ _ _ hb; have brn := fun o => cell_of_row _ _ o _ _ _ hb; have HBX := Lib.hid hb; have hlt := (Array.getElem?_eq_some_iff.1 hb).1; have HE1 := Lib.hid (HE0.out.ext hE); clear hE hb; refine Hid.out ?_)
  refine Lib.hid ?_
  go_wp2_with fail
  have HSs := Lib.hid ((SP.start v1 7 (by simp [Lit.wf, IntKind.min, IntKind.max, IntKind.signed, IntKind.bits])).ext (Only.refl [] _).drew)
  have brs := fun o => cell_of_row _ _ o _ _ _ ((alloc_ext v1 (.cells #[.int .u8 7] 5)).heap HBX.out (by simp))
  have cbn : v1.drew.cell? ⟨w.heap.size, 0, none⟩ = some (.int .i64 7) ∧ v1.drew.cell? ⟨w.heap.size, 1, none⟩ = some (.int .i64 t) ∧ v1.drew.cell? ⟨w.heap.size, 2, none⟩ = some (.int .i64 pv) := ⟨brn 0, brn 1, brn 2⟩
  have cbs : (v1.alloc (.cells #[.int .u8 7] 5)).drew.cell? ⟨w.heap.size, 0, none⟩ = some (.int .i64 7) ∧ (v1.alloc (.cells #[.int .u8 7] 5)).drew.cell? ⟨w.heap.size, 1, none⟩ = some (.int .i64 t) ∧ (v1.alloc (.cells #[.int .u8 7] 5)).drew.cell? ⟨w.heap.size, 2, none⟩ = some (.int .i64 pv) := ⟨brs 0, brs 1, brs 2⟩
  go_region_held3 (fun w' => w'.cell? ⟨w.heap.size, 0, none⟩ = some (.int .i64 7) ∧ w'.cell? ⟨w.heap.size, 1, none⟩ = some (.int .i64 t) ∧ w'.cell? ⟨w.heap.size, 2, none⟩ = some (.int .i64 pv)) (first | with_reducible exact cb1 | with_reducible exact cb0 | with_reducible exact cbs | with_reducible exact cbn) (first
    | (go_at_call 90; refine (HS0.out.putE 8 pv.toNat _ _ (by omega) rfl (by decide) (by decide) (by omega) (by omega) (by have := Hl0.out; simp only [List.length_cons, List.length_nil] at this; omega)).mono ?_; rintro e ww1 ⟨Au1, cu1, L1, rfl, HL1, Hl1, HS1, HK1⟩; have br1 := fun o => cell_of_row _ _ o _ _ _ (HS1.out.row HBX.out hlt); have cb1 : ww1.cell? ⟨w.heap.size, 0, none⟩ = some (.int .i64 7) ∧ ww1.cell? ⟨w.heap.size, 1, none⟩ = some (.int .i64 t) ∧ ww1.cell? ⟨w.heap.size, 2, none⟩ = some (.int .i64 pv) := ⟨br1 0, br1 1, br1 2⟩; clear br1)
    | (go_at_call 90; refine (HSs.out.putE 4 t.toNat _ _ (by omega) rfl (by decide) (by decide) (by omega) (by omega) (by show 1 ≤ 1073741824; omega)).mono ?_; rintro e ww0 ⟨Au0, cu0, L0, rfl, HL0, Hl0, HS0, HK0⟩; have br0 := fun o => cell_of_row _ _ o _ _ _ (HS0.out.row HBX.out hlt); have cb0 : ww0.cell? ⟨w.heap.size, 0, none⟩ = some (.int .i64 7) ∧ ww0.cell? ⟨w.heap.size, 1, none⟩ = some (.int .i64 t) ∧ ww0.cell? ⟨w.heap.size, 2, none⟩ = some (.int .i64 pv) := ⟨br0 0, br0 1, br0 2⟩; clear br0))
  have hl0 := Hl0.out; have hl1 := Hl1.out; simp only [List.length_cons, List.length_nil] at hl0; clear Hl0 Hl1; have Hl0 := Lib.hid (show L0.length = 5 by omega); have Hl1 := Lib.hid (show L1.length = 13 by omega); clear hl0 hl1
  go_wp2_with fail
  have HS1d := Lib.hid (HS1.out.ext (Only.refl [] _).drew); have HK1d := Lib.hid (KeptT.ext (Only.refl [] ww1).drew)
  have br1d := fun o => cell_of_row _ _ o _ _ _ (HS1d.out.row HBX.out hlt)
  have cb1d : ww1.drew.cell? ⟨w.heap.size, 10, none⟩ = some (.int .i64 nt) ∧ ww1.drew.cell? ⟨w.heap.size, 11, none⟩ = some (.slice A3 ts.length c3) := ⟨br1d 10, br1d 11⟩; clear br1d
  go_region_held3 (fun w' => w'.cell? ⟨w.heap.size, 10, none⟩ = some (.int .i64 nt) ∧ w'.cell? ⟨w.heap.size, 11, none⟩ = some (.slice A3 ts.length c3)) (first | with_reducible exact cb3 | with_reducible exact cb2 | with_reducible exact cb1d) (first
    | (go_at_call 90; refine (HS2.out.putE 1 ts.length _ _ (by omega) rfl (by decide) (by decide) (by omega) (by omega) (by have := Hl1.out; have := Hl2.out; omega)).mono ?_; rintro e ww3 ⟨Au3, cu3, L3, rfl, HL3, Hl3, HS3, HK3⟩; have br3 := fun o => cell_of_row _ _ o _ _ _ (HS3.out.row HBX.out hlt); have cb3 : ww3.cell? ⟨w.heap.size, 10, none⟩ = some (.int .i64 nt) ∧ ww3.cell? ⟨w.heap.size, 11, none⟩ = some (.slice A3 ts.length c3) := ⟨br3 10, br3 11⟩; clear br3)
    | (go_at_call 90; refine (HS1d.out.putE 4 nt.toNat _ _ (by omega) rfl (by decide) (by decide) (by omega) (by omega) (by have := Hl1.out; omega)).mono ?_; rintro e ww2 ⟨Au2, cu2, L2, rfl, HL2, Hl2, HS2, HK2⟩; have br2 := fun o => cell_of_row _ _ o _ _ _ (HS2.out.row HBX.out hlt); have cb2 : ww2.cell? ⟨w.heap.size, 10, none⟩ = some (.int .i64 nt) ∧ ww2.cell? ⟨w.heap.size, 11, none⟩ = some (.slice A3 ts.length c3) := ⟨br2 10, br2 11⟩; clear br2))
  go_wp2_with fail
  have HXl := Lib.hid (show L3.length ≤ 200 by have := Hl1.out; have := Hl2.out; have := Hl3.out; omega)
  go_loopg [4, 3] (ts.length) (fun m i q wr => ∃ (j : Nat) (A : Option Addr) (c : Nat) (ys : List Int), m + j = ts.length ∧ i = .int .i64 j ∧ q = .slice A ys.length c ∧ Hid (ys = L3 ++ (ts.take j).flatMap encT) ∧ SP v1.heap.size v1 ys (.slice A ys.length c) wr)
  case atStart => exact ⟨0, _, _, _, by simp, rfl, rfl, Lib.hid (by simp), HS3.out⟩
  case round =>
    obtain ⟨j, Aj, cj, Lj, hj, rfl, rfl, HLj, hES⟩ := hrel
    have HSj := Lib.hid hES; have HJ := Lib.hid hj
    have Hlj := Lib.hid (show Lj.length ≤ 1000 by rw [HLj.out, List.length_append, flat_len _ _ encT_len, List.length_take]; have := HXl.out; have := HLts.out; omega)
    have m0 := fun o => cell_of_row _ _ o _ _ _ (HSj.out.row HBX.out hlt)
    clear hES hj
    by_cases hjlt : j < ts.length
    · have hmem := HMts.out _ (List.getElem_mem hjlt)
      obtain ⟨g, off, rfl, hg, hw, k0, k1, k2, k3⟩ := sl_TxnEntry (Rep.sl_ext S3.out HE1.out) j hjlt
      have HF := Lib.hid (flat_take encT ts j hjlt)
      obtain ⟨⟨ta, tb, tc, td⟩, hte⟩ : ∃ x, x = ts[j] := ⟨_, rfl⟩
      rw [← hte] at HF hmem k0 k1 k2 k3
      dsimp only at hmem k0 k1 k2 k3
      clear hte hw
      have z0 := (World.cell?_of_block (HSj.out.below.block g hg)).trans k0
      have z1 := (World.cell?_of_block (HSj.out.below.block g hg)).trans k1
      have z2 := (World.cell?_of_block (HSj.out.below.block g hg)).trans k2
      have z3 := (World.cell?_of_block (HSj.out.below.block g hg)).trans k3
      have HSa := Lib.hid (HSj.out.ext (alloc_ext wr (.cells #[.int .i64 ta, .int .i64 tb, .int .i64 tc, .int .i64 td] 104))); have HTa := Lib.hid (heap_alloc_new wr (.cells #[.int .i64 ta, .int .i64 tb, .int .i64 tc, .int .i64 td] 104)); have HKa := Lib.hid (KeptT.ext (alloc_ext wr (.cells #[.int .i64 ta, .int .i64 tb, .int .i64 tc, .int .i64 td] 104)))
      have HLa := HLj; have Hla := Hlj
      go_wp2_with fail
      have HSad := Lib.hid (HSa.out.ext (Only.refl [] _).drew); have HKad := Lib.hid (KeptT.ext (Only.refl [] (wr.alloc (.cells #[.int .i64 ta, .int .i64 tb, .int .i64 tc, .int .i64 td] 104))).drew)
      have HTad := Lib.hid (HKad.out _ _ _ _ HTa.out (by decide)); have btad := fun o => cell_of_row _ _ o _ _ _ HTad.out
      have cbad : (wr.alloc (.cells #[.int .i64 ta, .int .i64 tb, .int .i64 tc, .int .i64 td] 104)).drew.cell? ⟨wr.heap.size, 0, none⟩ = some (.int .i64 ta) ∧ (wr.alloc (.cells #[.int .i64 ta, .int .i64 tb, .int .i64 tc, .int .i64 td] 104)).drew.cell? ⟨wr.heap.size, 1, none⟩ = some (.int .i64 tb) ∧ (wr.alloc (.cells #[.int .i64 ta, .int .i64 tb, .int .i64 tc, .int .i64 td] 104)).drew.cell? ⟨wr.heap.size, 2, none⟩ = some (.int .i64 tc) ∧ (wr.alloc (.cells #[.int .i64 ta, .int .i64 tb, .int .i64 tc, .int .i64 td] 104)).drew.cell? ⟨wr.heap.size, 3, none⟩ = some (.int .i64 td) := ⟨btad 0, btad 1, btad 2, btad 3⟩; clear btad
      go_region_held3 (fun w' => w'.cell? ⟨wr.heap.size, 0, none⟩ = some (.int .i64 ta) ∧ w'.cell? ⟨wr.heap.size, 1, none⟩ = some (.int .i64 tb) ∧ w'.cell? ⟨wr.heap.size, 2, none⟩ = some (.int .i64 tc) ∧ w'.cell? ⟨wr.heap.size, 3, none⟩ = some (.int .i64 td)) (first | with_reducible exact cb7 | with_reducible exact cb6 | with_reducible exact cb5 | with_reducible exact cb4 | with_reducible exact cbad) (first
        | (go_at_call 90; refine (HS6.out.putE 8 td.toNat _ _ (by omega) rfl (by decide) (by decide) (by omega) (by omega) (by have := Hlj.out; have := Hl4.out; have := Hl5.out; have := Hl6.out; omega)).mono ?_; rintro e ww7 ⟨Au7, cu7, L7, rfl, HL7, Hl7, HS7, HK7⟩; have HT7 := Lib.hid (HK7.out _ _ _ _ HT6.out (by decide)); have bt7 := fun o => cell_of_row _ _ o _ _ _ HT7.out; have cb7 : ww7.cell? ⟨wr.heap.size, 0, none⟩ = some (.int .i64 ta) ∧ ww7.cell? ⟨wr.heap.size, 1, none⟩ = some (.int .i64 tb) ∧ ww7.cell? ⟨wr.heap.size, 2, none⟩ = some (.int .i64 tc) ∧ ww7.cell? ⟨wr.heap.size, 3, none⟩ = some (.int .i64 td) := ⟨bt7 0, bt7 1, bt7 2, bt7 3⟩; clear bt7)
        | (go_at_call 90; refine (HS5.out.putE 8 tc.toNat _ _ (by omega) rfl (by decide) (by decide) (by omega) (by omega) (by have := Hlj.out; have := Hl4.out; have := Hl5.out; omega)).mono ?_; rintro e ww6 ⟨Au6, cu6, L6, rfl, HL6, Hl6, HS6, HK6⟩; have HT6 := Lib.hid (HK6.out _ _ _ _ HT5.out (by decide)); have bt6 := fun o => cell_of_row _ _ o _ _ _ HT6.out; have cb6 : ww6.cell? ⟨wr.heap.size, 0, none⟩ = some (.int .i64 ta) ∧ ww6.cell? ⟨wr.heap.size, 1, none⟩ = some (.int .i64 tb) ∧ ww6.cell? ⟨wr.heap.size, 2, none⟩ = some (.int .i64 tc) ∧ ww6.cell? ⟨wr.heap.size, 3, none⟩ = some (.int .i64 td) := ⟨bt6 0, bt6 1, bt6 2, bt6 3⟩; clear bt6)
        | (go_at_call 90; refine (HS4.out.putE 1 tb.toNat _ _ (by omega) rfl (by decide) (by decide) (by omega) (by omega) (by have := Hlj.out; have := Hl4.out; omega)).mono ?_; rintro e ww5 ⟨Au5, cu5, L5, rfl, HL5, Hl5, HS5, HK5⟩; have HT5 := Lib.hid (HK5.out _ _ _ _ HT4.out (by decide)); have bt5 := fun o => cell_of_row _ _ o _ _ _ HT5.out; have cb5 : ww5.cell? ⟨wr.heap.size, 0, none⟩ = some (.int .i64 ta) ∧ ww5.cell? ⟨wr.heap.size, 1, none⟩ = some (.int .i64 tb) ∧ ww5.cell? ⟨wr.heap.size, 2, none⟩ = some (.int .i64 tc) ∧ ww5.cell? ⟨wr.heap.size, 3, none⟩ = some (.int .i64 td) := ⟨bt5 0, bt5 1, bt5 2, bt5 3⟩; clear bt5)
        | (go_at_call 90; refine (HSad.out.putE 4 ta.toNat _ _ (by omega) rfl (by decide) (by decide) (by omega) (by omega) (by have := Hlj.out; omega)).mono ?_; rintro e ww4 ⟨Au4, cu4, L4, rfl, HL4, Hl4, HS4, HK4⟩; have HT4 := Lib.hid (HK4.out _ _ _ _ HTad.out (by decide)); have bt4 := fun o => cell_of_row _ _ o _ _ _ HT4.out; have cb4 : ww4.cell? ⟨wr.heap.size, 0, none⟩ = some (.int .i64 ta) ∧ ww4.cell? ⟨wr.heap.size, 1, none⟩ = some (.int .i64 tb) ∧ ww4.cell? ⟨wr.heap.size, 2, none⟩ = some (.int .i64 tc) ∧ ww4.cell? ⟨wr.heap.size, 3, none⟩ = some (.int .i64 td) := ⟨bt4 0, bt4 1, bt4 2, bt4 3⟩; clear bt4))
      go_wp2
      go_roundg (ts.length - (j + 1))
      case measure => have := HJ.out; omega
      case rel =>
        refine ⟨j + 1, _, _, _, by omega, by go_num, rfl, Lib.hid ?_, HS7.out⟩
        rw [HL7.out, HL6.out, HL5.out, HL4.out, HLj.out, HF.out]
        simp only [encT, List.append_assoc]
    · have hjj : j = ts.length := by have := HJ.out; omega
      subst hjj
      rw [List.take_length] at HLj
      have HLm := HLj; have HSm := HSj; have Hlm := Hlj
      go_wp2_with (go_at_call 90; refine (HSm.out.putE 1 ds.length _ _ (by omega) rfl (by decide) (by decide) (by have := HLds.out; omega) (by have := HLds.out; omega) (by have := Hlm.out; omega)).mono ?_; rintro e ww8 ⟨Au8, cu8, L8, rfl, HL8, Hl8, HS8, HK8⟩; have n9 := fun o => cell_of_row _ _ o _ _ _ (HS8.out.row HBX.out hlt); refine Hid.out ?_)
      refine Lib.hid ?_
      clear HSj HLj Hlj
      go_wp2_with fail
      have HXl := Lib.hid (show L8.length ≤ 1001 by have := Hlm.out; have := Hl8.out; omega)
      go_loopg [6, 3] (ds.length) (fun m i q wr => ∃ (j : Nat) (A : Option Addr) (c : Nat) (ys : List Int), m + j = ds.length ∧ i = .int .i64 j ∧ q = .slice A ys.length c ∧ Hid (ys = L8 ++ (ds.take j).flatMap encD) ∧ SP v1.heap.size v1 ys (.slice A ys.length c) wr)
      case atStart => exact ⟨0, _, _, _, by simp, rfl, rfl, Lib.hid (by simp), HS8.out⟩
      case round =>
        obtain ⟨j, Aj, cj, Lj, hj, rfl, rfl, HLj, hES⟩ := hrel
        have HSj := Lib.hid hES; have HJ := Lib.hid hj
        have Hlj := Lib.hid (show Lj.length ≤ 2000 by rw [HLj.out, List.length_append, flat_len _ _ encD_len, List.length_take]; have := HXl.out; have := HLds.out; omega)
        have m0 := fun o => cell_of_row _ _ o _ _ _ (HSj.out.row HBX.out hlt)
        clear hES hj
        by_cases hjlt : j < ds.length
        · have hmem := HMds.out _ (List.getElem_mem hjlt)
          obtain ⟨g, off, rfl, hg, hw, k0, k1⟩ := sl_DirtyEntry (Rep.sl_ext S4.out HE1.out) j hjlt
          have HF := Lib.hid (flat_take encD ds j hjlt)
          obtain ⟨⟨ta, tb⟩, hte⟩ : ∃ x, x = ds[j] := ⟨_, rfl⟩
          rw [← hte] at HF hmem k0 k1
          dsimp only at hmem k0 k1
          clear hte hw
          have hgB := hg
          have z0 := (World.cell?_of_block (HSj.out.below.block g hg)).trans k0
          have z1 := (World.cell?_of_block (HSj.out.below.block g hg)).trans k1
          have HKj := Lib.hid (KeptT.ext (Only.refl [] wr))
          go_wp2_with fail
          have HSjd := Lib.hid (HSj.out.ext (Only.refl [] _).drew); have HKjd := Lib.hid (KeptT.ext (Only.refl [] wr).drew)
          have brjd := fun o => cell_of_row _ _ o _ _ _ (HSjd.out.row HBX.out hlt)
          have bejd := HSjd.out.below.block g hgB
          have cbjd : wr.drew.cell? ⟨w.heap.size, 12, none⟩ = some (.slice (some ⟨g, off, none⟩) ds.length c4) ∧ wr.drew.cell? ⟨g, off + j * 2, none⟩ = some (.int .i64 ta) ∧ wr.drew.cell? ⟨g, off + j * 2 + 1, none⟩ = some (.int .i64 tb) := ⟨brjd 12, (World.cell?_of_block (bejd)).trans k0, (World.cell?_of_block (bejd)).trans k1⟩; clear bejd brjd
          go_region_held3 (fun w' => w'.cell? ⟨w.heap.size, 12, none⟩ = some (.slice (some ⟨g, off, none⟩) ds.length c4) ∧ w'.cell? ⟨g, off + j * 2, none⟩ = some (.int .i64 ta) ∧ w'.cell? ⟨g, off + j * 2 + 1, none⟩ = some (.int .i64 tb)) (first | with_reducible exact cb10 | with_reducible exact cb9 | with_reducible exact cbjd) (first
            | (go_at_call 90; refine (HS9.out.putE 8 tb.toNat _ _ (by omega) rfl (by decide) (by decide) (by omega) (by omega) (by have := Hlj.out; have := Hl9.out; omega)).mono ?_; rintro e ww10 ⟨Au10, cu10, L10, rfl, HL10, Hl10, HS10, HK10⟩; have br10 := fun o => cell_of_row _ _ o _ _ _ (HS10.out.row HBX.out hlt); have be10 := HS10.out.below.block g hgB; have cb10 : ww10.cell? ⟨w.heap.size, 12, none⟩ = some (.slice (some ⟨g, off, none⟩) ds.length c4) ∧ ww10.cell? ⟨g, off + j * 2, none⟩ = some (.int .i64 ta) ∧ ww10.cell? ⟨g, off + j * 2 + 1, none⟩ = some (.int .i64 tb) := ⟨br10 12, (World.cell?_of_block (be10)).trans k0, (World.cell?_of_block (be10)).trans k1⟩; clear be10 br10)
            | (go_at_call 90; refine (HSjd.out.putE 2 ta.toNat _ _ (by omega) rfl (by decide) (by decide) (by omega) (by omega) (by have := Hlj.out; omega)).mono ?_; rintro e ww9 ⟨Au9, cu9, L9, rfl, HL9, Hl9, HS9, HK9⟩; have br9 := fun o => cell_of_row _ _ o _ _ _ (HS9.out.row HBX.out hlt); have be9 := HS9.out.below.block g hgB; have cb9 : ww9.cell? ⟨w.heap.size, 12, none⟩ = some (.slice (some ⟨g, off, none⟩) ds.length c4) ∧ ww9.cell? ⟨g, off + j * 2, none⟩ = some (.int .i64 ta) ∧ ww9.cell? ⟨g, off + j * 2 + 1, none⟩ = some (.int .i64 tb) := ⟨br9 12, (World.cell?_of_block (be9)).trans k0, (World.cell?_of_block (be9)).trans k1⟩; clear be9 br9))
          go_wp2
          go_roundg (ds.length - (j + 1))
          case measure => have := HJ.out; omega
          case rel =>
            refine ⟨j + 1, _, _, _, by omega, by go_num, rfl, Lib.hid ?_, HS10.out⟩
            rw [HL10.out, HL9.out, HLj.out, HF.out]
            simp only [encD, List.append_assoc]
        · have hjj : j = ds.length := by have := HJ.out; omega
          subst hjj
          rw [List.take_length] at HLj
          go_wp2
          go_ret
          have hfin := HSj.out.done rfl
          rw [show encR ⟨7, t, pv, pg, sl, ⟨u1, d1⟩, ⟨u2, d2⟩, un, nt, ts, ds, im⟩ = Lj by rw [HLj.out, HL8.out, HLm.out, HL3.out, HL2.out, HL1.out, HL0.out]; exact encE.out.symm]
          exact hfin.behind HE1.out
end Go.Proofs.YtghgjddiheebeaaDoor
/- EncodeRecord: the specification's, and the contracts in the law's form. -/
namespace Go.Proofs.YtghgjddiheebeaaDoor
open Go.RowKit Go.Shelf
set_option linter.unusedSimpArgs false
set_option linter.unusedVariables false
set_option maxRecDepth 100000 in
set_option maxHeartbeats 8000000 in
theorem specEncode_new (w : World) (v : Value) (x : DLogRecord) (F : List Nat) (h : Rep.LogRecord.V w v x F) :
    Calls Tryd.prog 37 #[v] w (NewPost (Rep.int .u8).slice (encRec x) w) := by
  have h0 := h
  obtain ⟨_, ⟨A1, c1, F1, A2, c2, F2, A3, c3, F3, A4, c4, F4, A5, c5, F5, rfl, rfl, hw, s1, s2, s3, s4, s5⟩, rfl⟩ := h
  revert h0
  show Rep.LogRecord.V w (.agg #[_, _, _, _, _, _, _, _, _, _, _, _, _, _]) _ _ → Calls _ _ #[.agg #[_, _, _, _, _, _, _, _, _, _, _, _, _, _]] _ _
  intro h0
  obtain ⟨k, t, pv, pg, sl, ⟨u1, d1⟩, ⟨u2, d2⟩, un, nt, ts, ds, im⟩ := x
  dsimp only at s1 s2 s3 s4 s5 h0 ⊢
  have HC : Hid (∀ W, Ext w W → Calls Tryd.prog 27 #[.agg #[.int .i64 k, .int .i64 t, .int .i64 pv, .int .i64 pg, .int .i64 sl, .bool u1, .slice A1 d1.length c1, .bool u2, .slice A2 d2.length c2, .int .i64 un, .int .i64 nt, .slice A3 ts.length c3, .slice A4 ds.length c4, .slice A5 im.length c5]] W fun e w' => e = .returned (.int .i64 (recFault ⟨k, t, pv, pg, sl, ⟨u1, d1⟩, ⟨u2, d2⟩, un, nt, ts, ds, im⟩)) ∧ Ext W w') := by
    intro W hW
    exact specRecordFault_calls W _ ⟨k, t, pv, pg, sl, ⟨u1, d1⟩, ⟨u2, d2⟩, un, nt, ts, ds, im⟩ _ (V_ext h0 hW)
  clear h0
  by_cases hf : recFault ⟨k, t, pv, pg, sl, ⟨u1, d1⟩, ⟨u2, d2⟩, un, nt, ts, ds, im⟩ = 0
  · rw [show encRec _ = encR _ from if_pos hf]
    rw [hf] at HC
    have ok := recOk hf
    have hk := ok.kind
    dsimp only at hk
    by_cases h1 : k = 1
    · subst h1; exact specEnc_1 w t pv pg sl u1 A1 c1 d1 F1 u2 A2 c2 d2 F2 un nt A3 c3 ts F3 A4 c4 ds F4 A5 c5 im F5 s1 s2 s3 s4 s5 ok HC
    by_cases h2 : k = 2
    · subst h2; exact specEnc_2 w t pv pg sl u1 A1 c1 d1 F1 u2 A2 c2 d2 F2 un nt A3 c3 ts F3 A4 c4 ds F4 A5 c5 im F5 s1 s2 s3 s4 s5 ok HC
    by_cases h7 : k = 7
    · subst h7; exact specEnc_7 w t pv pg sl u1 A1 c1 d1 F1 u2 A2 c2 d2 F2 un nt A3 c3 ts F3 A4 c4 ds F4 A5 c5 im F5 s1 s2 s3 s4 s5 ok HC
    by_cases h8 : k = 8
    · subst h8; exact specEnc_8 w t pv pg sl u1 A1 c1 d1 F1 u2 A2 c2 d2 F2 un nt A3 c3 ts F3 A4 c4 ds F4 A5 c5 im F5 s1 s2 s3 s4 s5 ok HC
    exact specEnc_plain w k t pv pg sl u1 A1 c1 d1 F1 u2 A2 c2 d2 F2 un nt A3 c3 ts F3 A4 c4 ds F4 A5 c5 im F5 s1 s2 s3 s4 s5 (by omega) ok HC
  · rw [show encRec _ = [] from if_neg hf]
    obtain ⟨fz, hfz⟩ : ∃ f, f = recFault ⟨k, t, pv, pg, sl, ⟨u1, d1⟩, ⟨u2, d2⟩, un, nt, ts, ds, im⟩ := ⟨_, rfl⟩
    rw [← hfz] at HC hf
    clear hfz
    have hu := Tryd.underlying49
    have HE0 := Lib.hid (alloc_ext w (.cells #[.int .i64 k, .int .i64 t, .int .i64 pv, .int .i64 pg, .int .i64 sl, .bool u1, .slice A1 d1.length c1, .bool u2, .slice A2 d2.length c2, .int .i64 un, .int .i64 nt, .slice A3 ts.length c3, .slice A4 ds.length c4, .slice A5 im.length c5] 49))
    have hk1 : (fz != 0) = true := bne_iff_ne.2 hf
    clear s1 s2 s3 s4 s5 hw
    go_enter Tryd.func37, Tryd.ntmps37
    go_wp2_with (go_at_call 27; refine (HC.out _ HE0.out).mono ?_; rintro e w5 ⟨rfl, hE⟩; have HE1 := Lib.hid hE; clear hE)
    go_ret
    exact NewPost.ofOwn (e := 5) (n := w5.heap.size) (Own.made (Nat.le_refl _) #[] 0 (by simp) (by simp)) (Nat.le_trans (Nat.le_trans (by simp) HE0.out.size) HE1.out.size) ((HE0.out.ext HE1.out).ext (alloc_ext _ _))
theorem encBody_len {x : DLogRecord} (ok : RecOk x) : (encBody x).length ≤ 8192 := by
  unfold encBody
  split
  · have h1 := ok.bef (by omega); have h2 := ok.aft (by omega)
    simp only [List.length_append, beL_length, slotB_len]
    split <;> split <;> omega
  split
  · have h2 := ok.aft (by omega)
    simp only [List.length_append, beL_length, slotB_len]
    split <;> omega
  split
  · rename_i h7
    have := tabOk (ok.tab h7)
    have h1 := this.lt; have h2 := this.ld
    simp only [List.length_append, beL_length, flat_len _ _ encT_len, flat_len _ _ encD_len]
    omega
  split
  · rename_i h8
    have := (fault_zero (ok.img h8)).1
    simp only [List.length_append, beL_length]
    omega
  · simp
theorem encRec_len (x : DLogRecord) : (encRec x).length ≤ 10000 := by
  unfold encRec
  split
  · rename_i h
    have := encBody_len (recOk h)
    simp only [encR, List.length_append, beL_length]
    omega
  · simp
end Go.Proofs.YtghgjddiheebeaaDoor
