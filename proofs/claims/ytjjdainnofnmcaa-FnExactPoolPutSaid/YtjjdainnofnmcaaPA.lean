/- What PoolPin, PoolUnpin, PoolPut do to a frame. -/
import Derived.Test.YtjjdainnofnmcaaP9
import Derived.Deep.RegionHeld3
namespace Go.Proofs.Ytjjdainnofnmcaa
open Go.RowKit
set_option linter.unusedSimpArgs false
set_option linter.unusedVariables false
theorem enters_of {f : Nat} {fn : Func} {c : Code} (hf : Try.prog.funcs[f]? = some fn) (hn : (fn.name == "runtime.NumGoroutine") = false) (hb : fn.body = some c) (args : Array Value) (W : World) : (callFunc f args).run Try.prog W = .ok (.enter f args) W := by
  have h1 : fn.name ≠ "runtime.NumGoroutine" := by simpa using hn
  simp [callFunc, hf, h1, hb]
theorem fPin_fn (w0 : World) : FrameFn 55 #[] gPin w0 := by
  intro W b o x B d hE hb hbl hp k0 k1 k2 k3 k4 k5 hf
  obtain ⟨hp0, hp1⟩ := hp
  have hu2 := Try.underlying43
  show Calls _ _ #[.pointer _] _ _
  by_cases hpin : x.Pins = 2147483647
  · have hbq : (x.Pins == 2147483647) = true := by simp [hpin]
    have hg : gPin x = (x, 3) := by simp [gPin, hpin]
    rw [hg]
    clear hpin hg
    go_enter Try.func55, Try.ntmps55
    go_wp2
    go_ret
    exact ⟨rfl, .inl ⟨by decide, Only.refl _ _⟩⟩
  · have hbq : (x.Pins == 2147483647) = false := by simp [hpin]
    have hg : gPin x = ({ x with Pins := x.Pins + 1, Ref := true }, 0) := by simp [gPin, hpin]
    rw [hg]
    clear hg
    go_enter Try.func55, Try.ntmps55
    go_wp2
    go_ret
    refine ⟨by first | rfl | trivial, .inr ⟨by first | rfl | trivial, by repeat (first | with_reducible exact Only.refl _ _ | with_reducible apply Only.drew | ((with_reducible apply Only.set); · simp)), fun W0 F G hF hbF hbG hGF hl hl2 hn hun hwf hsl => ?_⟩⟩
    have HF := (hF.set hbF 2 (by decide) (.int .i64 (x.Pins + 1))).set hbF 5 (by decide) (.bool true)
    refine ⟨_, G, HF, ⟨B, d, G, rfl, rfl, ⟨hwf.1, by simp [Lit.wf, IntKind.min, IntKind.max, IntKind.signed, IntKind.bits]; omega, hwf.2.2⟩, Rep.sl_only hsl (G := [b]) (by repeat (first | with_reducible exact Only.refl _ _ | with_reducible apply Only.drew | ((with_reducible apply Only.set); · simp))) (fun c hc hc' => by simp at hc'; exact hbG (hc' ▸ hc))⟩, hbG, hn, fun c hc j => HF.unfr c (hGF c hc) j, fun c hc => .inl hc⟩
theorem fUnpin_fn (w0 : World) : FrameFn 56 #[] gUnpin w0 := by
  intro W b o x B d hE hb hbl hp k0 k1 k2 k3 k4 k5 hf
  obtain ⟨hp0, hp1⟩ := hp
  have hu2 := Try.underlying43
  show Calls _ _ #[.pointer _] _ _
  by_cases hpin : x.Pins = 0
  · have hbq : (x.Pins == 0) = true := by simp [hpin]
    have hg : gUnpin x = (x, 3) := by simp [gUnpin, hpin]
    rw [hg]
    clear hpin hg
    go_enter Try.func56, Try.ntmps56
    go_wp2
    go_ret
    exact ⟨rfl, .inl ⟨by decide, Only.refl _ _⟩⟩
  · have hbq : (x.Pins == 0) = false := by simp [hpin]
    have hg : gUnpin x = ({ x with Pins := x.Pins - 1 }, 0) := by simp [gUnpin, hpin]
    rw [hg]
    clear hg
    go_enter Try.func56, Try.ntmps56
    go_wp2
    go_ret
    refine ⟨by first | rfl | trivial, .inr ⟨by first | rfl | trivial, by repeat (first | with_reducible exact Only.refl _ _ | with_reducible apply Only.drew | ((with_reducible apply Only.set); · simp)), fun W0 F G hF hbF hbG hGF hl hl2 hn hun hwf hsl => ?_⟩⟩
    have HF := (hF.set hbF 2 (by decide) (.int .i64 (x.Pins - 1)))
    refine ⟨_, G, HF, ⟨B, d, G, rfl, rfl, ⟨hwf.1, by simp [Lit.wf, IntKind.min, IntKind.max, IntKind.signed, IntKind.bits]; omega, hwf.2.2⟩, Rep.sl_only hsl (G := [b]) (by repeat (first | with_reducible exact Only.refl _ _ | with_reducible apply Only.drew | ((with_reducible apply Only.set); · simp))) (fun c hc hc' => by simp at hc'; exact hbG (hc' ▸ hc))⟩, hbG, hn, fun c hc j => HF.unfr c (hGF c hc) j, fun c hc => .inl hc⟩
def gPut (bs : List Int) (lsn : Int) (x : DFrame) : DFrame × Int :=
  if bs.length = 4096 ∧ inR lsn 1 1099511627776 = true then ({ x with Bytes := bs, Dirty := true, RecLSN := if x.Dirty then x.RecLSN else lsn, Ref := true }, 0) else (x, 3)
def putW (W2 : World) (b o : Nat) (B2 : Option Addr) (n d2 : Nat) (lsn : Int) : Bool → World
  | false => ((((W2.setCell ⟨b, o + 1, none⟩ (.slice B2 n d2)).setCell ⟨b, o + 5, none⟩ (.bool true)).setCell ⟨b, o + 3, none⟩ (.bool true)).setCell ⟨b, o + 4, none⟩ (.int .i64 lsn)).drew
  | true => (W2.setCell ⟨b, o + 1, none⟩ (.slice B2 n d2)).setCell ⟨b, o + 5, none⟩ (.bool true)
theorem Foc.drew {w0 w : World} {g off sz : Nat} {F G : List Nat} {d : List Value} (h : Foc w0 w g off sz F G d) : Foc w0 w.drew g off sz F G d :=
  ⟨h.only.drew, h.lt, h.cell, h.len, h.rest, h.block, h.unfr⟩
theorem fPut_raw (w0 : World) (A : Option Addr) (c : Nat) (bs : List Int) (Gb : List Nat) (hB : (Rep.int .u8).sl w0 A c bs Gb) (hs : bs.length ≤ 1048576) (lsn : Int) (el : (Lit.int .i64 lsn).wf = true) (n1 n2 : Nat) (hc1 : w0.cell? ⟨n1, 0, none⟩ = some (.slice A bs.length c)) (hc2 : w0.cell? ⟨n2, 0, none⟩ = some (.int .i64 lsn))
    (W : World) (b o : Nat) (dirty : Bool) (u1 u3 u4 u5 : Value) (hE : Ext w0 W) (hb : w0.heap.size ≤ b) (hbl : b < W.heap.size) (k1 : W.cell? ⟨b, o + 1, none⟩ = some u1) (k3 : W.cell? ⟨b, o + 3, none⟩ = some (.bool dirty)) (k4 : W.cell? ⟨b, o + 4, none⟩ = some u4) (k5 : W.cell? ⟨b, o + 5, none⟩ = some u5) (hf : ∀ j, W.frozen? ⟨b, j, none⟩ = false)
    (hg1 : bs.length = 4096) (hg2 : inR lsn 1 1099511627776 = true) :
    Calls Try.prog 57 #[.pointer (some ⟨b, o, none⟩), .pointer (some ⟨n1, 0, none⟩), .pointer (some ⟨n2, 0, none⟩)] W fun e w' => e = .returned (.int .i64 0) ∧ Hid (∃ w2 F2 B2 d2, New W w2 F2 ∧ (Rep.int .u8).sl w2 B2 d2 bs F2 ∧ w' = putW w2 b o B2 bs.length d2 lsn dirty) := by
  have hu2 := Try.underlying43
  have a1 := hE.ecell hc1
  have a2 := hE.ecell hc2
  have hh : ((bs.length : Int) != 4096) = false := by simp; omega
  have SB := Rep.sl_ext hB hE
  have HG1 := Lib.hid hg1; have HG2 := Lib.hid hg2
  clear hg1
  go_enter Try.func57, Try.ntmps57
  go_wp2_with (go_at_call 45; refine (implIn_calls _ _ _ _).mono ?_; rintro e w1 ⟨rfl, rfl⟩)
  refine (Clone_calls _ _ _ _ _ SB (by omega)).mono ?_
  rintro e w2 ⟨v2, F2, rfl, hV, hN⟩
  obtain ⟨B2, d2, rfl, q⟩ := Rep.slice_V hV
  have j1 := hN.ext.ecell k1; have j3 := hN.ext.ecell k3; have j4 := hN.ext.ecell k4; have j5 := hN.ext.ecell k5
  have b1 := hN.ext.ecell a1; have b2 := hN.ext.ecell a2
  have hf2 := fun j => hN.ext.efroz (p := ⟨b, j, none⟩) hbl (hf j)
  have HN := Lib.hid hN; have HQ := Lib.hid q
  have hne1 : n1 ≠ b := fun e => by have := World.block_lt_of_cell? _ _ hc1; simp at this; omega
  have hne2 : n2 ≠ b := fun e => by have := World.block_lt_of_cell? _ _ hc2; simp at this; omega
  have hne3 := hne1.symm
  have hne4 := hne2.symm
  clear k1 k3 k4 k5 a1 a2 hf hV hN hg2 hh SB hB hc1 hc2 q
  cases dirty
  · go_wp2
    go_region_held3 (fun w' => w'.cell? ⟨n2, 0, none⟩ = some (.int .i64 lsn)) (go_keep) (fail)
    go_wp2
    go_ret
    exact ⟨rfl, w2, F2, B2, d2, HN.out, HQ.out, rfl⟩
  · go_wp2
    go_ret
    exact ⟨rfl, w2, F2, B2, d2, HN.out, HQ.out, rfl⟩
theorem fPut_fn (w0 : World) (A : Option Addr) (c : Nat) (bs : List Int) (Gb : List Nat) (hB : (Rep.int .u8).sl w0 A c bs Gb) (hs : bs.length ≤ 1048576) (lsn : Int) (el : (Lit.int .i64 lsn).wf = true) (n1 n2 : Nat) (hc1 : w0.cell? ⟨n1, 0, none⟩ = some (.slice A bs.length c)) (hc2 : w0.cell? ⟨n2, 0, none⟩ = some (.int .i64 lsn)) :
    FrameFn 57 #[.pointer (some ⟨n1, 0, none⟩), .pointer (some ⟨n2, 0, none⟩)] (gPut bs lsn) w0 := by
  intro W b o x B d hE hb hbl hp k0 k1 k2 k3 k4 k5 hf
  clear hp
  show Calls _ _ #[.pointer _, _, _] _ _
  by_cases hg : bs.length = 4096 ∧ inR lsn 1 1099511627776 = true
  rotate_left
  · have e1 : gPut bs lsn x = (x, 3) := by rw [gPut, if_neg hg]
    rw [e1]
    have a1 := hE.ecell hc1
    have a2 := hE.ecell hc2
    have hh : ((bs.length : Int) != 4096) = true ∨ ((bs.length : Int) != 4096) = false ∧ inR lsn 1 1099511627776 = false := by
      by_cases h : bs.length = 4096
      · exact .inr ⟨by simp [h], by simpa [h] using hg⟩
      · exact .inl (by simp; omega)
    clear hg e1
    rcases hh with hh | ⟨hh, hd⟩
    all_goals
      go_enter Try.func57, Try.ntmps57
      go_wp2_with (go_at_call 45; refine (implIn_calls _ _ _ _).mono ?_; rintro e w1 ⟨rfl, rfl⟩)
      go_ret
      exact ⟨rfl, .inl ⟨by decide, Only.refl _ _⟩⟩
  have e1 : gPut bs lsn x = ({ x with Bytes := bs, Dirty := true, RecLSN := if x.Dirty then x.RecLSN else lsn, Ref := true }, 0) := by rw [gPut, if_pos hg]
  rw [e1]
  refine (fPut_raw w0 A c bs Gb hB hs lsn el n1 n2 hc1 hc2 W b o x.Dirty _ (.bool x.Dirty) _ _ hE hb hbl k1 k3 k4 k5 hf hg.1 hg.2).mono ?_
  rintro e w' ⟨rfl, w2, F2, B2, d2, hN, q, rfl⟩
  have hge := hN.new
  obtain ⟨dirty, hD⟩ : ∃ q, q = x.Dirty := ⟨_, rfl⟩
  rw [← hD]
  have hO : Only [b] w2 (putW w2 b o B2 bs.length d2 lsn dirty) := by
    cases dirty <;> simp only [putW] <;> repeat (first | with_reducible exact Only.refl _ _ | with_reducible apply Only.drew | ((with_reducible apply Only.set); · simp))
  refine ⟨rfl, .inr ⟨rfl, (hN.ext.more (G := [b]) (by simp)).trans hO, fun W0 F G hF hbF hbG hGF hl hl2 hn hun hwf hsl => ?_⟩⟩
  have HF : ∃ d', Foc W0 (putW w2 b o B2 bs.length d2 lsn dirty) b o 6 F G d' ∧ d' = [.int .i64 x.Page, .slice B2 bs.length d2, .int .i64 x.Pins, .bool true, .int .i64 (if dirty then x.RecLSN else lsn), .bool true] := by
    cases dirty
    · exact ⟨_, (((((hF.ext hN.ext hl).set hbF 1 (by decide) (.slice B2 bs.length d2)).set hbF 5 (by decide) (.bool true)).set hbF 3 (by decide) (.bool true)).set hbF 4 (by decide) (.int .i64 lsn)).drew, rfl⟩
    · exact ⟨_, ((hF.ext hN.ext hl).set hbF 1 (by decide) (.slice B2 bs.length d2)).set hbF 5 (by decide) (.bool true), rfl⟩
  obtain ⟨d', hF', rfl⟩ := HF
  refine ⟨_, F2, hF', ⟨B2, d2, F2, rfl, rfl, ⟨hwf.1, hwf.2.1, ?_⟩, Rep.sl_only q hO (fun c hc hc' => by have := hge c hc; simp at hc'; omega)⟩, fun hb' => by have := hge b hb'; omega, hN.nodup, Unfr.only hN.unfr hO (fun c hc => Rep.sl_lt q c hc) (fun c hc hc' => by have := hge c hc; simp at hc'; omega), fun c hc => .inr (hge c hc)⟩
  cases dirty
  · exact el
  · exact hwf.2.2
end Go.Proofs.Ytjjdainnofnmcaa
