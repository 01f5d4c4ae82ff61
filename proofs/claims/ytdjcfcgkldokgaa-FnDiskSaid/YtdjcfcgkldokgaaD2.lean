/- A disk of the call's own: its durable bytes, its pending writes that may grow. -/
import Derived.Test.YtdjcfcgkldokgaaD1
namespace Go.Proofs.Ytdjcfcgkldokgaa
open Go.RowKit
set_option linter.unusedSimpArgs false
set_option linter.unusedVariables false
/-- Blocks from b on; the durable bytes ahead of n, the pending writes from n on. -/
def DiskOwn (b n : Nat) (w : World) (A : Option Addr) (c : Nat) (pv : Value) (d : DDisk) : Prop :=
  ∃ F, (Rep.int .u8).sl w A c d.Durable F ∧ (∀ g ∈ F, b ≤ g ∧ g < n) ∧ F.Nodup ∧ Unfr w F ∧ Own Rep.SectorWrite 64 n w pv d.Pending
section
variable {b n : Nat} {w w' w0 : World} {A : Option Addr} {c : Nat} {pv : Value} {d : DDisk} {H : List Nat}
theorem DiskOwn.keep (h : DiskOwn b n w A c pv d) (hk : Only H w w') (hH : ∀ g ∈ H, g < b ∨ w.heap.size ≤ g) (hb : b ≤ n) : DiskOwn b n w' A c pv d := by
  obtain ⟨F, h1, h2, h3, h4, h5⟩ := h
  have hn := h5.le
  have hd : ∀ g ∈ F, g ∉ H := fun g hg hg' => by have := h2 g hg; rcases hH g hg' with h | h <;> omega
  exact ⟨F, Rep.sl_only h1 hk hd, h2, h3, Unfr.only h4 hk (fun g hg => Rep.sl_lt h1 g hg) hd, h5.keep hk (fun g hg => by rcases hH g hg with h | h <;> omega)⟩
theorem DiskOwn.ext (h : DiskOwn b n w A c pv d) (hk : Ext w w') (hb : b ≤ n) : DiskOwn b n w' A c pv d := h.keep hk (by simp) hb
theorem DiskOwn.form (h : DiskOwn b n w A c pv d) : ∃ Ap cp, pv = .slice Ap d.Pending.length cp ∧ cp ≤ maxLen := by
  obtain ⟨F, h1, h2, h3, h4, h5⟩ := h
  exact h5.form
/-- As two lists, their blocks apart. -/
theorem DiskOwn.open_ (h : DiskOwn b n w A c pv d) : ∃ F Ap cp G, pv = .slice Ap d.Pending.length cp ∧ (Rep.int .u8).sl w A c d.Durable F ∧ Rep.SectorWrite.sl w Ap cp d.Pending G ∧ (∀ g ∈ F, b ≤ g ∧ g < n) ∧ (∀ g ∈ G, n ≤ g) ∧ F.Nodup ∧ G.Nodup ∧ Unfr w F ∧ Unfr w G := by
  obtain ⟨F, h1, h2, h3, h4, h5⟩ := h
  obtain ⟨G, hV, hN⟩ := h5.done
  obtain ⟨Ap, cp, rfl, q⟩ := Rep.slice_V hV
  exact ⟨F, Ap, cp, G, rfl, h1, q, h2, hN.ge, h3, hN.nodup, h4, hN.unfr⟩
theorem DiskOwn.new (h : DiskOwn b n w A c pv d) (hb : w0.heap.size ≤ b) (hbn : b ≤ n) (hO : Ext w0 w) {k : Nat} (hk : k = d.Durable.length) : NewPost Rep.Disk d w0 (.returned (.agg #[.slice A k c, pv])) w := by
  subst hk
  obtain ⟨F, Ap, cp, G, rfl, h1, h2, h3, h4, h5, h6, h7, h8⟩ := h.open_
  refine ⟨_, F ++ G, rfl, ⟨_, ⟨A, c, F, Ap, cp, G, rfl, rfl, trivial, h1, h2⟩, rfl⟩, hO, fun g hg => ?_, List.nodup_append.2 ⟨h5, h6, fun x hx y hy e => ?_⟩, fun g hg => ?_⟩
  · rcases List.mem_append.1 hg with hg | hg
    · have := h3 g hg; omega
    · have := h4 g hg; omega
  · subst e; have := h3 x hx; have := h4 x hy; omega
  · rcases List.mem_append.1 hg with hg | hg
    · exact h7 g hg
    · exact h8 g hg
end
/-- What a function leaves that answers a disk of its own. -/
def DiskPost (d : DDisk) (w : World) (e : Ending) (w' : World) : Prop :=
  ∃ A c pv n, e = .returned (.agg #[.slice A d.Durable.length c, pv]) ∧ DiskOwn w.heap.size n w' A c pv d ∧ w.heap.size ≤ n ∧ Ext w w'
theorem DiskPost.new {d : DDisk} {w w' : World} {e : Ending} (h : DiskPost d w e w') : NewPost Rep.Disk d w e w' := by
  obtain ⟨A, c, pv, n, rfl, h1, h2, h3⟩ := h
  exact h1.new (Nat.le_refl _) h2 h3 rfl

-- plain data: what settles
def put1 (dur : List Int) (x : DSectorWrite) : List Int := splice dur (x.Sector.toNat * 512) x.Data
def settleL (dur : List Int) (xs : List DSectorWrite) : List Int := xs.foldl put1 dur
theorem okW_room {n : Nat} {dur : List Int} {x : DSectorWrite} (h : okW (dur.length / 512) x = true) : x.Data.length = 512 ∧ 0 ≤ x.Sector ∧ x.Sector.toNat * 512 + 512 ≤ dur.length := by
  simp [okW] at h
  omega
theorem put1_len {dur : List Int} {x : DSectorWrite} (h : okW (dur.length / 512) x = true) : (put1 dur x).length = dur.length := by
  obtain ⟨h1, h2, h3⟩ := okW_room (n := 0) h
  exact length_splice _ _ _ (by omega)
theorem settleL_len : ∀ (xs : List DSectorWrite) (dur : List Int), (∀ x ∈ xs, okW (dur.length / 512) x = true) → (settleL dur xs).length = dur.length
  | [], _, _ => rfl
  | x :: xs, dur, h => by
    have h1 := put1_len (h x (by simp))
    have := settleL_len xs (put1 dur x) (fun y hy => by rw [h1]; exact h y (by simp [hy]))
    simp only [settleL, List.foldl_cons] at this ⊢
    rw [this, h1]
theorem settleL_take (xs : List DSectorWrite) (dur : List Int) (j : Nat) (h : j < xs.length) : settleL dur (xs.take (j + 1)) = put1 (settleL dur (xs.take j)) xs[j] := by
  unfold settleL
  rw [List.take_succ_eq_append_getElem h, List.foldl_append]
  rfl
/-- Those of a list whose place is chosen. -/
def kept (sel : Nat → Bool) (xs : List DSectorWrite) : List DSectorWrite := (xs.zipIdx.filter (fun p => sel p.2)).map (·.1)
theorem kept_take (sel : Nat → Bool) (xs : List DSectorWrite) (j : Nat) (h : j < xs.length) : kept sel (xs.take (j + 1)) = kept sel (xs.take j) ++ (if sel j then [xs[j]] else []) := by
  rw [List.take_succ_eq_append_getElem h]
  unfold kept
  rw [List.zipIdx_append, List.filter_append, List.map_append]
  congr 1
  simp [Nat.min_eq_left (Nat.le_of_lt h)]
  split <;> simp_all
theorem kept_all (xs : List DSectorWrite) : kept (fun _ => true) xs = xs := by
  unfold kept
  rw [List.filter_eq_self.2 (by simp)]
  exact List.zipIdx_map_fst 0 xs
theorem kept_mem {sel : Nat → Bool} {xs : List DSectorWrite} {x : DSectorWrite} (h : x ∈ kept sel xs) : x ∈ xs := by
  unfold kept at h
  simp only [List.mem_map, List.mem_filter] at h
  obtain ⟨p, ⟨hp, _⟩, rfl⟩ := h
  exact (List.mem_zipIdx hp).2.2 ▸ List.getElem_mem _
theorem settleL_snoc (dur : List Int) (xs : List DSectorWrite) (x : DSectorWrite) : settleL dur (xs ++ [x]) = put1 (settleL dur xs) x := by simp [settleL]
theorem ok_kept {sel : Nat → Bool} {xs : List DSectorWrite} {n : Nat} (h : xs.all (okW n) = true) (j : Nat) : ∀ x ∈ kept sel (xs.take j), okW n x = true := fun x hx =>
  List.all_eq_true.1 h x (List.mem_of_mem_take (kept_mem hx))
end Go.Proofs.Ytdjcfcgkldokgaa
