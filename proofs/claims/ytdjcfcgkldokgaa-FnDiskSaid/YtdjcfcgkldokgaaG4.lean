/- The draws: a new disk; bytes copied into bytes. -/
import Derived.Test.YtdjcfcgkldokgaaG2
import Derived.Test.YtdjcfcgkldokgaaG0
namespace Go.Proofs.Ytdjcfcgkldokgaa
open Go.RowKit
set_option linter.unusedSimpArgs false
set_option linter.unusedVariables false
theorem BB.setCells {g : Nat} : ∀ (ys : List Int) (o : Nat) (xs : List Int) (w : World), BB g xs w → (∀ y ∈ ys, (Lit.int .u8 y).wf = true) → ∃ zs, zs.length = xs.length ∧ BB g zs (w.setCells g o (ys.map (Value.int .u8)))
  | [], o, xs, w, h, _ => ⟨xs, rfl, h⟩
  | y :: ys, o, xs, w, h, hw => by
    obtain ⟨zs, h1, h2⟩ := BB.setCells ys (o + 1) _ _ (h.set o y (hw y (by simp))) (fun z hz => hw z (by simp [hz]))
    exact ⟨zs, by rw [h1, List.length_set], h2⟩
set_option maxRecDepth 100000 in
set_option maxHeartbeats 2000000 in
theorem newDisk_calls (w : World) (n : Nat) (h1 : 1 ≤ n) (h2 : n ≤ 1024) :
    Calls Try.prog 94 #[.int .i64 n] w fun e w' => ∃ g L, e = .returned (.agg #[.slice (some ⟨g, 0, none⟩) L L, .slice none 0 0]) ∧ Hid (L = n * 512) ∧ Hid (w.heap.size ≤ g) ∧ Hid (BB g (List.replicate L 0) w') ∧ Hid (Ext w w') := by
  have hu := Try.underlying29
  obtain ⟨L, hL⟩ : ∃ L, L = n * 512 := ⟨_, rfl⟩
  have q1 : IntKind.i64.wrap ((n : Int) * 512) = (L : Int) := by rw [hL, IntKind.wrap_i64] <;> omega
  have hmk := fun W => mk_bytesN W L (by omega)
  have b1 : ¬ (n : Int) < 1 := by omega
  have b2 : ¬ (1024 : Int) < (n : Int) := by omega
  have hL0 : ¬ (L : Int) < 0 := by omega
  have HL := Lib.hid hL
  clear hL
  go_enter Try.func94, Try.ntmps94
  go_wp2
  clear hmk
  refine bodyPost_ret (v := .agg #[.slice (some ⟨w.heap.size + 1, 0, none⟩) L L, .slice none 0 0]) (by simp [results, Try.results94, go_sem, World.cell?_alloc_at]) rfl ?_
  have hb := BB.made (w.alloc (.cells #[.slice (some ⟨w.heap.size + 1, 0, none⟩) L L, .slice none 0 0] 29)) L
  rw [show (w.alloc (.cells #[.slice (some ⟨w.heap.size + 1, 0, none⟩) L L, .slice none 0 0] 29)).heap.size = w.heap.size + 1 by simp] at hb
  exact ⟨w.heap.size + 1, L, rfl, HL, Lib.hid (by omega), Lib.hid hb, Lib.hid ((alloc_ext _ _).alloc _)⟩
end Go.Proofs.Ytdjcfcgkldokgaa
