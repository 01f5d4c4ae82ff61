/- Lists of Holds: slices.Insert of one element. -/
import Derived.Test.YtildfjlekplgjaaM2
namespace Go.Proofs.Ytildfjlekplgjaa
open Go.RowKit
set_option linter.unusedSimpArgs false
set_option linter.unusedVariables false
set_option maxRecDepth 100000 in
set_option maxHeartbeats 4000000 in
theorem holdInsert_calls (w : World) (n0 : Nat) (v : Value) (xs : List DHold) (hown : Own Rep.Hold 75 n0 w v xs) (hlen : xs.length ≤ 1048576) (i : Nat) (hi : i ≤ xs.length) (x : DHold) (hx : wfHold x) (vb : Nat)
    (hvb : w.heap[vb]? = some (.cells #[.int .i64 x.Id, .int .i64 x.Txn, .int .i64 x.Most] 75 (0, 0))) (hne : ∀ g, v.ownBlock = some g → vb ≠ g) (F : List Nat) (hF : ∀ g, v.ownBlock = some g → g ∈ F) :
    Calls Try.prog 59 #[v, .int .i64 i, .slice (some ⟨vb, 0, none⟩) 1 1] w fun e w' => ∃ v', e = .returned v' ∧ Own Rep.Hold 75 n0 w' v' (xs.take i ++ x :: xs.drop i) ∧ Only F w w' := by
  obtain ⟨i0, hi0, hz0, hzs, hzb⟩ := info_parts info75
  obtain ⟨hwf, hrow⟩ := own_holds_inv hown
  have hle := hown.le
  have hwn : ∀ y ∈ xs.take i ++ x :: xs.drop i, wfHold y := by
    intro y hy
    simp only [List.mem_append, List.mem_cons] at hy
    rcases hy with hy | rfl | hy
    · exact hwf y (List.mem_of_mem_take hy)
    · exact hx
    · exact hwf y (List.mem_of_mem_drop hy)
  have hfl : flat encHold (xs.take i ++ x :: xs.drop i) = (flat encHold xs).take (i * 3) ++ encHold x ++ (flat encHold xs).drop (i * 3) := by
    rw [flat_take encHold_len xs i hi, flat_drop encHold_len xs i hi, flat_append, flat_cons, List.append_assoc]
  have hln : (xs.take i ++ x :: xs.drop i).length = xs.length + 1 := by simp; omega
  have hvs : ∀ j u, (encHold x)[j]? = some u → w.cell? ((⟨vb, 0, none⟩ : Addr).add j) = some u := by
    intro j u hj
    have e3 : (⟨vb, 0, none⟩ : Addr).add j = ⟨vb, 0 + j, none⟩ := by unfold Addr.add; split <;> simp_all
    rw [e3, Nat.zero_add, cell_of_row _ _ _ _ _ _ hvb]
    simpa [encHold] using hj
  have h1v : ∀ u ∈ encHold x, u.oneCell' = true := by
    intro u hu
    simp [encHold] at hu
    rcases hu with rfl | rfl | rfl <;> rfl
  have h1c := flatHold_one xs
  have hcl := flat_len encHold_len xs
  have hvl : (encHold x).length = 3 := rfl
  by_cases hin : i = xs.length
  · subst hin
    rw [List.take_length, List.drop_length] at *
    rw [List.take_of_length_le (by omega), List.drop_of_length_le (by omega)] at hfl
    rcases hrow.2 with ⟨rfl, h0⟩ | ⟨g, cap, cur, rfl, hg, hh, hnc, hcm, hsz, htk⟩
    · have hx0 : xs = [] := List.eq_nil_of_length_eq_zero h0
      subst hx0
      go_enter Try.func59, Try.ntmps59
      go_wp2_with (at_builtin; refine wpList_append_own_at _ rfl _ _ 36 rfl n0 75 i0 _ 3 24 Try.underlying36 hi0 hz0 hzs hzb rfl (by decide) (.slice none 0 0) 0 (flat encHold []) rfl hrow ⟨vb, 0, none⟩ 1 1 (encHold x) rfl rfl hvs h1v (by unfold maxLen; omega) (by omega) hle ?_; intro v' w' hown' hgrow hnil2 hat)
      go_ret
      refine ⟨v', rfl, own_holds hwn ?_ ?_, (Only.refl F _).grown hgrow (fun g he hlt => by simp [Value.ownBlock] at he)⟩
      · simpa [flat] using hown'
      · have := hgrow.size; omega
    · have hb1 : ((xs.length : Int)) ≤ (cap : Int) := by omega
      go_enter Try.func59, Try.ntmps59
      go_wp2_with (at_builtin; refine wpList_append_own_at _ rfl _ _ 36 rfl n0 75 i0 _ 3 24 Try.underlying36 hi0 hz0 hzs hzb rfl (by decide) (.slice (some ⟨g, 0, none⟩) xs.length cap) xs.length (flat encHold xs) rfl hrow ⟨vb, 0, none⟩ 1 1 (encHold x) rfl rfl hvs h1v (by unfold maxLen; omega) (by omega) hle ?_; intro v' w' hown' hgrow hnil2 hat)
      all_goals
        go_ret
        refine ⟨v', rfl, own_holds hwn ?_ ?_, (Only.refl F _).grown hgrow (fun g' he hlt => hF g' he)⟩
        · rw [hfl, hln]; simpa using hown'
        · have := hgrow.size; omega
  · have hlt : i < xs.length := by omega
    rcases hrow.2 with ⟨rfl, h0⟩ | ⟨g, cap, cur, rfl, hg, hh, hnc, hcm, hsz, htk⟩
    · omega
    have hgF : g ∈ F := hF g rfl
    have hvg : vb ≠ g := hne g rfl
    have hsz3 : (Try.prog.info? 75).map (·.size) = some 3 := by rw [hi0]; simp [hzs]
    have hgl : g < w.heap.size := (Array.getElem?_eq_some_iff.1 hh).1
    have hvl2 : vb < w.heap.size := (Array.getElem?_eq_some_iff.1 hvb).1
    unfold maxLen at hcm
    have hcs : ∀ j u, (flat encHold xs)[j]? = some u → w.cell? ⟨g, j, none⟩ = some u := by
      intro j u hj
      have hjl := (List.getElem?_eq_some_iff.1 hj).1
      rw [cell_of_row _ _ _ _ _ _ hh, ← hj, ← htk, List.getElem?_take, if_pos (by omega)]
      simp
    by_cases hroom : cap < xs.length + 1
    · obtain rfl : cap = xs.length := by omega
      have hold : (Builtin.firstCells i0.size i (.slice (some ⟨g, 0, none⟩) i xs.length)).run Try.prog w.drew = .ok ((flat encHold xs).take (i * 3)).toArray w.drew := by
        rw [hzs]
        exact run_firstCells_some w.drew 3 i ⟨g, 0, none⟩ i xs.length ((flat encHold xs).take (i * 3)) (by rw [List.length_take]; omega) (fun j u hj => by
          rw [Addr.add_lit, Nat.zero_add]
          rw [List.getElem?_take] at hj
          split at hj
          · exact hcs j u hj
          · cases hj)
      have hkk : (xs.length : Int) + 1 - (i : Int) = ((xs.length + 1 - i : Nat) : Int) := by omega
      have hik : i + (xs.length + 1 - i) = xs.length + 1 := by omega
      have hbytes : Builtin.nextslicecap (xs.length + 1) xs.length * 24 ≤ 281474976710656 := growslice_fits (by omega) (by omega)
      have hrz : ∀ ty, (Builtin.append_ #[36, 3] ty #[.slice (some ⟨g, 0, none⟩) i xs.length, .int .i64 ((xs.length : Int) + 1 - (i : Int))]).run Try.prog w =
          .ok (.slice (some ⟨w.heap.size, 0, none⟩) (xs.length + 1) (grownCap w (xs.length + 1) xs.length 75)) (w.drew.alloc (.cells (((flat encHold xs).take (i * 3)).toArray ++ Builtin.zeroCells (Value.agg #[.int .i64 0, .int .i64 0, .int .i64 0]).cells (xs.length + 1 - i) ++ Builtin.zeroCells (Value.agg #[.int .i64 0, .int .i64 0, .int .i64 0]).cells (grownCap w (xs.length + 1) xs.length 75 - (xs.length + 1))) 75)) := fun ty => by
        have h := Lib.run_append_grow_zeros w 36 3 ty 75 i0 _ .i64 .i64 Try.underlying36 Try.underlying3 hi0 hz0 (some ⟨g, 0, none⟩) i xs.length ((flat encHold xs).take (i * 3)) hold (xs.length + 1 - i) (by omega) (by omega) (by omega) (by omega) (by rw [hzb]; omega) (by rw [hzb, hik]; exact hbytes)
        rw [hik] at h
        rw [hkk]
        exact h
      obtain ⟨G, hG⟩ : ∃ G, G = grownCap w (xs.length + 1) xs.length 75 := ⟨_, rfl⟩
      obtain ⟨ROW, hROW⟩ : ∃ ROW : Array Value, ROW = ((flat encHold xs).take (i * 3)).toArray ++ Builtin.zeroCells (Value.agg #[.int .i64 0, .int .i64 0, .int .i64 0]).cells (xs.length + 1 - i) ++ Builtin.zeroCells (Value.agg #[.int .i64 0, .int .i64 0, .int .i64 0]).cells (G - (xs.length + 1)) := ⟨_, rfl⟩
      have hGn : xs.length + 1 ≤ G := by rw [hG]; exact grownCap_ge w _ _ _
      have hGm : G ≤ maxLen := by rw [hG]; exact grownCap_le_maxLen w (xs.length + 1) xs.length 75 (by unfold maxLen; omega)
      rw [← hG] at hrz
      rw [← hROW] at hrz
      have hz3 : ∀ n, (Builtin.zeroCells (Value.agg #[.int .i64 0, .int .i64 0, .int .i64 0]).cells n).size = n * 3 := fun n => by
        simp [Builtin.zeroCells, Value.cells]
      have hRs : ROW.size = G * 3 := by
        rw [hROW, Array.size_append, Array.size_append, hz3, hz3]
        simp [hcl]; omega
      have hRp : ROW.toList.take (i * 3) = (flat encHold xs).take (i * 3) := by
        rw [hROW, Array.toList_append, Array.toList_append, List.append_assoc, List.take_left']
        simp [hcl]; omega
      clear hROW hG hold
      obtain ⟨W1, hW1⟩ : ∃ W1, W1 = w.drew.alloc (.cells ROW 75) := ⟨_, rfl⟩
      have hW1h : W1.heap[w.heap.size]? = some (.cells ROW 75 (0, 0)) := by rw [hW1]; exact heap_alloc_new w.drew _
      have hE1 : Ext w W1 := by rw [hW1]; exact (Only.refl [] w).drew.alloc _
      rw [← hW1] at hrz
      have hN : ∀ j, j < G * 3 → (W1.cell? ⟨w.heap.size, j, none⟩).isSome = true := fun j hj => by
        rw [cell_of_row _ _ _ _ _ _ hW1h, Array.getElem?_eq_getElem (by omega)]; rfl
      have hNf : ∀ j, W1.frozen? ⟨w.heap.size, j, none⟩ = false := fun j => frozen_of_row _ _ _ _ _ hW1h
      have hOv : ∀ j u, (encHold x)[j]? = some u → W1.cell? ((⟨vb, 0, none⟩ : Addr).add j) = some u := fun j u hj => hE1.ecell (hvs j u hj)
      have hcpA : ∀ (W : World), (∀ x, W.cell? x = W1.cell? x) → (∀ x, W.frozen? x = W1.frozen? x) → ∀ ty dc, (Builtin.copy_ #[36, 36] ty #[.slice (some ⟨w.heap.size, i * 3, none⟩) (xs.length + 1 - i) dc, .slice (some ⟨vb, 0, none⟩) 1 1]).run Try.prog W = .ok (goInt 1) (W.setCells w.heap.size (i * 3) (encHold x)) := fun W hWc hWf ty dc =>
        run_copy_rows W _ _ ty 75 3 w.heap.size (i * 3) (xs.length + 1 - i) dc ⟨vb, 0, none⟩ 1 1 (encHold x) Try.underlying36 hsz3 1 (by simp only [Nat.min_def]; split <;> omega) (by rw [hvl])
          (fun j u hj => by rw [hWc]; exact hOv j u hj)
          (fun j hj => by rw [hWc]; exact hN _ (by omega)) (fun j hj => by rw [hWf]; exact hNf _) h1v
      have hdl : ((flat encHold xs).drop (i * 3)).length = (xs.length - i) * 3 := by rw [List.length_drop, hcl]; omega
      have hcpB : ∀ (W : World), (∀ y, W.cell? y = (W1.setCells w.heap.size (i * 3) (encHold x)).cell? y) → (∀ y, W.frozen? y = (W1.setCells w.heap.size (i * 3) (encHold x)).frozen? y) → ∀ ty dc sc, (Builtin.copy_ #[36, 36] ty #[.slice (some ⟨w.heap.size, (i + 1) * 3, none⟩) (xs.length + 1 - (i + 1)) dc, .slice (some ⟨g, i * 3, none⟩) (xs.length - i) sc]).run Try.prog W = .ok (goInt (xs.length - i : Nat)) (W.setCells w.heap.size ((i + 1) * 3) ((flat encHold xs).drop (i * 3))) := fun W hWc hWf ty dc sc =>
        run_copy_rows W _ _ ty 75 3 w.heap.size ((i + 1) * 3) (xs.length + 1 - (i + 1)) dc ⟨g, i * 3, none⟩ (xs.length - i) sc ((flat encHold xs).drop (i * 3)) Try.underlying36 hsz3 (xs.length - i) (by simp only [Nat.min_def]; split <;> omega) hdl
          (fun j u hj => by
            rw [Addr.add_lit, hWc, World.cell?_setCells_out _ _ _ _ _ (fun h _ => absurd h (by show g ≠ w.heap.size; omega))]
            exact hE1.ecell (hcs (i * 3 + j) u (by rwa [List.getElem?_drop] at hj)))
          (fun j hj => by rw [hWc]; exact isSome_setCells _ _ _ _ (fun t ht => hN _ (by simp only [hvl] at ht; omega)) _ (hN _ (by omega)))
          (fun j hj => by rw [hWf, World.frozen?_setCells]; exact hNf _) (fun u hu => h1c u (List.mem_of_mem_drop hu))
      have hfin : ∀ W2 : World, (∀ k : Nat, W2.heap[k]? = ((W1.setCells w.heap.size (i * 3) (encHold x)).setCells w.heap.size ((i + 1) * 3) ((flat encHold xs).drop (i * 3))).heap[k]?) → Only F w W2 → w.heap.size ≤ W2.heap.size → Own Rep.Hold 75 n0 W2 (.slice (some ⟨w.heap.size, 0, none⟩) (xs.length + 1) G) (xs.take i ++ x :: xs.drop i) := by
        intro W2 hW2 _ hs2
        have h2 := hW2 w.heap.size
        rw [heap_setCells _ _ _ _ _ _ (heap_setCells _ _ _ _ _ _ hW1h)] at h2
        refine own_holds hwn ?_ (by omega)
        refine ⟨flat_len encHold_len _, .inr ⟨w.heap.size, G, _, by rw [hln], hle, h2, by rw [hln]; exact hGn, hGm, by rw [size_arrSet, size_arrSet, hRs], ?_⟩⟩
        have := insert_up (flat encHold xs) (encHold x) (i * 3) ROW (by omega) (by rw [hcl, hvl]; omega) hRp
        rw [hcl, hvl] at this
        rw [hln, hfl, show (xs.length + 1) * 3 = xs.length * 3 + 3 by omega, ← this, show (i + 1) * 3 = i * 3 + 3 by omega]
      have HFIN := Lib.hid hfin
      subst hW1
      have hc1 : ∀ x, ((w.alloc (.cells ROW 75)).drew).cell? x = (w.drew.alloc (.cells ROW 75)).cell? x := fun x => rfl
      have hc2 : ∀ x, ((w.alloc (.cells ROW 75)).drew).frozen? x = (w.drew.alloc (.cells ROW 75)).frozen? x := fun x => rfl
      have hd1 : ∀ y, (((w.alloc (.cells ROW 75)).drew.setCells w.heap.size (i * 3) (encHold x)).drew).cell? y = ((w.drew.alloc (.cells ROW 75)).setCells w.heap.size (i * 3) (encHold x)).cell? y := fun y => rfl
      have hd2 : ∀ y, (((w.alloc (.cells ROW 75)).drew.setCells w.heap.size (i * 3) (encHold x)).drew).frozen? y = ((w.drew.alloc (.cells ROW 75)).setCells w.heap.size (i * 3) (encHold x)).frozen? y := fun y => rfl
      have hw1 : IntKind.i64.wrap ((i : Int) + 1) = (i : Int) + 1 := by rw [IntKind.wrap_i64]; omega
      have hw2 : IntKind.i64.wrap ((xs.length : Int) + 1) = (xs.length : Int) + 1 := by rw [IntKind.wrap_i64]; omega
      have hw3 : IntKind.i64.wrap ((xs.length : Int) + 1 - (i : Int)) = (xs.length : Int) + 1 - (i : Int) := by rw [IntKind.wrap_i64]; omega
      have hz2 : ¬ ((i : Int) = (xs.length : Int)) := by omega
      have hz3' : ((xs.length : Int)) < (xs.length : Int) + 1 := by omega
      have htn : ((i : Int) + 1).toNat = i + 1 := by omega
      have hb3 : (i : Int) ≤ (xs.length : Int) := by omega
      have hb1 : (0 : Int) ≤ (i : Int) + 1 := by omega
      have hGi : ¬ (G = i) := by omega
      have hGim : ¬ (G = i + 1) := by omega
      have hG63 : G ≤ 9223372036854775807 := by unfold maxLen at hGm; omega
      have hci : ¬ (xs.length = i) := by omega
      have mixed : Try.prog.follows .mixedOrders = true := by kernel_rfl
      clear hkk hik hcl hdl hRs hRp hh htk hrow hown hfl hln hfin hwn hvb
      go_enter Try.func59, Try.ntmps59
      go_wp2_with (first
        | (at_builtin; refine Lib.wpList_append_run _ rfl _ _ _ _ rfl _ _ rfl rfl _ _ (hrz _) ?_)
        | (at_builtin; refine wpList_copy_runI _ rfl _ _ 36 36 rfl _ _ rfl rfl (hcpA _ hc1 hc2 _ _) ?_)
        | (at_builtin; refine wpList_copy_runI _ rfl _ _ 36 36 rfl _ _ rfl rfl (hcpB _ (fun _ => rfl) (fun _ => rfl) _ _ _) ?_))
      go_region_law_o (refine step_copy_runI rfl _ _ 36 36 rfl (.slice (some ⟨w.heap.size, (i + 1) * 3, none⟩) (xs.length + 1 - (i + 1)) (G - (i + 1))) (.slice (some ⟨g, i * 3, none⟩) (xs.length - i) (xs.length - i)) (by simp [Act.eval, Act.put]) (by simp [Act.eval, Act.put]) (hcpB _ hd1 hd2 3 (G - (i + 1)) (xs.length - i)) ?_)
      go_wp2
      go_ret
      have hO : Only F w (((w.alloc (.cells ROW 75)).drew.setCells w.heap.size (i * 3) (encHold x)).drew.setCells w.heap.size ((i + 1) * 3) ((flat encHold xs).drop (i * 3))) :=
        (((Only.refl F w).alloc _).drew.cells (fun h => absurd h (Nat.lt_irrefl _)) _ _).drew.cells (fun h => absurd h (Nat.lt_irrefl _)) _ _
      exact ⟨_, rfl, HFIN.out _ (fun k => by rw [← drew_setCells]; rfl) hO hO.size, hO⟩
    · have hroom' : xs.length + 1 ≤ cap := by omega
      have hov : ∀ lb cb, (callFunc 74 #[.slice (some ⟨vb, 0, none⟩) 1 1, .slice (some ⟨g, (i + 1) * 3, none⟩) lb cb]).run Try.prog w = .ok (.value (.bool false)) w := fun lb cb => by
        rw [run_callFunc_extern Try.func74 (by kernel_rfl) (by kernel_rfl) (by kernel_rfl) (e := Extern.SlicesOverlaps.overlaps #[36, 36] #[4]) (by kernel_rfl),
          Lib.run_overlaps_apart w 36 4 75 Try.underlying36 3 (fun w => by kernel_rfl) ⟨vb, 0, none⟩ ⟨g, (i + 1) * 3, none⟩ 1 1 lb cb hvg 75 75 3 cur.size (by simp [World.shape?, hvb]) (by simp [World.shape?, hh]) (by omega) (frozen_of_row _ _ _ _ _ hvb) (frozen_of_row _ _ _ _ _ hvb)]
        rfl
      have hdl : ((flat encHold xs).drop (i * 3)).length = (xs.length - i) * 3 := by rw [List.length_drop, hcl]; omega
      have hN : ∀ j, j < cap * 3 → (w.cell? ⟨g, j, none⟩).isSome = true := fun j hj => by
        rw [cell_of_row _ _ _ _ _ _ hh, Array.getElem?_eq_getElem (by omega)]; rfl
      have hNf : ∀ j, w.frozen? ⟨g, j, none⟩ = false := fun j => frozen_of_row _ _ _ _ _ hh
      have hcp1 : ∀ ty dc sc, (Builtin.copy_ #[36, 36] ty #[.slice (some ⟨g, (i + 1) * 3, none⟩) (xs.length + 1 - (i + 1)) dc, .slice (some ⟨g, i * 3, none⟩) (xs.length + 1 - i) sc]).run Try.prog w.drew = .ok (goInt (xs.length - i : Nat)) (w.drew.setCells g ((i + 1) * 3) ((flat encHold xs).drop (i * 3))) := fun ty dc sc =>
        run_copy_rows w.drew _ _ ty 75 3 g ((i + 1) * 3) (xs.length + 1 - (i + 1)) dc ⟨g, i * 3, none⟩ (xs.length + 1 - i) sc ((flat encHold xs).drop (i * 3)) Try.underlying36 hsz3 (xs.length - i) (by simp only [Nat.min_def]; split <;> omega) hdl
          (fun j u hj => by rw [Addr.add_lit]; exact hcs (i * 3 + j) u (by rwa [List.getElem?_drop] at hj))
          (fun j hj => hN _ (by omega)) (fun j hj => hNf _) (fun u hu => h1c u (List.mem_of_mem_drop hu))
      obtain ⟨W1, hW1⟩ : ∃ W1, W1 = w.drew.setCells g ((i + 1) * 3) ((flat encHold xs).drop (i * 3)) := ⟨_, rfl⟩
      have hsp1 : ∀ k, k < cap * 3 → (W1.cell? ⟨g, k, none⟩).isSome = true := fun k hk => by
        rw [hW1]
        exact isSome_setCells g ((flat encHold xs).drop (i * 3)) ((i + 1) * 3) w.drew (fun j hj => hN _ (by rw [hdl] at hj; omega)) k (hN k hk)
      have hcp2 : ∀ (W : World), (∀ x, W.cell? x = W1.cell? x) → (∀ x, W.frozen? x = W1.frozen? x) → ∀ ty dc, (Builtin.copy_ #[36, 36] ty #[.slice (some ⟨g, i * 3, none⟩) (xs.length + 1 - i) dc, .slice (some ⟨vb, 0, none⟩) 1 1]).run Try.prog W = .ok (goInt 1) (W.setCells g (i * 3) (encHold x)) := fun W hWc hWf ty dc =>
        run_copy_rows W _ _ ty 75 3 g (i * 3) (xs.length + 1 - i) dc ⟨vb, 0, none⟩ 1 1 (encHold x) Try.underlying36 hsz3 1 (by simp only [Nat.min_def]; split <;> omega) (by rw [hvl])
          (fun j u hj => by
            rw [hWc, hW1, World.cell?_setCells_out g _ _ _ _ (fun h _ => absurd h (by rw [Addr.add_lit]; exact hvg))]
            exact hvs j u hj)
          (fun j hj => by rw [hWc]; exact hsp1 _ (by omega)) (fun j hj => by rw [hWf, hW1, World.frozen?_setCells]; exact hNf _) h1v
      have hO : Only F w ((w.drew.setCells g ((i + 1) * 3) ((flat encHold xs).drop (i * 3))).setCells g (i * 3) (encHold x)) :=
        ((Only.refl F w).drew.cells (fun _ => hgF) _ _).cells (fun _ => hgF) _ _
      have hO2 : Only F w ((w.drew.setCells g ((i + 1) * 3) ((flat encHold xs).drop (i * 3))).drew.setCells g (i * 3) (encHold x)) :=
        ((Only.refl F w).drew.cells (fun _ => hgF) _ _).drew.cells (fun _ => hgF) _ _
      have hfin : ∀ W2 : World, (∀ k : Nat, W2.heap[k]? = ((w.drew.setCells g ((i + 1) * 3) ((flat encHold xs).drop (i * 3))).setCells g (i * 3) (encHold x)).heap[k]?) → w.heap.size ≤ W2.heap.size → Own Rep.Hold 75 n0 W2 (.slice (some ⟨g, 0, none⟩) (xs.length + 1) cap) (xs.take i ++ x :: xs.drop i) := by
        intro W2 hW2 hs2
        have h2 := hW2 g
        rw [heap_setCells _ _ _ _ _ _ (heap_setCells _ _ _ _ _ _ (show w.drew.heap[g]? = _ from hh))] at h2
        refine own_holds hwn ?_ (by omega)
        refine ⟨flat_len encHold_len _, .inr ⟨g, cap, _, by rw [hln], hg, h2, by rw [hln]; exact hroom', by unfold maxLen; omega, by rw [size_arrSet, size_arrSet, hsz], ?_⟩⟩
        have := insert_down (flat encHold xs) (encHold x) (i * 3) cur (by omega) (by rw [hcl, hvl]; omega) (by rw [← htk, List.take_take, Nat.min_eq_left (by omega)])
        rw [hcl, hvl] at this
        rw [hln, hfl, show (xs.length + 1) * 3 = xs.length * 3 + 3 by omega, ← this, show (i + 1) * 3 = i * 3 + 3 by omega]
      have HFIN := Lib.hid hfin
      rw [← hW1] at hcp1
      have HW1 := Lib.hid hW1; have HO := Lib.hid hO; have HO2 := Lib.hid hO2
      have hw1 : IntKind.i64.wrap ((i : Int) + 1) = (i : Int) + 1 := by rw [IntKind.wrap_i64]; omega
      have hw2 : IntKind.i64.wrap ((xs.length : Int) + 1) = (xs.length : Int) + 1 := by rw [IntKind.wrap_i64]; omega
      have hz2 : ¬ ((i : Int) = (xs.length : Int)) := by omega
      have hz3' : ¬ ((cap : Int)) < (xs.length : Int) + 1 := by omega
      have htn : ((i : Int) + 1).toNat = i + 1 := by omega
      have htn2 : ((xs.length : Int) + 1).toNat = xs.length + 1 := by omega
      have hb1 : (0 : Int) ≤ (i : Int) + 1 := by omega
      have hb2 : ¬ (cap = i + 1) := by omega
      have hb3 : (i : Int) ≤ (xs.length : Int) + 1 := by omega
      have hb4 : ¬ (cap = i) := by omega
      have hb5 : (i : Int) ≤ (xs.length : Int) := by omega
      have mixed : Try.prog.follows .mixedOrders = true := by kernel_rfl
      clear hcl hdl hh htk hrow hown hfl hln hfin hwn hvb hW1 hO hO2 hwf h1c hN hNf hsp1 hcs
      go_enter Try.func59, Try.ntmps59
      go_wp2_with (simp only [hov])
      go_region_law_o (refine step_copy_runI rfl _ _ 36 36 rfl (.slice (some ⟨g, (i + 1) * 3, none⟩) (xs.length + 1 - (i + 1)) (cap - (i + 1))) (.slice (some ⟨g, i * 3, none⟩) (xs.length + 1 - i) (cap - i)) (by simp [Act.eval, Act.put]) (by simp [Act.eval, Act.put]) (hcp1 3 (cap - (i + 1)) (cap - i)) ?_)
      go_wp2_with (at_builtin; refine wpList_copy_runI _ rfl _ _ 36 36 rfl _ _ rfl rfl (hcp2 _ (fun _ => rfl) (fun _ => rfl) _ _) ?_)
      go_ret
      rw [HW1.out]
      exact ⟨_, rfl, HFIN.out _ (fun k => rfl) HO.out.size, HO.out⟩
end Go.Proofs.Ytildfjlekplgjaa
