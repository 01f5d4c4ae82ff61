/- FnDisk: plain: operations in two parts; what a sync and a crash leave of each sector. -/
import Derived.Test.YtdjcfcgkldokgaaD18
import Derived.Test.YtdjcfcgkldokgaaE1
namespace Go.Proofs.Ytdjcfcgkldokgaa
set_option linter.unusedSimpArgs false
set_option linter.unusedVariables false
theorem runOps_whole {d : DDisk} (h : validDisk d = true) (ops : List DOp) : runOps d ops (-1) = ⟨true, ops.length, ops.foldl doOp d⟩ := by
  have e : runN (-1) ops.length = ops.length := by unfold runN; rw [if_neg (by omega)]
  unfold runOps stepD
  rw [e, h, if_pos rfl, List.take_length]
  simp
theorem runOps_part {d : DDisk} (h : validDisk d = true) (ops : List DOp) (k : Nat) (hk : k ≤ ops.length) : runOps d ops k = ⟨decide (k = ops.length), k, (ops.take k).foldl doOp d⟩ := by
  have e : runN (k : Int) ops.length = k := by
    unfold runN
    split
    · simp
    · rename_i hc
      have : k = ops.length := by omega
      exact this.symm
  have e2 : (!(decide ((0 : Int) ≤ k ∧ (k : Int) < ops.length))) = decide (k = ops.length) := by
    by_cases hc : k = ops.length
    · simp [hc]
    · have : (k : Int) < ops.length := by omega
      simp [hc, this]
  unfold runOps stepD
  rw [e, e2, h, if_pos rfl]
theorem ops_two (d : DDisk) (ops : List DOp) (k : Nat) : (ops.drop k).foldl doOp ((ops.take k).foldl doOp d) = ops.foldl doOp d := by
  rw [← List.foldl_append, List.take_append_drop]
/-- A sector of the bytes. -/
def sect (L : List Int) (i : Nat) : List Int := (L.drop (i * 512)).take 512
theorem splice_off' {α : Type} (L : List α) (o : Nat) (cs : List α) (h : o + cs.length ≤ L.length) (i n : Nat) (hd : i + n ≤ o ∨ o + cs.length ≤ i) : ((splice L o cs).drop i).take n = (L.drop i).take n := by
  refine List.ext_getElem? fun j => ?_
  rw [List.getElem?_take, List.getElem?_take]
  split
  · rw [List.getElem?_drop, List.getElem?_drop, splice_at _ _ _ h, if_neg (by omega)]
  · rfl
theorem splice_on' {α : Type} (L : List α) (o : Nat) (cs : List α) (h : o + cs.length ≤ L.length) : ((splice L o cs).drop o).take cs.length = cs := by
  refine List.ext_getElem? fun j => ?_
  rw [List.getElem?_take]
  split
  · rw [List.getElem?_drop, splice_at _ _ _ h, if_pos (by omega)]
    congr 1; omega
  · rename_i hj
    rw [List.getElem?_eq_none (by omega)]
theorem put1_sect {dur : List Int} {x : DSectorWrite} (h : okW (dur.length / 512) x = true) (i : Nat) : sect (put1 dur x) i = if x.Sector = i then x.Data else sect dur i := by
  obtain ⟨h1, h2, h3⟩ := okW_room (n := 0) h
  unfold sect put1
  by_cases hc : x.Sector = i
  · rw [if_pos hc, hc, Int.toNat_natCast]
    have := splice_on' dur (i * 512) x.Data (by rw [hc, Int.toNat_natCast] at h3; omega)
    rwa [h1] at this
  · rw [if_neg hc]
    exact splice_off' dur _ x.Data (by omega) _ _ (by omega)
/-- The data of the last chosen write to sector i among the first j; was: none. -/
def lastUp (P : List DSectorWrite) (sel : Nat → Bool) (i : Nat) (was : List Int) : Nat → List Int
  | 0 => was
  | j + 1 => match P[j]? with
    | some x => if x.Sector = i ∧ sel j = true then x.Data else lastUp P sel i was j
    | none => lastUp P sel i was j
theorem lastUp_next {P : List DSectorWrite} (sel : Nat → Bool) (i : Nat) (was : List Int) (j : Nat) (h : j < P.length) : lastUp P sel i was (j + 1) = if P[j].Sector = i ∧ sel j = true then P[j].Data else lastUp P sel i was j := by
  simp [lastUp, h]
theorem kept_none (sel : Nat → Bool) : kept sel [] = [] := rfl
theorem settle_sect {dur : List Int} {P : List DSectorWrite} (sel : Nat → Bool) (h : ∀ x ∈ P, okW (dur.length / 512) x = true) (i : Nat) : ∀ j, j ≤ P.length → sect (settleL dur (kept sel (P.take j))) i = lastUp P sel i (sect dur i) j
  | 0, _ => rfl
  | j + 1, hj => by
    have ih := settle_sect sel h i j (by omega)
    have hlen : (settleL dur (kept sel (P.take j))).length = dur.length := settleL_len _ _ (fun x hx => h x (List.mem_of_mem_take (kept_mem hx)))
    rw [kept_take sel P j (by omega), lastUp_next sel i _ j (by omega)]
    by_cases hs : sel j = true
    · rw [if_pos hs, settleL_snoc, put1_sect (by rw [hlen]; exact h _ (List.getElem_mem (by omega)))]
      by_cases hc : P[j].Sector = i
      · rw [if_pos hc, if_pos ⟨hc, hs⟩]
      · rw [if_neg hc, if_neg (fun e => hc e.1), ih]
    · rw [if_neg hs, List.append_nil, if_neg (fun e => hs e.2), ih]
theorem seen_last (d : DDisk) (i : Nat) : ∀ j, j ≤ d.Pending.length → (seenAt d.Pending i j).getD (sect d.Durable i) = lastUp d.Pending (fun _ => true) i (sect d.Durable i) j
  | 0, _ => rfl
  | j + 1, hj => by
    have ih := seen_last d i j (by omega)
    rw [lastUp_next _ _ _ j (by omega)]
    by_cases hc : d.Pending[j].Sector = i
    · rw [if_pos ⟨hc, rfl⟩, seenAt_hit (by omega) hc]; rfl
    · rw [if_neg (fun e => hc e.1), seenAt_miss (by omega) hc, ih]
theorem seenL_last (d : DDisk) (i : Nat) : seenL d i = lastUp d.Pending (fun _ => true) i (sect d.Durable i) d.Pending.length := by
  rw [← seen_last d i _ (Nat.le_refl _)]
  unfold seenL sect
  rw [Int.toNat_natCast]
theorem sync_sect {d : DDisk} (h : validDisk d = true) (i : Nat) : sect (diskSync d).Durable i = lastUp d.Pending (fun _ => true) i (sect d.Durable i) d.Pending.length := by
  have hv := valid_facts h
  have := settle_sect (dur := d.Durable) (P := d.Pending) (fun _ => true) (fun x hx => List.all_eq_true.1 hv.2.2.2.2 x hx) i d.Pending.length (Nat.le_refl _)
  rw [List.take_length, kept_all] at this
  unfold diskSync
  rw [if_pos h]
  exact this
theorem crash_sect {d : DDisk} (h : validDisk d = true) (keep : List Int) (i : Nat) : sect (diskCrash d keep).Durable i = lastUp d.Pending (selOf false keep) i (sect d.Durable i) d.Pending.length := by
  have hv := valid_facts h
  have := settle_sect (dur := d.Durable) (P := d.Pending) (selOf false keep) (fun x hx => List.all_eq_true.1 hv.2.2.2.2 x hx) i d.Pending.length (Nat.le_refl _)
  rw [List.take_length] at this
  unfold diskCrash
  rw [if_pos h]
  exact this
theorem sync_room {d : DDisk} (h : validDisk d = true) : (diskSync d).Durable.length = d.Durable.length ∧ (diskSync d).Pending = [] := by
  have hv := valid_facts h
  unfold diskSync
  rw [if_pos h]
  exact ⟨settleL_len _ _ (fun x hx => List.all_eq_true.1 hv.2.2.2.2 x hx), rfl⟩
theorem crash_room {d : DDisk} (h : validDisk d = true) (keep : List Int) : (diskCrash d keep).Durable.length = d.Durable.length ∧ (diskCrash d keep).Pending = [] := by
  have hv := valid_facts h
  unfold diskCrash
  rw [if_pos h]
  exact ⟨settleL_len _ _ (fun x hx => List.all_eq_true.1 hv.2.2.2.2 x (kept_mem hx)), rfl⟩
end Go.Proofs.Ytdjcfcgkldokgaa
