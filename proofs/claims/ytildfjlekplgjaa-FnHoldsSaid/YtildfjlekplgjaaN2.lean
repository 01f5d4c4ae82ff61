/- Locks: the data laws, as the reference goes and as the program goes. Plain. -/
import Derived.Test.YtildfjlekplgjaaN1
import Derived.Test.YtildfjlekplgjaaFLockResult
namespace Go.Proofs.Ytildfjlekplgjaa
open Go.RowKit
set_option linter.unusedSimpArgs false
set_option linter.unusedVariables false
/-- Neighbours. -/
def adjL {α : Type} (q : α → α → Bool) : List α → Bool
  | a :: b :: l => q a b && adjL q (b :: l)
  | _ => true
section
variable {α : Type} {q : α → α → Bool}
theorem adjL_up : ∀ {xs : List α}, adjL q xs = true → ∀ j (hj : j + 1 < xs.length), q xs[j] xs[j + 1] = true
  | a :: b :: l, h, 0, _ => by simp [adjL] at h; exact h.1
  | a :: b :: l, h, j + 1, hj => by
    simp [adjL] at h
    exact adjL_up (xs := b :: l) h.2 j (by simpa using hj)
  | [a], _, j, hj => by simp at hj
  | [], _, j, hj => by simp at hj
theorem adjL_of : ∀ {xs : List α}, (∀ j (hj : j + 1 < xs.length), q xs[j] xs[j + 1] = true) → adjL q xs = true
  | a :: b :: l, h => by
    simp only [adjL, Bool.and_eq_true]
    exact ⟨h 0 (by simp), adjL_of (xs := b :: l) fun j hj => h (j + 1) (by simpa using hj)⟩
  | [a], _ => rfl
  | [], _ => rfl
theorem adjL_bad {xs : List α} (k : Nat) (hk : k + 1 < xs.length) (h : q xs[k] xs[k + 1] = false) : adjL q xs = false := by
  cases ho : adjL q xs
  · rfl
  · rw [adjL_up ho k hk] at h; cases h
theorem adjL_tail {a : α} {l : List α} (h : adjL q (a :: l) = true) : adjL q l = true := by
  cases l with
  | nil => rfl
  | cons b l => simp only [adjL, Bool.and_eq_true] at h; exact h.2
end
def lockOK (l : DLock) : Bool := inR l.Id 0 511 && inR l.Txn 1 2147483647 && inR l.Mode 1 2
def lkLt (a b : DLock) : Bool := decide (a.Id < b.Id) || (decide (a.Id = b.Id) && decide (a.Txn < b.Txn))
def lkFit (a b : DLock) : Bool := !(decide (a.Id = b.Id) && (decide (a.Mode = 2) || decide (b.Mode = 2)))
def locksFault (xs : List DLock) : Int := if 4096 < xs.length then 1 else if xs.all lockOK = false then 2 else if adjL lkLt xs = false then 3 else if adjL lkFit xs = false then 4 else 0
theorem locksFault_parts {xs : List DLock} (h : locksFault xs = 0) : xs.length ≤ 4096 ∧ xs.all lockOK = true ∧ adjL lkLt xs = true ∧ adjL lkFit xs = true := by
  unfold locksFault at h
  split at h
  · cases h
  rename_i h1
  split at h
  · cases h
  rename_i h2
  split at h
  · cases h
  rename_i h3
  split at h
  · cases h
  rename_i h4
  exact ⟨by omega, by simpa using h2, by simpa using h3, by simpa using h4⟩
/-- The mode of a lock (0: none); the most of the others' modes. -/
def modeStep (txn id : Int) (other : Bool) (m : Int) (l : DLock) : Int := if l.Id = id ∧ decide (l.Txn = txn) ≠ other then max m l.Mode else m
def modeL (xs : List DLock) (txn id : Int) (other : Bool) : Int := xs.foldl (modeStep txn id other) 0
def modeUp (xs : List DLock) (txn id : Int) (other : Bool) (k : Nat) : Int := (xs.take k).foldl (modeStep txn id other) 0
theorem modeUp_next (xs : List DLock) (txn id : Int) (other : Bool) (k : Nat) (hk : k < xs.length) : modeUp xs txn id other (k + 1) = modeStep txn id other (modeUp xs txn id other k) xs[k] := by
  unfold modeUp
  rw [List.take_succ_eq_append_getElem hk, List.foldl_append]
  rfl
theorem modeUp_all (xs : List DLock) (txn id : Int) (other : Bool) : modeUp xs txn id other xs.length = modeL xs txn id other := by unfold modeUp modeL; rw [List.take_length]
theorem lockOK_iff {l : DLock} : lockOK l = true ↔ (0 ≤ l.Id ∧ l.Id ≤ 511) ∧ (1 ≤ l.Txn ∧ l.Txn ≤ 2147483647) ∧ 1 ≤ l.Mode ∧ l.Mode ≤ 2 := by
  simp [lockOK, inR, and_assoc]
theorem lkLt_iff {a b : DLock} : lkLt a b = true ↔ a.Id < b.Id ∨ a.Id = b.Id ∧ a.Txn < b.Txn := by simp [lkLt]
theorem lkLt_trans {a b c : DLock} (h : lkLt a b = true) (k : lkLt b c = true) : lkLt a c = true := by
  rw [lkLt_iff] at *; omega
theorem lkLt_all : ∀ {a : DLock} {l : List DLock}, adjL lkLt (a :: l) = true → ∀ x ∈ l, lkLt a x = true
  | a, [], _, x, hx => by cases hx
  | a, b :: l, h, x, hx => by
    simp only [adjL, Bool.and_eq_true] at h
    rcases List.mem_cons.1 hx with rfl | hx
    · exact h.1
    · exact lkLt_trans h.1 (lkLt_all h.2 x hx)
/-- In a list in order the mode of the first that fits is the mode. -/
theorem modeL_skip (txn id : Int) (m : Int) : ∀ (xs : List DLock), (∀ x ∈ xs, ¬ (x.Id = id ∧ x.Txn = txn)) → xs.foldl (modeStep txn id false) m = m
  | [], _ => rfl
  | x :: xs, h => by
    have h0 := h x (by simp)
    have e : modeStep txn id false m x = m := by
      unfold modeStep
      rw [if_neg]
      rintro ⟨h1, h2⟩
      exact h0 ⟨h1, by simpa using h2⟩
    rw [List.foldl_cons, e]
    exact modeL_skip txn id m xs fun y hy => h y (by simp [hy])
theorem modeL_hit {xs : List DLock} (ho : adjL lkLt xs = true) (hok : xs.all lockOK = true) (txn id : Int) (k : Nat) (hk : k < xs.length) (h1 : xs[k].Id = id) (h2 : xs[k].Txn = txn) : modeL xs txn id false = xs[k].Mode := by
  induction xs generalizing k with
  | nil => cases hk
  | cons a l ih =>
    simp only [List.all_cons, Bool.and_eq_true] at hok
    cases k with
    | zero =>
      simp only [List.getElem_cons_zero] at *
      have e : modeStep txn id false 0 a = a.Mode := by
        unfold modeStep
        rw [if_pos ⟨h1, by simp [h2]⟩]
        have := (lockOK_iff.1 hok.1).2.2
        omega
      rw [modeL, List.foldl_cons, e]
      refine modeL_skip txn id _ l fun x hx hh => ?_
      have := lkLt_iff.1 (lkLt_all ho x hx)
      omega
    | succ k =>
      have hkl : k < l.length := by simpa using hk
      simp only [List.getElem_cons_succ] at *
      have hx : l[k] ∈ l := by simp
      have hl := lkLt_iff.1 (lkLt_all ho _ hx)
      have e : modeStep txn id false 0 a = 0 := by
        unfold modeStep
        rw [if_neg]
        rintro ⟨h3, h4⟩
        have h5 : a.Txn = txn := by simpa using h4
        omega
      rw [modeL, List.foldl_cons, e]
      exact ih (adjL_tail ho) hok.2 k hkl h1 h2
theorem modeL_none {xs : List DLock} (txn id : Int) (h : ∀ j (hj : j < xs.length), ¬ (xs[j].Id = id ∧ xs[j].Txn = txn)) : modeL xs txn id false = 0 :=
  modeL_skip txn id 0 xs fun x hx => by
    obtain ⟨j, hj, rfl⟩ := List.getElem_of_mem hx
    exact h j hj
theorem fold_range (txn id : Int) (other : Bool) : ∀ (xs : List DLock) (m : Int), xs.all lockOK = true → 0 ≤ m ∧ m ≤ 2 → 0 ≤ xs.foldl (modeStep txn id other) m ∧ xs.foldl (modeStep txn id other) m ≤ 2
  | [], m, _, h => h
  | x :: xs, m, ho, h => by
    simp only [List.all_cons, Bool.and_eq_true] at ho
    rw [List.foldl_cons]
    refine fold_range txn id other xs _ ho.2 ?_
    have := (lockOK_iff.1 ho.1).2.2
    unfold modeStep
    split <;> omega
theorem modeL_range {xs : List DLock} (txn id : Int) (other : Bool) (h : xs.all lockOK = true) : 0 ≤ modeL xs txn id other ∧ modeL xs txn id other ≤ 2 := fold_range txn id other xs 0 h (by omega)
/-- Asking. -/
def isKey (txn id : Int) (l : DLock) : Bool := decide (l.Id = id) && decide (l.Txn = txn)
def before (txn id : Int) (l : DLock) : Bool := decide (l.Id < id) || (decide (l.Id = id) && decide (l.Txn < txn))
def after (txn id : Int) (l : DLock) : Bool := decide (id < l.Id) || (decide (l.Id = id) && decide (txn < l.Txn))
def askStep (txn id : Int) (new : DLock) (s : Bool × List DLock) (l : DLock) : Bool × List DLock :=
  if isKey txn id l = true then s else (s.1 || after txn id l, (if s.1 = false ∧ after txn id l = true then s.2 ++ [new] else s.2) ++ [l])
def askUp (xs : List DLock) (txn id : Int) (new : DLock) (k : Nat) : Bool × List DLock := (xs.take k).foldl (askStep txn id new) (false, [])
def askEnd (new : DLock) (s : Bool × List DLock) : List DLock := if s.1 = true then s.2 else s.2 ++ [new]
def askPut (xs : List DLock) (txn id : Int) (new : DLock) : List DLock := askEnd new (askUp xs txn id new xs.length)
theorem askUp_next (xs : List DLock) (txn id : Int) (new : DLock) (k : Nat) (hk : k < xs.length) : askUp xs txn id new (k + 1) = askStep txn id new (askUp xs txn id new k) xs[k] := by
  unfold askUp
  rw [List.take_succ_eq_append_getElem hk, List.foldl_append]
  rfl
theorem askUp_len (xs : List DLock) (txn id : Int) (new : DLock) : ∀ k, k ≤ xs.length → (askUp xs txn id new k).2.length ≤ 2 * k
  | 0, _ => by simp [askUp]
  | k + 1, hk => by
    rw [askUp_next xs txn id new k (by omega)]
    have := askUp_len xs txn id new k (by omega)
    unfold askStep
    split
    · omega
    · simp only [List.length_append]
      split <;> simp <;> omega
theorem ask_done (txn id : Int) (new : DLock) : ∀ (xs o : List DLock), xs.foldl (askStep txn id new) (true, o) = (true, o ++ xs.filter (fun l => !isKey txn id l))
  | [], o => by simp
  | h :: t, o => by
    rw [List.foldl_cons]
    by_cases hk : isKey txn id h = true
    · have e : askStep txn id new (true, o) h = (true, o) := by simp [askStep, hk]
      rw [e, ask_done txn id new t]; simp [hk]
    · have e : askStep txn id new (true, o) h = (true, o ++ [h]) := by simp [askStep, hk]
      rw [e, ask_done txn id new t]; simp [hk]
theorem ask_open (txn id : Int) (new : DLock) : ∀ (xs o : List DLock), askEnd new (xs.foldl (askStep txn id new) (false, o)) =
    o ++ (xs.filter (fun l => !isKey txn id l)).takeWhile (before txn id) ++ new :: (xs.filter (fun l => !isKey txn id l)).dropWhile (before txn id)
  | [], o => by simp [askEnd]
  | h :: t, o => by
    rw [List.foldl_cons]
    by_cases hk : isKey txn id h = true
    · have e : askStep txn id new (false, o) h = (false, o) := by simp [askStep, hk]
      rw [e, ask_open txn id new t]; simp [hk]
    · have hk' : isKey txn id h = false := by simpa using hk
      by_cases ha : after txn id h = true
      · have e : askStep txn id new (false, o) h = (true, o ++ [new] ++ [h]) := by simp [askStep, hk, ha]
        have hb : before txn id h = false := by
          simp [before, after] at *; omega
        rw [e, ask_done]
        simp [askEnd, hk', hb]
      · have e : askStep txn id new (false, o) h = (false, o ++ [h]) := by simp [askStep, hk, ha]
        have hb : before txn id h = true := by
          simp [before, after, isKey] at *; omega
        rw [e, ask_open txn id new t]
        simp [hk', hb]
theorem askPut_is (xs : List DLock) (txn id : Int) (new : DLock) : askPut xs txn id new = (xs.filter (fun l => !isKey txn id l)).takeWhile (before txn id) ++ new :: (xs.filter (fun l => !isKey txn id l)).dropWhile (before txn id) := by
  rw [askPut, askUp, List.take_length, ask_open, List.nil_append]
def askOK (xs : List DLock) (txn id mode : Int) : Bool := decide (locksFault xs = 0) && inR id 0 511 && inR txn 1 2147483647 && inR mode 1 2
def lockAsk (xs : List DLock) (txn id mode : Int) : DLockResult :=
  if askOK xs txn id mode = false then ⟨2, []⟩ else if modeL xs txn id false = 0 ∧ xs.length = 4096 then ⟨2, []⟩
  else if modeL xs txn id true = 2 ∨ modeL xs txn id true ≠ 0 ∧ mode = 2 then ⟨1, []⟩ else ⟨0, askPut xs txn id ⟨id, txn, max (modeL xs txn id false) mode⟩⟩
end Go.Proofs.Ytildfjlekplgjaa
