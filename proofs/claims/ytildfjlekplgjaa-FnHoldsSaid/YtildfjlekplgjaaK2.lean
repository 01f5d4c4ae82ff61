/- HoldTake: the data law, as the reference goes and as the program goes. -/
import Derived.Test.YtildfjlekplgjaaK1
namespace Go.Proofs.Ytildfjlekplgjaa
open Go.RowKit
set_option linter.unusedSimpArgs false
set_option linter.unusedVariables false
def takeOK (xs : List DHold) (txn id b a : Int) : Bool := decide (holdsFault xs = 0) && inR txn 1 2147483647 && inR id 0 511 && inR b (-1) 1000 && inR a (-1) 1000
def takeNew (xs : List DHold) (txn id b a : Int) : DHold := ⟨id, txn, max (max (mostL xs id (-1)) 0) (max b a)⟩
def takeStep (id : Int) (new : DHold) (s : Bool × List DHold) (h : DHold) : Bool × List DHold :=
  (s.1 || decide (id ≤ h.Id), (if s.1 = false ∧ id ≤ h.Id then s.2 ++ [new] else s.2) ++ (if h.Id = id then [] else [h]))
def takeUp (xs : List DHold) (id : Int) (new : DHold) (k : Nat) : Bool × List DHold := (xs.take k).foldl (takeStep id new) (false, [])
def takeEnd (new : DHold) (s : Bool × List DHold) : List DHold := if s.1 = true then s.2 else s.2 ++ [new]
def holdTake (xs : List DHold) (txn id b a : Int) : List DHold := if takeOK xs txn id b a = true then takeEnd (takeNew xs txn id b a) (takeUp xs id (takeNew xs txn id b a) xs.length) else []
theorem takeUp_next (xs : List DHold) (id : Int) (new : DHold) (k : Nat) (hk : k < xs.length) : takeUp xs id new (k + 1) = takeStep id new (takeUp xs id new k) xs[k] := by
  unfold takeUp
  rw [List.take_succ_eq_append_getElem hk, List.foldl_append]
  rfl
theorem fold_done (id : Int) (new : DHold) : ∀ (xs o : List DHold), xs.foldl (takeStep id new) (true, o) = (true, o ++ xs.filter (fun h => decide (h.Id ≠ id)))
  | [], o => by simp
  | h :: t, o => by
    rw [List.foldl_cons]
    have e : takeStep id new (true, o) h = (true, o ++ (if h.Id = id then [] else [h])) := by simp [takeStep]
    rw [e, fold_done id new t]
    by_cases hh : h.Id = id <;> simp [hh]
theorem fold_open (id : Int) (new : DHold) : ∀ (xs o : List DHold), takeEnd new (xs.foldl (takeStep id new) (false, o)) = o ++ xs.takeWhile (fun h => decide (h.Id < id)) ++ new :: (xs.dropWhile (fun h => decide (h.Id < id))).filter (fun h => decide (h.Id ≠ id))
  | [], o => by simp [takeEnd]
  | h :: t, o => by
    rw [List.foldl_cons]
    by_cases hl : h.Id < id
    · have e : takeStep id new (false, o) h = (false, o ++ [h]) := by
        have h1 : ¬ id ≤ h.Id := by omega
        have h2 : ¬ h.Id = id := by omega
        simp [takeStep, h1, h2]
      rw [e, fold_open id new t]
      simp [hl]
    · have h1 : id ≤ h.Id := by omega
      have e : takeStep id new (false, o) h = (true, o ++ [new] ++ (if h.Id = id then [] else [h])) := by simp [takeStep, h1]
      rw [e, fold_done]
      by_cases hh : h.Id = id <;> simp [takeEnd, hl, hh]
theorem ordL_all : ∀ {a : DHold} {l : List DHold}, ordL (a :: l) = true → ∀ x ∈ l, a.Id < x.Id
  | a, [], _, x, hx => by cases hx
  | a, b :: l, h, x, hx => by
    simp only [ordL, Bool.and_eq_true, decide_eq_true_eq] at h
    rcases List.mem_cons.1 hx with rfl | hx
    · exact h.1
    · have := ordL_all h.2 x hx; omega
theorem ordL_tail {a : DHold} {l : List DHold} (h : ordL (a :: l) = true) : ordL l = true := by
  cases l with
  | nil => rfl
  | cons b l => simp only [ordL, Bool.and_eq_true] at h; exact h.2
theorem take_filter (id : Int) : ∀ (xs : List DHold), ordL xs = true →
    (xs.filter (fun h => decide (h.Id ≠ id))).takeWhile (fun h => decide (h.Id < id)) = xs.takeWhile (fun h => decide (h.Id < id)) ∧
    (xs.filter (fun h => decide (h.Id ≠ id))).dropWhile (fun h => decide (h.Id < id)) = (xs.dropWhile (fun h => decide (h.Id < id))).filter (fun h => decide (h.Id ≠ id))
  | [], _ => by simp
  | h :: t, ho => by
    by_cases hl : h.Id < id
    · have h2 : ¬ h.Id = id := by omega
      have := take_filter id t (ordL_tail ho)
      simp [hl, h2] at this ⊢
      exact this
    · have hbig : ∀ x ∈ (h :: t).filter (fun h => decide (h.Id ≠ id)), ¬ x.Id < id := by
        intro x hx
        rcases List.mem_cons.1 (List.mem_filter.1 hx).1 with rfl | hx
        · exact hl
        · have := ordL_all ho x hx; omega
      have e1 : (h :: t).takeWhile (fun h => decide (h.Id < id)) = [] := by simp [hl]
      have e2 : (h :: t).dropWhile (fun h => decide (h.Id < id)) = h :: t := by simp [hl]
      rw [e1, e2]
      generalize (h :: t).filter (fun h => decide (h.Id ≠ id)) = ys at *
      cases ys with
      | nil => simp
      | cons y ys => have := hbig y (by simp); simp [this]
theorem holdsFault_ord {xs : List DHold} (h : holdsFault xs = 0) : ordL xs = true ∧ xs.all holdOK = true ∧ xs.length ≤ 512 := by
  unfold holdsFault at h
  split at h
  · cases h
  rename_i h1
  split at h
  · cases h
  rename_i h2
  split at h
  · cases h
  rename_i h3
  exact ⟨by simpa using h2, by simpa using h3, by omega⟩
/-- As the program goes. -/
theorem holdTake_is {xs : List DHold} {txn id b a : Int} (h : takeOK xs txn id b a = true) : holdTake xs txn id b a =
    (xs.filter (fun h => decide (h.Id ≠ id))).takeWhile (fun h => decide (h.Id < id)) ++ takeNew xs txn id b a :: (xs.filter (fun h => decide (h.Id ≠ id))).dropWhile (fun h => decide (h.Id < id)) := by
  have ho : ordL xs = true := by
    simp only [takeOK, Bool.and_eq_true, decide_eq_true_eq] at h
    exact (holdsFault_ord h.1.1.1.1).1
  rw [holdTake, if_pos h, takeUp, List.take_length, fold_open, (take_filter id xs ho).1, (take_filter id xs ho).2, List.nil_append]
end Go.Proofs.Ytildfjlekplgjaa
