/- HoldTake: the reference's. -/
import Derived.Test.YtildfjlekplgjaaK2
namespace Go.Proofs.Ytildfjlekplgjaa
open Go.RowKit
set_option linter.unusedSimpArgs false
set_option linter.unusedVariables false
theorem NewPost.ofOwn {α : Type} {r : Rep α} {e : TypeId} {w w' : World} {v : Value} {xs : List α} {n : Nat} (h : Own r e n w' v xs) (hn : w.heap.size ≤ n) (hO : Ext w w') : NewPost r.slice xs w (.returned v) w' := by
  obtain ⟨F, hV, hF⟩ := h.done
  exact ⟨v, F, rfl, hV, hO, fun g hg => Nat.le_trans hn (hF.ge g hg), hF.nodup, hF.unfr⟩
theorem NewPost.nil {α : Type} {r : Rep α} {w w' : World} (hO : Ext w w') : NewPost r.slice [] w (.returned (.slice none 0 0)) w' :=
  ⟨_, [], rfl, Rep.slice_mk (xs := []) (Rep.sl_nil (by simp)), hO, by simp, by simp, by simp [Unfr]⟩
theorem takeUp_len (xs : List DHold) (id : Int) (new : DHold) : ∀ k, k ≤ xs.length → (takeUp xs id new k).2.length ≤ 2 * k
  | 0, _ => by simp [takeUp]
  | k + 1, hk => by
    rw [takeUp_next xs id new k (by omega)]
    have := takeUp_len xs id new k (by omega)
    simp only [takeStep, List.length_append]
    split <;> split <;> simp <;> omega
theorem own_push {n : Nat} {w : World} {v : Value} {ys : List DHold} {x : DHold} (h : Own Rep.Hold 75 n w v ys) (hw : wfHold x) :
    ∃ cs, (w.alloc (.cells #[.int .i64 x.Id, .int .i64 x.Txn, .int .i64 x.Most] 75)).ownsRow n 75 3 v ys.length cs ∧ n ≤ w.heap.size ∧ ∀ v' w3, w3.ownsRow n 75 3 v' (ys.length + 1) (cs ++ [.int .i64 x.Id, .int .i64 x.Txn, .int .i64 x.Most]) → (w.alloc (.cells #[.int .i64 x.Id, .int .i64 x.Txn, .int .i64 x.Most] 75)).grownBy w3 v.ownBlock → (v'.ownBlock = v.ownBlock ∨ v'.ownBlock = some (w.alloc (.cells #[.int .i64 x.Id, .int .i64 x.Txn, .int .i64 x.Most] 75)).heap.size) →
      Own Rep.Hold 75 n w3 v' (ys ++ [x]) ∧ ∀ W0, Ext W0 w → W0.heap.size ≤ n → Ext W0 w3 := by
  have hE := alloc_ext w (.cells #[.int .i64 x.Id, .int .i64 x.Txn, .int .i64 x.Most] 75)
  obtain ⟨cs, h1, h2, h3⟩ := Own.app (x := x) (c := [.int .i64 x.Id, .int .i64 x.Txn, .int .i64 x.Most]) (F := []) h hE (by simp) (NewIn.nil _ _) ⟨rfl, rfl, hw⟩
  refine ⟨cs, h1, h.le, fun v' w3 a b c => ?_⟩
  obtain ⟨k1, k2⟩ := h3 v' w3 a b c
  exact ⟨k1, fun W0 hW hn => k2 [] W0 (hW.ext hE) hn⟩
theorem mostL_in {xs : List DHold} {id : Int} (h : xs.all holdOK = true) : -1 ≤ mostL xs id (-1) ∧ mostL xs id (-1) ≤ 1000 := by
  unfold mostL
  cases hf : xs.find? (fun h => decide (h.Id = id)) with
  | none => simp
  | some y =>
    have := List.all_eq_true.1 h y (List.mem_of_find?_eq_some hf)
    simp only [holdOK, Bool.and_eq_true, inR_iff] at this
    simp; omega
set_option maxRecDepth 100000 in
set_option maxHeartbeats 2000000 in
theorem specHoldTake_loop (A : Option Addr) (c : Nat) (xs : List DHold) (F : List Nat) (w : World) (h : Rep.Hold.sl w A c xs F) (txn id b a : Int) (et : (Lit.int .i64 txn).wf = true) (hok : takeOK xs txn id b a = true) :
    Calls Try.prog 18 #[.slice A xs.length c, .int .i64 txn, .int .i64 id, .int .i64 b, .int .i64 a] w (NewPost Rep.Hold.slice (holdTake xs txn id b a) w) := by
  have hu := Try.underlying75
  obtain ⟨i0, hi, hz0, hz1, hz2⟩ := info_parts info75
  have hk := hok
  simp only [takeOK, Bool.and_eq_true, decide_eq_true_eq] at hk
  obtain ⟨⟨⟨⟨k1, k2⟩, k3⟩, k4⟩, k5⟩ := hk
  obtain ⟨hord, hall, hlen⟩ := holdsFault_ord k1
  obtain ⟨R, hR⟩ : ∃ R, R = holdTake xs txn id b a := ⟨_, rfl⟩
  have hRe : R = takeEnd (takeNew xs txn id b a) (takeUp xs id (takeNew xs txn id b a) xs.length) := by rw [hR, holdTake, if_pos hok]
  rw [← hR]
  obtain ⟨ml, hml⟩ : ∃ ml, ml = mostL xs id (-1) := ⟨_, rfl⟩
  obtain ⟨mx, hmx⟩ : ∃ mx, mx = max (max ml 0) (max b a) := ⟨_, rfl⟩
  have hnew : takeNew xs txn id b a = ⟨id, txn, mx⟩ := by rw [takeNew, ← hml, ← hmx]
  rw [hnew] at hRe
  have hwn : wfHold ⟨id, txn, mx⟩ := by
    have h1 := mostL_in (id := id) hall
    have h2 := inR_iff.1 k2; have h3 := inR_iff.1 k3; have h4 := inR_iff.1 k4; have h5 := inR_iff.1 k5
    rw [← hml] at h1
    exact ⟨WalkArith.wf_i64 (by dsimp only; omega), WalkArith.wf_i64 (by dsimp only; omega), WalkArith.wf_i64 (by dsimp only; omega)⟩
  have HWN := Lib.hid hwn
  clear hwn
  have HRE := Lib.hid hRe; have H := Lib.hid h; have HF0 := Lib.hid k1; have HML := Lib.hid hml; have HMX := Lib.hid hmx
  clear hR hRe hord hall h hok hnew hml hmx k1
  go_enter Try.func18, Try.ntmps18
  go_wp2_with fail
  refine (specHoldsFault_calls _ _ _ _ _ H.out).mono ?_
  rw [HF0.out]
  rintro e w1 ⟨rfl, hO⟩
  have HE1 := Lib.hid hO
  clear hO
  go_wp2_with (first | (go_at_call 39; refine (specIn_calls _ _ _ _).mono ?_; rintro e w9 ⟨rfl, rfl⟩) | fail)
  refine (specMost_calls _ _ _ _ _ (Rep.sl_ext H.out HE1.out) id).mono ?_
  rw [← HML.out]
  rintro e w2 ⟨rfl, hO⟩
  have HE2 := Lib.hid (HE1.out.ext hO)
  clear hO
  go_wp2_with (go_at_call 52; refine (max_calls _ _ _).mono ?_; (try rw [← HMX.out]); rintro e w9 ⟨rfl, rfl⟩)
  have hmade := Own.made (r := Rep.Hold) (e := 75) (n := w.heap.size) (w := w2) HE2.out.size #[] 0 (by simp) (by simp)
  have hEm := HE2.out.alloc (.cells #[] 75)
  have HMD := Lib.hid hmade; have HEM := Lib.hid hEm
  clear hmade hEm
  generalize w2.alloc (.cells #[] 75) = W0 at *
  obtain ⟨up, hup⟩ : ∃ up, up = takeUp xs id ⟨id, txn, mx⟩ := ⟨_, rfl⟩
  have hup0 : up 0 = (false, []) := by rw [hup]; rfl
  rw [← hup] at HRE
  have HU := Lib.hid hup; have HU0 := Lib.hid hup0
  clear hup hup0
  go_loopg [12, 13, 14] (xs.length) (fun m v dn i wr => ∃ k : Nat, m + k = xs.length ∧ i = .int .i64 k ∧ dn = .bool (up k).1 ∧ Own Rep.Hold 75 w.heap.size wr v (up k).2 ∧ Ext w wr)
  case atStart => exact ⟨0, by simp, rfl, by rw [HU0.out], by rw [HU0.out]; exact HMD.out, HEM.out⟩
  case round =>
    obtain ⟨k, hmk, rfl, rfl, hown, hE⟩ := hrel
    have HOWN := Lib.hid hown; have HE := Lib.hid hE; have HMK := Lib.hid hmk
    clear hown hE hmk
    have hln : (up k).2.length ≤ 2 * k := by rw [HU.out]; exact takeUp_len _ _ _ _ (by have := HMK.out; omega)
    by_cases hlt : k < xs.length
    · obtain ⟨g, off, rfl, hg, hwf, e0, e1, e2⟩ := sl_Hold H.out k hlt
      have hnx : up (k + 1) = takeStep id ⟨id, txn, mx⟩ (up k) xs[k] := by rw [HU.out]; exact takeUp_next _ _ _ _ hlt
      generalize xs[k] = x at *
      have c0 := HE.out.ecell e0; have c1 := HE.out.ecell e1; have c2 := HE.out.ecell e2
      generalize up k = s at *
      obtain ⟨dn, ys⟩ := s
      dsimp only at *
      obtain ⟨Av, cv, rfl, -⟩ := HOWN.out.form
      have HWX := Lib.hid hwf; have HNX := Lib.hid hnx
      clear hwf hnx
      have hcs : (dn = true ∧ (x.Id != id) = false ∧ up (k + 1) = (true, ys)) ∨ (dn = true ∧ (x.Id != id) = true ∧ up (k + 1) = (true, ys ++ [x])) ∨ (dn = false ∧ decide (id ≤ x.Id) = false ∧ (x.Id != id) = true ∧ up (k + 1) = (false, ys ++ [x])) ∨ (dn = false ∧ decide (id ≤ x.Id) = true ∧ (x.Id != id) = false ∧ up (k + 1) = (true, ys ++ [⟨id, txn, mx⟩])) ∨ (dn = false ∧ decide (id ≤ x.Id) = true ∧ (x.Id != id) = true ∧ up (k + 1) = (true, ys ++ [⟨id, txn, mx⟩] ++ [x])) := by
        rw [HNX.out]
        by_cases h1 : x.Id = id
        · have h2 : id ≤ x.Id := by omega
          cases dn <;> simp [takeStep, h1]
        · by_cases h2 : id ≤ x.Id <;> cases dn <;> simp [takeStep, h1, h2]
      clear HNX
      rcases hcs with ⟨rfl, h1, h2⟩ | ⟨rfl, h1, h2⟩ | ⟨rfl, h0, h1, h2⟩ | ⟨rfl, h0, h1, h2⟩ | ⟨rfl, h0, h1, h2⟩
      · have HN := Lib.hid h2
        clear h2
        go_wp2
        go_roundg (xs.length - (k + 1))
        case measure => have := HMK.out; omega
        case rel => exact ⟨k + 1, by have := HMK.out; omega, by go_num, by rw [HN.out], by rw [HN.out]; exact HOWN.out, HE.out⟩
      · have HN := Lib.hid h2
        obtain ⟨cs, ho, hle, happ⟩ := own_push HOWN.out HWX.out
        have HO1 := Lib.hid ho; have HAPP := Lib.hid happ
        clear h2 ho happ
        go_wp2_with (at_builtin; (go_must (refine wpList_append_own_at _ rfl _ _ 36 rfl w.heap.size 75 i0 _ 3 24 Try.underlying36 hi hz0 hz1 hz2 rfl (by decide) _ _ _ rfl HO1.out ⟨wr.heap.size, 0, none⟩ 1 1 [.int .i64 x.Id, .int .i64 x.Txn, .int .i64 x.Most] rfl rfl (cells_new' _ _ _ (by simp)) (by intro u hu; simp at hu; rcases hu with rfl | rfl | rfl <;> rfl) (by unfold maxLen; omega) (by omega) (by simp; omega) ?_)); intro v' w' hown hgrow hnil hat; obtain ⟨Av', cv', rfl⟩ := ownsRow_form hown)
        go_roundg (xs.length - (k + 1))
        case measure => have := HMK.out; omega
        case rel =>
          obtain ⟨r1, r2⟩ := HAPP.out _ w' hown hgrow hat
          exact ⟨k + 1, by have := HMK.out; omega, by go_num, by rw [HN.out], by rw [HN.out]; exact r1, r2 w HE.out (Nat.le_refl _)⟩
      · have HN := Lib.hid h2
        obtain ⟨cs, ho, hle, happ⟩ := own_push HOWN.out HWX.out
        have HO1 := Lib.hid ho; have HAPP := Lib.hid happ
        clear h2 ho happ
        go_wp2_with (at_builtin; (go_must (refine wpList_append_own_at _ rfl _ _ 36 rfl w.heap.size 75 i0 _ 3 24 Try.underlying36 hi hz0 hz1 hz2 rfl (by decide) _ _ _ rfl HO1.out ⟨wr.heap.size, 0, none⟩ 1 1 [.int .i64 x.Id, .int .i64 x.Txn, .int .i64 x.Most] rfl rfl (cells_new' _ _ _ (by simp)) (by intro u hu; simp at hu; rcases hu with rfl | rfl | rfl <;> rfl) (by unfold maxLen; omega) (by omega) (by simp; omega) ?_)); intro v' w' hown hgrow hnil hat; obtain ⟨Av', cv', rfl⟩ := ownsRow_form hown)
        go_roundg (xs.length - (k + 1))
        case measure => have := HMK.out; omega
        case rel =>
          obtain ⟨r1, r2⟩ := HAPP.out _ w' hown hgrow hat
          exact ⟨k + 1, by have := HMK.out; omega, by go_num, by rw [HN.out], by rw [HN.out]; exact r1, r2 w HE.out (Nat.le_refl _)⟩
      · have HN := Lib.hid h2
        obtain ⟨cs, ho, hle, happ⟩ := own_push HOWN.out HWN.out
        have HO1 := Lib.hid ho; have HAPP := Lib.hid happ
        clear h2 ho happ
        go_wp2_with (at_builtin; (go_must (refine wpList_append_own_at _ rfl _ _ 36 rfl w.heap.size 75 i0 _ 3 24 Try.underlying36 hi hz0 hz1 hz2 rfl (by decide) _ _ _ rfl HO1.out ⟨wr.heap.size, 0, none⟩ 1 1 [.int .i64 id, .int .i64 txn, .int .i64 mx] rfl rfl (cells_new' _ _ _ (by simp)) (by intro u hu; simp at hu; rcases hu with rfl | rfl | rfl <;> rfl) (by unfold maxLen; omega) (by omega) (by simp; omega) ?_)); intro v' w' hown hgrow hnil hat; obtain ⟨Av', cv', rfl⟩ := ownsRow_form hown; obtain ⟨r1, r2⟩ := HAPP.out _ w' hown hgrow hat; have d0 := (r2 w HE.out (Nat.le_refl _)).ecell e0)
        go_roundg (xs.length - (k + 1))
        case measure => have := HMK.out; omega
        case rel => exact ⟨k + 1, by have := HMK.out; omega, by go_num, by rw [HN.out], by rw [HN.out]; exact r1, r2 w HE.out (Nat.le_refl _)⟩
      · have HN := Lib.hid h2
        obtain ⟨cs, ho, hle, happ⟩ := own_push HOWN.out HWN.out
        have HO1 := Lib.hid ho; have HAPP := Lib.hid happ
        have hyl : (ys ++ [(⟨id, txn, mx⟩ : DHold)]).length = ys.length + 1 := by simp
        have HYL := Lib.hid hyl
        clear h2 ho happ hyl
        go_wp2_with (at_builtin; first
          | (refine wpList_append_own_at _ rfl _ _ 36 rfl w.heap.size 75 i0 _ 3 24 Try.underlying36 hi hz0 hz1 hz2 rfl (by decide) _ _ _ rfl HO1.out ⟨wr.heap.size, 0, none⟩ 1 1 [.int .i64 id, .int .i64 txn, .int .i64 mx] rfl rfl (cells_new' _ _ _ (by simp)) (by intro u hu; simp at hu; rcases hu with rfl | rfl | rfl <;> rfl) (by unfold maxLen; omega) (by omega) (by simp; omega) ?_; intro v' w' hown hgrow hnil hat; obtain ⟨Av', cv', rfl⟩ := ownsRow_form hown; obtain ⟨r1, r2⟩ := HAPP.out _ w' hown hgrow hat; have hE' := r2 w HE.out (Nat.le_refl _); have d0 := hE'.ecell e0; have d1 := hE'.ecell e1; have d2 := hE'.ecell e2; obtain ⟨cs2, ho2, hle2, happ2⟩ := own_push r1 HWX.out; rw [HYL.out] at ho2 happ2; have HO2 := Lib.hid ho2; have HAPP2 := Lib.hid happ2; have HE' := Lib.hid hE'; clear ho2 happ2 hE' r1 r2 hown hgrow hnil hat)
          | (refine wpList_append_own_at _ rfl _ _ 36 rfl w.heap.size 75 i0 _ 3 24 Try.underlying36 hi hz0 hz1 hz2 rfl (by decide) _ _ _ rfl HO2.out ⟨w'.heap.size, 0, none⟩ 1 1 [.int .i64 x.Id, .int .i64 x.Txn, .int .i64 x.Most] rfl rfl (cells_new' _ _ _ (by simp)) (by intro u hu; simp at hu; rcases hu with rfl | rfl | rfl <;> rfl) (by unfold maxLen; omega) (by omega) (by simp; omega) ?_; intro v2 w2' hown2 hgrow2 hnil2 hat2; obtain ⟨Av2, cv2, rfl⟩ := ownsRow_form hown2))
        go_roundg (xs.length - (k + 1))
        case measure => have := HMK.out; omega
        case rel =>
          obtain ⟨r1, r2⟩ := HAPP2.out _ w2' hown2 hgrow2 hat2
          exact ⟨k + 1, by have := HMK.out; omega, by go_num, by rw [HN.out], by rw [HN.out]; exact r1, r2 w HE'.out (Nat.le_refl _)⟩
    · have hkk : k = xs.length := by have := HMK.out; omega
      subst hkk
      generalize up xs.length = s at *
      obtain ⟨dn, ys⟩ := s
      dsimp only at *
      obtain ⟨Av, cv, rfl, -⟩ := HOWN.out.form
      cases dn
      · have HRz := Lib.hid (show R = ys ++ [⟨id, txn, mx⟩] by rw [HRE.out]; rfl)
        obtain ⟨cs, ho, hle, happ⟩ := own_push HOWN.out HWN.out
        have HO1 := Lib.hid ho; have HAPP := Lib.hid happ
        clear ho happ
        go_wp2_with (at_builtin; (go_must (refine wpList_append_own_at _ rfl _ _ 36 rfl w.heap.size 75 i0 _ 3 24 Try.underlying36 hi hz0 hz1 hz2 rfl (by decide) _ _ _ rfl HO1.out ⟨wr.heap.size, 0, none⟩ 1 1 [.int .i64 id, .int .i64 txn, .int .i64 mx] rfl rfl (cells_new' _ _ _ (by simp)) (by intro u hu; simp at hu; rcases hu with rfl | rfl | rfl <;> rfl) (by unfold maxLen; omega) (by omega) (by simp; omega) ?_)); intro v' w' hown hgrow hnil hat; obtain ⟨Av', cv', rfl⟩ := ownsRow_form hown; obtain ⟨r1, r2⟩ := HAPP.out _ w' hown hgrow hat)
        go_ret
        rw [HRz.out]
        exact NewPost.ofOwn r1 (Nat.le_refl _) (r2 w HE.out (Nat.le_refl _))
      · have HRz := Lib.hid (show R = ys by rw [HRE.out]; rfl)
        go_wp2
        go_ret
        rw [HRz.out]
        exact NewPost.ofOwn HOWN.out (Nat.le_refl _) HE.out
set_option maxRecDepth 100000 in
set_option maxHeartbeats 1000000 in
theorem specHoldTake_new (A : Option Addr) (c : Nat) (xs : List DHold) (F : List Nat) (w : World) (h : Rep.Hold.sl w A c xs F) (txn id b a : Int) (et : (Lit.int .i64 txn).wf = true) :
    Calls Try.prog 18 #[.slice A xs.length c, .int .i64 txn, .int .i64 id, .int .i64 b, .int .i64 a] w (NewPost Rep.Hold.slice (holdTake xs txn id b a) w) := by
  by_cases hok : takeOK xs txn id b a = true
  · exact specHoldTake_loop A c xs F w h txn id b a et hok
  obtain ⟨R, hR⟩ : ∃ R, R = holdTake xs txn id b a := ⟨_, rfl⟩
  have hRe : R = [] := by rw [hR, holdTake, if_neg hok]
  rw [← hR]
  have HRE := Lib.hid hRe
  obtain ⟨hf, hhf⟩ : ∃ hf, hf = holdsFault xs := ⟨_, rfl⟩
  have HF := Lib.hid hhf
  have hcs : (hf != 0) = true ∨ ((hf != 0) = false ∧ (inR txn 1 2147483647 = false ∨ inR txn 1 2147483647 = true ∧ (inR id 0 511 = false ∨ inR id 0 511 = true ∧ (inR b (-1) 1000 = false ∨ inR b (-1) 1000 = true ∧ inR a (-1) 1000 = false)))) := by
    by_cases h0 : hf = 0
    · right
      refine ⟨by simp [h0], ?_⟩
      rw [hhf] at h0
      simp only [takeOK, h0, decide_true, Bool.true_and, Bool.and_eq_true, not_and, Bool.not_eq_true] at hok
      cases h1 : inR txn 1 2147483647
      · exact .inl rfl
      cases h2 : inR id 0 511
      · exact .inr ⟨rfl, .inl rfl⟩
      cases h3 : inR b (-1) 1000
      · exact .inr ⟨rfl, .inr ⟨rfl, .inl rfl⟩⟩
      cases h4 : inR a (-1) 1000
      · exact .inr ⟨rfl, .inr ⟨rfl, .inr ⟨rfl, rfl⟩⟩⟩
      rw [h1, h2, h3, h4] at hok
      simp at hok
    · exact .inl (by simp [h0])
  clear hR hRe hok hhf
  rcases hcs with h1 | ⟨h1, h2 | ⟨h2, h3 | ⟨h3, h4 | ⟨h4, h5⟩⟩⟩⟩
  all_goals
    go_enter Try.func18, Try.ntmps18
    go_wp2_with fail
    refine (specHoldsFault_calls _ _ _ _ _ h).mono ?_
    rw [← HF.out]
    rintro e w1 ⟨rfl, hO⟩
    have HE1 := Lib.hid hO
    clear hO
    go_wp2_with (go_at_call 39; refine (specIn_calls _ _ _ _).mono ?_; rintro e w9 ⟨rfl, rfl⟩)
    go_ret
    rw [HRE.out]
    exact NewPost.ofOwn (Own.made (e := 75) (Nat.le_refl _) #[] 0 (by simp) (by simp)) HE1.out.size (HE1.out.alloc _)
end Go.Proofs.Ytildfjlekplgjaa
