/- LockAsk: the reference's. -/
import Derived.Test.YtildfjlekplgjaaN7
import Derived.Deep.CutRange
import Derived.Deep.DeepCutAuto
namespace Go.Proofs.Ytildfjlekplgjaa
open Go.RowKit
set_option linter.unusedSimpArgs false
set_option linter.unusedVariables false
theorem lockRes_code {c : Int} {w w' : World} (hc : (Lit.int .i64 c).wf = true) (hO : Ext w w') : NewPost Rep.LockResult ⟨c, []⟩ w (.returned (.agg #[.int .i64 c, .slice none 0 0])) w' :=
  ⟨_, [], rfl, ⟨_, ⟨none, 0, [], rfl, rfl, hc, Rep.sl_nil (by simp)⟩, rfl⟩, hO, by simp, by simp, by simp [Unfr]⟩
theorem lockRes_own {w w' : World} {n k c : Nat} {A : Option Addr} {ys : List DLock} (h : Own Rep.Lock 63 n w' (.slice A k c) ys) (hn : w.heap.size ≤ n) (hO : Ext w w') : NewPost Rep.LockResult ⟨0, ys⟩ w (.returned (.agg #[.int .i64 0, .slice A k c])) w' := by
  obtain ⟨F, ⟨_, ⟨A1, c1, rfl, hsl⟩, he⟩, hF⟩ := h.done
  change Value.slice A k c = Value.slice A1 ys.length c1 at he
  injection he with e1 e2 e3
  subst e1; subst e2; subst e3
  exact ⟨_, F, rfl, ⟨_, ⟨A, c, F, rfl, rfl, by rfl, hsl⟩, rfl⟩, hO, fun g hg => Nat.le_trans hn (hF.ge g hg), hF.nodup, hF.unfr⟩
theorem lock_push {n : Nat} {w : World} {v : Value} {ys : List DLock} {x : DLock} (h : Own Rep.Lock 63 n w v ys) (hw : wfLock x) :
    ∃ cs, (w.alloc (.cells #[.int .i64 x.Id, .int .i64 x.Txn, .int .i64 x.Mode] 63)).ownsRow n 63 3 v ys.length cs ∧ n ≤ w.heap.size ∧ ∀ v' w3, w3.ownsRow n 63 3 v' (ys.length + 1) (cs ++ [.int .i64 x.Id, .int .i64 x.Txn, .int .i64 x.Mode]) → (w.alloc (.cells #[.int .i64 x.Id, .int .i64 x.Txn, .int .i64 x.Mode] 63)).grownBy w3 v.ownBlock → (v'.ownBlock = v.ownBlock ∨ v'.ownBlock = some (w.alloc (.cells #[.int .i64 x.Id, .int .i64 x.Txn, .int .i64 x.Mode] 63)).heap.size) →
      Own Rep.Lock 63 n w3 v' (ys ++ [x]) ∧ ∀ W0, Ext W0 w → W0.heap.size ≤ n → Ext W0 w3 := by
  have hE := alloc_ext w (.cells #[.int .i64 x.Id, .int .i64 x.Txn, .int .i64 x.Mode] 63)
  obtain ⟨cs, h1, h2, h3⟩ := Own.app (x := x) (c := [.int .i64 x.Id, .int .i64 x.Txn, .int .i64 x.Mode]) (F := []) h hE (by simp) (NewIn.nil _ _) ⟨rfl, rfl, hw⟩
  refine ⟨cs, h1, h.le, fun v' w3 a b c => ?_⟩
  obtain ⟨k1, k2⟩ := h3 v' w3 a b c
  exact ⟨k1, fun W0 hW hn => k2 [] W0 (hW.ext hE) hn⟩
/-- The ways ahead of the list's making. -/
theorem ask_ways (xs : List DLock) (txn id mode own oth : Int) (ho : own = modeL xs txn id false) (ht : oth = modeL xs txn id true) (hok : askOK xs txn id mode = true) :
    ((own == 0) = true ∧ (((xs.length : Int)) == 4096) = true ∧ lockAsk xs txn id mode = ⟨2, []⟩) ∨
    (((own == 0) = true ∧ (((xs.length : Int)) == 4096) = false ∨ (own == 0) = false) ∧ ((oth == 2) = true ∧ lockAsk xs txn id mode = ⟨1, []⟩ ∨ (oth == 2) = false ∧ (oth != 0) = true ∧ decide (0 < oth) = true ∧ (mode == 2) = true ∧ lockAsk xs txn id mode = ⟨1, []⟩ ∨
      ((oth == 2) = false ∧ (oth != 0) = false ∧ decide (0 < oth) = false ∨ (oth == 2) = false ∧ (oth != 0) = true ∧ decide (0 < oth) = true ∧ (mode == 2) = false) ∧ lockAsk xs txn id mode = ⟨0, askPut xs txn id ⟨id, txn, max own mode⟩⟩)) := by
  have hall := hok
  simp only [askOK, Bool.and_eq_true, decide_eq_true_eq] at hall
  have hr := modeL_range txn id true (locksFault_parts hall.1.1.1).2.1
  rw [← ht] at hr
  have hn : ¬ askOK xs txn id mode = false := by simp [hok]
  unfold lockAsk
  rw [if_neg hn, ← ho, ← ht]
  by_cases h1 : own = 0 ∧ xs.length = 4096
  · exact .inl ⟨by simp [h1.1], by simp [h1.2], by rw [if_pos h1]⟩
  right
  rw [if_neg h1]
  refine ⟨?_, ?_⟩
  · by_cases h2 : own = 0
    · refine .inl ⟨by simp [h2], ?_⟩
      have : ¬ xs.length = 4096 := fun h => h1 ⟨h2, h⟩
      simp; omega
    · exact .inr (by simp [h2])
  by_cases h3 : oth = 2
  · exact .inl ⟨by simp [h3], by rw [if_pos (.inl h3)]⟩
  right
  by_cases h4 : oth = 0
  · right
    exact ⟨.inl ⟨by simp [h3], by simp [h4], by simp [h4]⟩, by rw [if_neg]; rintro (h | h); exact h3 h; exact h.1 h4⟩
  · by_cases h5 : mode = 2
    · exact .inl ⟨by simp [h3], by simp [h4], by simp; omega, by simp [h5], by rw [if_pos (.inr ⟨h4, h5⟩)]⟩
    · right
      exact ⟨.inr ⟨by simp [h3], by simp [h4], by simp; omega, by simp [h5]⟩, by rw [if_neg]; rintro (h | h); exact h3 h; exact h5 h.2⟩
theorem ask_step (txn id : Int) (new x : DLock) (dn : Bool) (ys : List DLock) :
    ((x.Id == id) = true ∧ (x.Txn == txn) = true ∧ askStep txn id new (dn, ys) x = (dn, ys)) ∨ (((x.Id == id) = false ∨ (x.Id == id) = true ∧ (x.Txn == txn) = false) ∧ (dn = true ∧ askStep txn id new (dn, ys) x = (true, ys ++ [x]) ∨
      dn = false ∧ ((decide (id < x.Id) = false ∧ (x.Id == id) = false ∨ decide (id < x.Id) = false ∧ (x.Id == id) = true ∧ decide (txn < x.Txn) = false) ∧ askStep txn id new (dn, ys) x = (false, ys ++ [x]) ∨ (decide (id < x.Id) = true ∨ decide (id < x.Id) = false ∧ (x.Id == id) = true ∧ decide (txn < x.Txn) = true) ∧ askStep txn id new (dn, ys) x = (true, ys ++ [new] ++ [x])))) := by
  by_cases h1 : x.Id = id
  · by_cases h2 : x.Txn = txn
    · exact .inl ⟨by simp [h1], by simp [h2], by simp [askStep, isKey, h1, h2]⟩
    · refine .inr ⟨.inr ⟨by simp [h1], by simp [h2]⟩, ?_⟩
      cases dn
      · refine .inr ⟨rfl, ?_⟩
        by_cases h3 : txn < x.Txn
        · exact .inr ⟨.inr ⟨by simp [h1], by simp [h1], by simp [h3]⟩, by simp [askStep, isKey, after, h1, h2, h3]⟩
        · exact .inl ⟨.inr ⟨by simp [h1], by simp [h1], by simp; omega⟩, by simp [askStep, isKey, after, h1, h2, h3]⟩
      · exact .inl ⟨rfl, by simp [askStep, isKey, h1, h2]⟩
  · refine .inr ⟨.inl (by simp [h1]), ?_⟩
    cases dn
    · refine .inr ⟨rfl, ?_⟩
      by_cases h3 : id < x.Id
      · exact .inr ⟨.inl (by simp [h3]), by simp [askStep, isKey, after, h1, h3]⟩
      · exact .inl ⟨.inl ⟨by simp; omega, by simp [h1]⟩, by simp [askStep, isKey, after, h1, h3]⟩
    · exact .inl ⟨rfl, by simp [askStep, isKey, h1]⟩
set_option maxRecDepth 100000 in
set_option maxHeartbeats 6000000 in
theorem specLockAsk_go (A : Option Addr) (c : Nat) (xs : List DLock) (F : List Nat) (w : World) (h : Rep.Lock.sl w A c xs F) (txn id mode : Int) (hok : askOK xs txn id mode = true) :
    Calls Try.prog 9 #[.slice A xs.length c, .int .i64 txn, .int .i64 id, .int .i64 mode] w (NewPost Rep.LockResult (lockAsk xs txn id mode) w) := by
  have hu := Try.underlying63
  have hu2 := Try.underlying26
  obtain ⟨i0, hi, hz0, hz1, hz2⟩ := info_parts info63
  have hk := hok
  simp only [askOK, Bool.and_eq_true, decide_eq_true_eq] at hk
  obtain ⟨⟨⟨k1, k2⟩, k3⟩, k4⟩ := hk
  obtain ⟨hlen, hall, -, -⟩ := locksFault_parts k1
  obtain ⟨R, hR⟩ : ∃ R, R = lockAsk xs txn id mode := ⟨_, rfl⟩
  obtain ⟨own, hown⟩ : ∃ own, own = modeL xs txn id false := ⟨_, rfl⟩
  obtain ⟨oth, hoth⟩ : ∃ oth, oth = modeL xs txn id true := ⟨_, rfl⟩
  have hways := ask_ways xs txn id mode own oth hown hoth hok
  rw [← hR] at hways ⊢
  have hmi : modeIf xs txn id false = own := by rw [hown, modeIf, if_pos k1]
  have hti : modeIf xs txn id true = oth := by rw [hoth, modeIf, if_pos k1]
  have hor := modeL_range txn id false hall
  rw [← hown] at hor
  have hE0 := alloc_ext w (.cells #[.int .i64 0, .slice none 0 0] 26)
  have hB := heap_alloc_new w (.cells #[.int .i64 0, .slice none 0 0] 26)
  have hsz0 : (w.alloc (.cells #[.int .i64 0, .slice none 0 0] 26)).heap.size = w.heap.size + 1 := by simp
  have H := Lib.hid (Rep.sl_ext h hE0); have HE0 := Lib.hid hE0; have HB := Lib.hid hB; have HF0 := Lib.hid k1; have HMI := Lib.hid hmi; have HTI := Lib.hid hti; have HSZ0 := Lib.hid hsz0
  have K2 := Lib.hid (inR_iff.1 k2); have K3 := Lib.hid (inR_iff.1 k3); have K4 := Lib.hid (inR_iff.1 k4); have HOR := Lib.hid hor
  clear hR hown hoth hok h hall hmi hti hE0 hB k1 hsz0 hor
  have hcs : ((own == 0) = true ∧ (((xs.length : Int)) == 4096) = true ∧ R = ⟨2, []⟩) ∨ ((((own == 0) = true ∧ (((xs.length : Int)) == 4096) = false) ∨ (own == 0) = false) ∧ ((oth == 2) = true ∧ R = ⟨1, []⟩ ∨ (oth == 2) = false ∧ (oth != 0) = true ∧ decide (0 < oth) = true ∧ (mode == 2) = true ∧ R = ⟨1, []⟩ ∨
      ((oth == 2) = false ∧ (oth != 0) = false ∧ decide (0 < oth) = false ∨ (oth == 2) = false ∧ (oth != 0) = true ∧ decide (0 < oth) = true ∧ (mode == 2) = false) ∧ R = ⟨0, askPut xs txn id ⟨id, txn, max own mode⟩⟩)) := hways
  clear hways
  rcases hcs with ⟨q1, q2, q3⟩ | ⟨hA, ⟨q4, q3⟩ | ⟨q4, q5, q6, q7, q3⟩ | ⟨hC, q3⟩⟩
  rotate_right
  · have HA := Lib.hid hA; have HC := Lib.hid hC
    clear hA hC
    have HQ := Lib.hid q3
    clear q3
    go_enter Try.func9, Try.ntmps9
    go_wp2_with fail
    generalize (w.alloc (.cells #[.int .i64 0, .slice none 0 0] 26)) = W0 at *
    refine (specLocksFault_calls _ _ _ _ _ H.out).mono ?_
    rw [HF0.out]
    rintro e w1 ⟨rfl, hO⟩
    have HE1 := Lib.hid hO
    clear hO
    go_wp2_with (first | (go_at_call 39; refine (specIn_calls _ _ _ _).mono ?_; rintro e w9 ⟨rfl, rfl⟩) | fail)
    refine (specMode_calls _ _ _ _ _ (Rep.sl_ext H.out HE1.out) txn id).mono ?_
    rw [HMI.out]
    rintro e w2 ⟨rfl, hO⟩
    have HE2 := Lib.hid (HE1.out.ext hO)
    clear hO
    go_upto_region 4 with fail
    go_cut [44] from 38 to 44 (fun s44 wx => s44 = .bool false ∧ w2 = wx)
    case first =>
      rcases HA.out with ⟨q1, q2⟩ | q1
      all_goals
        go_wp2_with fail
        go_meet
        exact ⟨rfl, rfl⟩
    case rest =>
      obtain ⟨rfl, rfl⟩ := hcut
      go_wp2_with fail
      refine (specOthers_calls _ _ _ _ _ (Rep.sl_ext H.out HE2.out) txn id).mono ?_
      rw [HTI.out]
      rintro e w3 ⟨rfl, hO⟩
      have HE3 := Lib.hid (HE2.out.ext hO)
      clear hO
      go_upto_region 7 with fail
      go_cut [59] from 50 to 59 (fun s59 wx => s59 = .bool false ∧ w3 = wx)
      case first =>
        rcases HC.out with ⟨q4, q5, q6⟩ | ⟨q4, q5, q6, q7⟩
        all_goals
          go_wp2_with fail
          go_meet
          exact ⟨rfl, rfl⟩
      case rest =>
        obtain ⟨rfl, rfl⟩ := hcut
        obtain ⟨mx, hmx⟩ : ∃ mx, mx = max own mode := ⟨_, rfl⟩
        have HMX := Lib.hid (show (if mode < own then own else mode) = mx by rw [hmx]; split <;> omega)
        have HRE := Lib.hid (show R = ⟨0, askPut xs txn id ⟨id, txn, mx⟩⟩ by rw [HQ.out, hmx])
        have HWN := Lib.hid (show wfLock ⟨id, txn, mx⟩ from by
          have h2 := K2.out; have h3 := K3.out; have h4 := K4.out; have h5 := HOR.out
          exact ⟨WalkArith.wf_i64 (by dsimp only; omega), WalkArith.wf_i64 (by dsimp only; omega), WalkArith.wf_i64 (by dsimp only; omega)⟩)
        have hmade := Own.made (r := Rep.Lock) (e := 63) (n := w.heap.size + 1) (w := w3) (by have h1 := HE3.out.size; have h2 := HSZ0.out; omega) #[] 0 (by simp) (by simp)
        have hEm := HE3.out.alloc (.cells #[] 63)
        have HMD := Lib.hid hmade; have HEM := Lib.hid hEm
        clear hmade hEm
        clear hmx
        go_upto_if 63 with fail
        go_cut [3] from 61 to 64 (fun s3 wx => s3 = .int .i64 mx ∧ w3 = wx)
        case first =>
          have hx := HMX.out
          by_cases hmo : mode < own
          · have hb : decide (mode < own) = true := by simp [hmo]
            rw [if_pos hmo] at hx
            have HX := Lib.hid hx
            clear hx
            go_wp2_with fail
            go_meet
            exact ⟨by rw [HX.out], rfl⟩
          · have hb : decide (mode < own) = false := by simp; omega
            rw [if_neg hmo] at hx
            have HX := Lib.hid hx
            clear hx
            go_wp2_with fail
            go_meet
            exact ⟨by rw [HX.out], rfl⟩
        case rest =>
          obtain ⟨rfl, rfl⟩ := hcut
          obtain ⟨up, hup⟩ : ∃ up, up = askUp xs txn id ⟨id, txn, mx⟩ := ⟨_, rfl⟩
          have hup0 : up 0 = (false, []) := by rw [hup]; rfl
          have HAP := Lib.hid (show R = ⟨0, askEnd ⟨id, txn, mx⟩ (up xs.length)⟩ by rw [HRE.out, hup]; rfl)
          have HU := Lib.hid hup; have HU0 := Lib.hid hup0
          clear hup hup0
          go_wp2
          generalize w3.alloc (.cells #[] 63) = W4 at *
          go_loopg [11, 12, 13] (xs.length) (fun m v dn i wr => ∃ k : Nat, m + k = xs.length ∧ i = .int .i64 k ∧ dn = .bool (up k).1 ∧ Own Rep.Lock 63 (w.heap.size + 1) wr v (up k).2 ∧ Ext W0 wr)
          case atStart => exact ⟨0, by simp, rfl, by rw [HU0.out], by rw [HU0.out]; exact HMD.out, HEM.out⟩
          case round =>
            obtain ⟨k, hmk, rfl, rfl, hown, hE⟩ := hrel
            have hbase : w.heap.size + 1 ≤ wr.heap.size := by have h1 := hE.size; have h2 := HSZ0.out; omega
            have HOWN := Lib.hid hown; have HE := Lib.hid hE; have HMK := Lib.hid hmk
            clear hown hE hmk
            have hln : (up k).2.length ≤ 2 * k := by rw [HU.out]; exact askUp_len _ _ _ _ _ (by have := HMK.out; omega)
            by_cases hlt : k < xs.length
            · obtain ⟨g, off, rfl, hg, hwf, e0, e1, e2⟩ := sl_Lock H.out k hlt
              have hnx : up (k + 1) = askStep txn id ⟨id, txn, mx⟩ (up k) xs[k] := by rw [HU.out]; exact askUp_next _ _ _ _ _ hlt
              generalize xs[k] = x at *
              have c0 := HE.out.ecell e0; have c1 := HE.out.ecell e1; have c2 := HE.out.ecell e2
              generalize up k = s at *
              obtain ⟨dn, ys⟩ := s
              dsimp only at *
              obtain ⟨Av, cv, rfl, -⟩ := HOWN.out.form
              have HWX := Lib.hid hwf; have HNX := Lib.hid hnx
              clear hwf hnx
              have hEA := alloc_ext wr (.cells #[.int .i64 x.Id, .int .i64 x.Txn, .int .i64 x.Mode] 63)
              have mo := fun o => cell_of_row _ _ o _ _ _ (heap_alloc_new wr (.cells #[.int .i64 x.Id, .int .i64 x.Txn, .int .i64 x.Mode] 63))
              have hown2 := HOWN.out.ext hEA
              have HEA := Lib.hid (HE.out.ext hEA)
              have HBX := Lib.hid (heap_alloc_new wr (.cells #[.int .i64 x.Id, .int .i64 x.Txn, .int .i64 x.Mode] 63))
              have hszA : (wr.alloc (.cells #[.int .i64 x.Id, .int .i64 x.Txn, .int .i64 x.Mode] 63)).heap.size = wr.heap.size + 1 := by simp
              have HSZA := Lib.hid hszA
              have HVB := Lib.hid (show some wr.heap.size ≠ (Value.slice Av ys.length cv).ownBlock from fun he => Nat.lt_irrefl _ ((own_locks_inv HOWN.out).2.lt _ he.symm).2)
              clear hEA hszA
              have hcs : ((x.Id == id) = true ∧ (x.Txn == txn) = true ∧ up (k + 1) = (dn, ys)) ∨ (((x.Id == id) = false ∨ (x.Id == id) = true ∧ (x.Txn == txn) = false) ∧ (dn = true ∧ up (k + 1) = (true, ys ++ [x]) ∨
                  dn = false ∧ ((decide (id < x.Id) = false ∧ (x.Id == id) = false ∨ decide (id < x.Id) = false ∧ (x.Id == id) = true ∧ decide (txn < x.Txn) = false) ∧ up (k + 1) = (false, ys ++ [x]) ∨ (decide (id < x.Id) = true ∨ decide (id < x.Id) = false ∧ (x.Id == id) = true ∧ decide (txn < x.Txn) = true) ∧ up (k + 1) = (true, ys ++ [⟨id, txn, mx⟩] ++ [x])))) := by
                rw [HNX.out]
                exact ask_step txn id ⟨id, txn, mx⟩ x dn ys
              clear HNX
              rcases hcs with ⟨h1, h2, hq⟩ | ⟨h1 | ⟨h1, h2⟩, ⟨rfl, hq⟩ | ⟨rfl, ⟨⟨h4, h5⟩ | ⟨h4, h5, h6⟩, hq⟩ | ⟨h4 | ⟨h4, h5, h6⟩, hq⟩⟩⟩
              · have HN := Lib.hid hq
                clear hq
                go_wp2
                go_roundg (xs.length - (k + 1))
                case measure => have := HMK.out; omega
                case rel => exact ⟨k + 1, by have := HMK.out; omega, by go_num, by rw [HN.out], by rw [HN.out]; exact hown2, HEA.out⟩
              · have HN := Lib.hid (hq)
                obtain ⟨cs, ho, hle, happ⟩ := lock_push hown2 HWX.out
                have HO1 := Lib.hid ho; have HAPP := Lib.hid happ
                clear hq ho happ hown2
                go_wp2_with (at_builtin; (go_must (refine wpList_append_own_at _ rfl _ _ 24 rfl (w.heap.size + 1) 63 i0 _ 3 24 Try.underlying24 hi hz0 hz1 hz2 rfl (by decide) _ _ _ rfl HO1.out ⟨wr.heap.size + 1, 0, none⟩ 1 1 [.int .i64 x.Id, .int .i64 x.Txn, .int .i64 x.Mode] rfl rfl (cells_new' _ _ _ (by simp)) (by intro u hu; simp at hu; rcases hu with rfl | rfl | rfl <;> rfl) (by unfold maxLen; omega) (by omega) (by simp; omega) ?_)); intro v' w' hown hgrow hnil hat; obtain ⟨Av', cv', rfl⟩ := ownsRow_form hown)
                go_roundg (xs.length - (k + 1))
                case measure => have := HMK.out; omega
                case rel =>
                  obtain ⟨r1, r2⟩ := HAPP.out _ w' hown hgrow hat
                  exact ⟨k + 1, by have := HMK.out; omega, by go_num, by rw [HN.out], by rw [HN.out]; exact r1, r2 W0 HEA.out (by have := HSZ0.out; omega)⟩
              · have HN := Lib.hid (hq)
                obtain ⟨cs, ho, hle, happ⟩ := lock_push hown2 HWX.out
                have HO1 := Lib.hid ho; have HAPP := Lib.hid happ
                clear hq ho happ hown2
                go_wp2_with (at_builtin; (go_must (refine wpList_append_own_at _ rfl _ _ 24 rfl (w.heap.size + 1) 63 i0 _ 3 24 Try.underlying24 hi hz0 hz1 hz2 rfl (by decide) _ _ _ rfl HO1.out ⟨wr.heap.size + 1, 0, none⟩ 1 1 [.int .i64 x.Id, .int .i64 x.Txn, .int .i64 x.Mode] rfl rfl (cells_new' _ _ _ (by simp)) (by intro u hu; simp at hu; rcases hu with rfl | rfl | rfl <;> rfl) (by unfold maxLen; omega) (by omega) (by simp; omega) ?_)); intro v' w' hown hgrow hnil hat; obtain ⟨Av', cv', rfl⟩ := ownsRow_form hown)
                go_roundg (xs.length - (k + 1))
                case measure => have := HMK.out; omega
                case rel =>
                  obtain ⟨r1, r2⟩ := HAPP.out _ w' hown hgrow hat
                  exact ⟨k + 1, by have := HMK.out; omega, by go_num, by rw [HN.out], by rw [HN.out]; exact r1, r2 W0 HEA.out (by have := HSZ0.out; omega)⟩
              · rw [h1] at h5; cases h5
              · have HN := Lib.hid (hq)
                obtain ⟨cs, ho, hle, happ⟩ := lock_push hown2 HWN.out
                have HO1 := Lib.hid ho; have HAPP := Lib.hid happ
                have hyl : (ys ++ [(⟨id, txn, mx⟩ : DLock)]).length = ys.length + 1 := by simp
                have HYL := Lib.hid hyl
                clear hq ho happ hyl hown2
                go_wp2_with (at_builtin; first
                  | (refine wpList_append_own_at _ rfl _ _ 24 rfl (w.heap.size + 1) 63 i0 _ 3 24 Try.underlying24 hi hz0 hz1 hz2 rfl (by decide) _ _ _ rfl HO1.out ⟨wr.heap.size + 1, 0, none⟩ 1 1 [.int .i64 id, .int .i64 txn, .int .i64 mx] rfl rfl (cells_new' _ _ _ (by simp)) (by intro u hu; simp at hu; rcases hu with rfl | rfl | rfl <;> rfl) (by unfold maxLen; omega) (by omega) (by simp; omega) ?_; intro v' w' hown hgrow hnil hat; obtain ⟨Av', cv', rfl⟩ := ownsRow_form hown; obtain ⟨r1, r2⟩ := HAPP.out _ w' hown hgrow hat; have hE' := r2 W0 HEA.out (by have := HSZ0.out; omega); have mo2 := fun o => cell_of_row _ _ o _ _ _ ((hgrow.block wr.heap.size (by simp; omega) HVB.out).trans (heap_alloc2_old wr _ _)); obtain ⟨cs2, ho2, hle2, happ2⟩ := lock_push r1 HWX.out; rw [HYL.out] at ho2 happ2; have HO2 := Lib.hid ho2; have HAPP2 := Lib.hid happ2; have HE' := Lib.hid hE'; clear ho2 happ2 hE' r1 r2 hown hgrow hnil hat)
                  | (refine wpList_append_own_at _ rfl _ _ 24 rfl (w.heap.size + 1) 63 i0 _ 3 24 Try.underlying24 hi hz0 hz1 hz2 rfl (by decide) _ _ _ rfl HO2.out ⟨w'.heap.size, 0, none⟩ 1 1 [.int .i64 x.Id, .int .i64 x.Txn, .int .i64 x.Mode] rfl rfl (cells_new' _ _ _ (by simp)) (by intro u hu; simp at hu; rcases hu with rfl | rfl | rfl <;> rfl) (by unfold maxLen; omega) (by omega) (by simp; omega) ?_; intro v2 w2' hown2 hgrow2 hnil2 hat2; obtain ⟨Av2, cv2, rfl⟩ := ownsRow_form hown2))
                go_roundg (xs.length - (k + 1))
                case measure => have := HMK.out; omega
                case rel =>
                  obtain ⟨r1, r2⟩ := HAPP2.out _ w2' hown2 hgrow2 hat2
                  exact ⟨k + 1, by have := HMK.out; omega, by go_num, by rw [HN.out], by rw [HN.out]; exact r1, r2 W0 HE'.out (by have := HSZ0.out; omega)⟩
              · rw [h1] at h5; cases h5
              · have HN := Lib.hid (hq)
                obtain ⟨cs, ho, hle, happ⟩ := lock_push hown2 HWX.out
                have HO1 := Lib.hid ho; have HAPP := Lib.hid happ
                clear hq ho happ hown2
                go_wp2_with (at_builtin; (go_must (refine wpList_append_own_at _ rfl _ _ 24 rfl (w.heap.size + 1) 63 i0 _ 3 24 Try.underlying24 hi hz0 hz1 hz2 rfl (by decide) _ _ _ rfl HO1.out ⟨wr.heap.size + 1, 0, none⟩ 1 1 [.int .i64 x.Id, .int .i64 x.Txn, .int .i64 x.Mode] rfl rfl (cells_new' _ _ _ (by simp)) (by intro u hu; simp at hu; rcases hu with rfl | rfl | rfl <;> rfl) (by unfold maxLen; omega) (by omega) (by simp; omega) ?_)); intro v' w' hown hgrow hnil hat; obtain ⟨Av', cv', rfl⟩ := ownsRow_form hown)
                go_roundg (xs.length - (k + 1))
                case measure => have := HMK.out; omega
                case rel =>
                  obtain ⟨r1, r2⟩ := HAPP.out _ w' hown hgrow hat
                  exact ⟨k + 1, by have := HMK.out; omega, by go_num, by rw [HN.out], by rw [HN.out]; exact r1, r2 W0 HEA.out (by have := HSZ0.out; omega)⟩
              · rw [h1] at h5; cases h5
              · have HN := Lib.hid (hq)
                obtain ⟨cs, ho, hle, happ⟩ := lock_push hown2 HWX.out
                have HO1 := Lib.hid ho; have HAPP := Lib.hid happ
                clear hq ho happ hown2
                go_wp2_with (at_builtin; (go_must (refine wpList_append_own_at _ rfl _ _ 24 rfl (w.heap.size + 1) 63 i0 _ 3 24 Try.underlying24 hi hz0 hz1 hz2 rfl (by decide) _ _ _ rfl HO1.out ⟨wr.heap.size + 1, 0, none⟩ 1 1 [.int .i64 x.Id, .int .i64 x.Txn, .int .i64 x.Mode] rfl rfl (cells_new' _ _ _ (by simp)) (by intro u hu; simp at hu; rcases hu with rfl | rfl | rfl <;> rfl) (by unfold maxLen; omega) (by omega) (by simp; omega) ?_)); intro v' w' hown hgrow hnil hat; obtain ⟨Av', cv', rfl⟩ := ownsRow_form hown)
                go_roundg (xs.length - (k + 1))
                case measure => have := HMK.out; omega
                case rel =>
                  obtain ⟨r1, r2⟩ := HAPP.out _ w' hown hgrow hat
                  exact ⟨k + 1, by have := HMK.out; omega, by go_num, by rw [HN.out], by rw [HN.out]; exact r1, r2 W0 HEA.out (by have := HSZ0.out; omega)⟩
              · exfalso; have q1 := of_decide_eq_true h4; have q2 := eq_of_beq h1; omega
              · have HN := Lib.hid (hq)
                obtain ⟨cs, ho, hle, happ⟩ := lock_push hown2 HWN.out
                have HO1 := Lib.hid ho; have HAPP := Lib.hid happ
                have hyl : (ys ++ [(⟨id, txn, mx⟩ : DLock)]).length = ys.length + 1 := by simp
                have HYL := Lib.hid hyl
                clear hq ho happ hyl hown2
                go_wp2_with (at_builtin; first
                  | (refine wpList_append_own_at _ rfl _ _ 24 rfl (w.heap.size + 1) 63 i0 _ 3 24 Try.underlying24 hi hz0 hz1 hz2 rfl (by decide) _ _ _ rfl HO1.out ⟨wr.heap.size + 1, 0, none⟩ 1 1 [.int .i64 id, .int .i64 txn, .int .i64 mx] rfl rfl (cells_new' _ _ _ (by simp)) (by intro u hu; simp at hu; rcases hu with rfl | rfl | rfl <;> rfl) (by unfold maxLen; omega) (by omega) (by simp; omega) ?_; intro v' w' hown hgrow hnil hat; obtain ⟨Av', cv', rfl⟩ := ownsRow_form hown; obtain ⟨r1, r2⟩ := HAPP.out _ w' hown hgrow hat; have hE' := r2 W0 HEA.out (by have := HSZ0.out; omega); have mo2 := fun o => cell_of_row _ _ o _ _ _ ((hgrow.block wr.heap.size (by simp; omega) HVB.out).trans (heap_alloc2_old wr _ _)); obtain ⟨cs2, ho2, hle2, happ2⟩ := lock_push r1 HWX.out; rw [HYL.out] at ho2 happ2; have HO2 := Lib.hid ho2; have HAPP2 := Lib.hid happ2; have HE' := Lib.hid hE'; clear ho2 happ2 hE' r1 r2 hown hgrow hnil hat)
                  | (refine wpList_append_own_at _ rfl _ _ 24 rfl (w.heap.size + 1) 63 i0 _ 3 24 Try.underlying24 hi hz0 hz1 hz2 rfl (by decide) _ _ _ rfl HO2.out ⟨w'.heap.size, 0, none⟩ 1 1 [.int .i64 x.Id, .int .i64 x.Txn, .int .i64 x.Mode] rfl rfl (cells_new' _ _ _ (by simp)) (by intro u hu; simp at hu; rcases hu with rfl | rfl | rfl <;> rfl) (by unfold maxLen; omega) (by omega) (by simp; omega) ?_; intro v2 w2' hown2 hgrow2 hnil2 hat2; obtain ⟨Av2, cv2, rfl⟩ := ownsRow_form hown2))
                go_roundg (xs.length - (k + 1))
                case measure => have := HMK.out; omega
                case rel =>
                  obtain ⟨r1, r2⟩ := HAPP2.out _ w2' hown2 hgrow2 hat2
                  exact ⟨k + 1, by have := HMK.out; omega, by go_num, by rw [HN.out], by rw [HN.out]; exact r1, r2 W0 HE'.out (by have := HSZ0.out; omega)⟩
            · have hkk : k = xs.length := by have := HMK.out; omega
              subst hkk
              generalize up xs.length = s at *
              obtain ⟨dn, ys⟩ := s
              dsimp only at *
              obtain ⟨Av, cv, rfl, -⟩ := HOWN.out.form
              cases dn
              · have HRz := Lib.hid (show R = ⟨0, ys ++ [⟨id, txn, mx⟩]⟩ by rw [HAP.out]; rfl)
                obtain ⟨cs, ho, hle, happ⟩ := lock_push HOWN.out HWN.out
                have HO1 := Lib.hid ho; have HAPP := Lib.hid happ
                clear ho happ
                go_wp2_with (at_builtin; (go_must (refine wpList_append_own_at _ rfl _ _ 24 rfl (w.heap.size + 1) 63 i0 _ 3 24 Try.underlying24 hi hz0 hz1 hz2 rfl (by decide) _ _ _ rfl HO1.out ⟨wr.heap.size, 0, none⟩ 1 1 [.int .i64 id, .int .i64 txn, .int .i64 mx] rfl rfl (cells_new' _ _ _ (by simp)) (by intro u hu; simp at hu; rcases hu with rfl | rfl | rfl <;> rfl) (by unfold maxLen; omega) (by omega) (by simp; omega) ?_)); intro v' w' hown hgrow hnil hat; obtain ⟨Av', cv', rfl⟩ := ownsRow_form hown; obtain ⟨r1, r2⟩ := HAPP.out _ w' hown hgrow hat; have hE' := r2 W0 HE.out (by have := HSZ0.out; omega); have m2 := fun o => cell_of_row _ _ o _ _ _ (hE'.heap HB.out (by simp)); have f2 := fun o => frozen_of_row _ _ o _ _ (hE'.heap HB.out (by simp)); have HE' := Lib.hid hE'; have HR1 := Lib.hid r1; clear hE' r1 r2 hown hgrow hnil hat)
                refine bodyPost_ret (v := .agg #[.int .i64 0, .slice Av' (ys.length + 1) cv']) (by simp [results, Try.results9, go_sem, m2]) rfl ?_
                rw [HRz.out]
                refine lockRes_own (n := w.heap.size + 1) ((HR1.out.keep (H := [w.heap.size]) (by repeat (first | with_reducible exact Only.refl _ _ | ((with_reducible apply Only.set); · simp))) (by simp))) (Nat.le_succ _) (by repeat (first | with_reducible exact (HE0.out.ext HE'.out) | ((with_reducible apply Only.set); · simp)))
              · have HRz := Lib.hid (show R = ⟨0, ys⟩ by rw [HAP.out]; rfl)
                have m2 := fun o => cell_of_row _ _ o _ _ _ (HE.out.heap HB.out (by simp))
                have f2 := fun o => frozen_of_row _ _ o _ _ (HE.out.heap HB.out (by simp))
                go_wp2
                refine bodyPost_ret (v := .agg #[.int .i64 0, .slice Av ys.length cv]) (by simp [results, Try.results9, go_sem, m2]) rfl ?_
                rw [HRz.out]
                refine lockRes_own (n := w.heap.size + 1) ((HOWN.out.keep (H := [w.heap.size]) (by repeat (first | with_reducible exact Only.refl _ _ | ((with_reducible apply Only.set); · simp))) (by simp))) (Nat.le_succ _) (by repeat (first | with_reducible exact (HE0.out.ext HE.out) | ((with_reducible apply Only.set); · simp)))
  · clear K2 K3 K4 HOR
    have HQ := Lib.hid q3
    clear q3
    go_enter Try.func9, Try.ntmps9
    go_wp2_with fail
    generalize (w.alloc (.cells #[.int .i64 0, .slice none 0 0] 26)) = W0 at *
    refine (specLocksFault_calls _ _ _ _ _ H.out).mono ?_
    rw [HF0.out]
    rintro e w1 ⟨rfl, hO⟩
    have HE1 := Lib.hid hO
    clear hO
    go_wp2_with (first | (go_at_call 39; refine (specIn_calls _ _ _ _).mono ?_; rintro e w9 ⟨rfl, rfl⟩) | fail)
    refine (specMode_calls _ _ _ _ _ (Rep.sl_ext H.out HE1.out) txn id).mono ?_
    rw [HMI.out]
    rintro e w2 ⟨rfl, hO⟩
    have HE2 := Lib.hid (HE1.out.ext hO)
    clear hO
    have m2 := fun o => cell_of_row _ _ o _ _ _ (HE2.out.heap HB.out (by simp))
    have f2 := fun o => frozen_of_row _ _ o _ _ (HE2.out.heap HB.out (by simp))
    go_wp2
    refine bodyPost_ret (v := .agg #[.int .i64 2, .slice none 0 0]) (by simp [results, Try.results9, go_sem, m2]) rfl ?_
    rw [HQ.out]
    exact lockRes_code (by rfl) (by repeat (first | with_reducible exact (HE0.out.ext HE2.out) | ((with_reducible apply Only.set); · simp)))
  all_goals rcases hA with ⟨q1, q2⟩ | q1
  · have HQ := Lib.hid q3
    clear q3
    go_enter Try.func9, Try.ntmps9
    go_wp2_with fail
    generalize (w.alloc (.cells #[.int .i64 0, .slice none 0 0] 26)) = W0 at *
    refine (specLocksFault_calls _ _ _ _ _ H.out).mono ?_
    rw [HF0.out]
    rintro e w1 ⟨rfl, hO⟩
    have HE1 := Lib.hid hO
    clear hO
    go_wp2_with (first | (go_at_call 39; refine (specIn_calls _ _ _ _).mono ?_; rintro e w9 ⟨rfl, rfl⟩) | fail)
    refine (specMode_calls _ _ _ _ _ (Rep.sl_ext H.out HE1.out) txn id).mono ?_
    rw [HMI.out]
    rintro e w2 ⟨rfl, hO⟩
    have HE2 := Lib.hid (HE1.out.ext hO)
    clear hO
    go_wp2_with fail
    refine (specOthers_calls _ _ _ _ _ (Rep.sl_ext H.out HE2.out) txn id).mono ?_
    rw [HTI.out]
    rintro e w3 ⟨rfl, hO⟩
    have HE3 := Lib.hid (HE2.out.ext hO)
    clear hO
    have m2 := fun o => cell_of_row _ _ o _ _ _ (HE3.out.heap HB.out (by simp))
    have f2 := fun o => frozen_of_row _ _ o _ _ (HE3.out.heap HB.out (by simp))
    go_wp2
    refine bodyPost_ret (v := .agg #[.int .i64 1, .slice none 0 0]) (by simp [results, Try.results9, go_sem, m2]) rfl ?_
    rw [HQ.out]
    exact lockRes_code (by rfl) (by repeat (first | with_reducible exact (HE0.out.ext HE3.out) | ((with_reducible apply Only.set); · simp)))
  · have HQ := Lib.hid q3
    clear q3
    go_enter Try.func9, Try.ntmps9
    go_wp2_with fail
    generalize (w.alloc (.cells #[.int .i64 0, .slice none 0 0] 26)) = W0 at *
    refine (specLocksFault_calls _ _ _ _ _ H.out).mono ?_
    rw [HF0.out]
    rintro e w1 ⟨rfl, hO⟩
    have HE1 := Lib.hid hO
    clear hO
    go_wp2_with (first | (go_at_call 39; refine (specIn_calls _ _ _ _).mono ?_; rintro e w9 ⟨rfl, rfl⟩) | fail)
    refine (specMode_calls _ _ _ _ _ (Rep.sl_ext H.out HE1.out) txn id).mono ?_
    rw [HMI.out]
    rintro e w2 ⟨rfl, hO⟩
    have HE2 := Lib.hid (HE1.out.ext hO)
    clear hO
    go_wp2_with fail
    refine (specOthers_calls _ _ _ _ _ (Rep.sl_ext H.out HE2.out) txn id).mono ?_
    rw [HTI.out]
    rintro e w3 ⟨rfl, hO⟩
    have HE3 := Lib.hid (HE2.out.ext hO)
    clear hO
    have m2 := fun o => cell_of_row _ _ o _ _ _ (HE3.out.heap HB.out (by simp))
    have f2 := fun o => frozen_of_row _ _ o _ _ (HE3.out.heap HB.out (by simp))
    go_wp2
    refine bodyPost_ret (v := .agg #[.int .i64 1, .slice none 0 0]) (by simp [results, Try.results9, go_sem, m2]) rfl ?_
    rw [HQ.out]
    exact lockRes_code (by rfl) (by repeat (first | with_reducible exact (HE0.out.ext HE3.out) | ((with_reducible apply Only.set); · simp)))
  · have HQ := Lib.hid q3
    clear q3
    go_enter Try.func9, Try.ntmps9
    go_wp2_with fail
    generalize (w.alloc (.cells #[.int .i64 0, .slice none 0 0] 26)) = W0 at *
    refine (specLocksFault_calls _ _ _ _ _ H.out).mono ?_
    rw [HF0.out]
    rintro e w1 ⟨rfl, hO⟩
    have HE1 := Lib.hid hO
    clear hO
    go_wp2_with (first | (go_at_call 39; refine (specIn_calls _ _ _ _).mono ?_; rintro e w9 ⟨rfl, rfl⟩) | fail)
    refine (specMode_calls _ _ _ _ _ (Rep.sl_ext H.out HE1.out) txn id).mono ?_
    rw [HMI.out]
    rintro e w2 ⟨rfl, hO⟩
    have HE2 := Lib.hid (HE1.out.ext hO)
    clear hO
    go_wp2_with fail
    refine (specOthers_calls _ _ _ _ _ (Rep.sl_ext H.out HE2.out) txn id).mono ?_
    rw [HTI.out]
    rintro e w3 ⟨rfl, hO⟩
    have HE3 := Lib.hid (HE2.out.ext hO)
    clear hO
    have m2 := fun o => cell_of_row _ _ o _ _ _ (HE3.out.heap HB.out (by simp))
    have f2 := fun o => frozen_of_row _ _ o _ _ (HE3.out.heap HB.out (by simp))
    go_wp2
    refine bodyPost_ret (v := .agg #[.int .i64 1, .slice none 0 0]) (by simp [results, Try.results9, go_sem, m2]) rfl ?_
    rw [HQ.out]
    exact lockRes_code (by rfl) (by repeat (first | with_reducible exact (HE0.out.ext HE3.out) | ((with_reducible apply Only.set); · simp)))
  · have HQ := Lib.hid q3
    clear q3
    go_enter Try.func9, Try.ntmps9
    go_wp2_with fail
    generalize (w.alloc (.cells #[.int .i64 0, .slice none 0 0] 26)) = W0 at *
    refine (specLocksFault_calls _ _ _ _ _ H.out).mono ?_
    rw [HF0.out]
    rintro e w1 ⟨rfl, hO⟩
    have HE1 := Lib.hid hO
    clear hO
    go_wp2_with (first | (go_at_call 39; refine (specIn_calls _ _ _ _).mono ?_; rintro e w9 ⟨rfl, rfl⟩) | fail)
    refine (specMode_calls _ _ _ _ _ (Rep.sl_ext H.out HE1.out) txn id).mono ?_
    rw [HMI.out]
    rintro e w2 ⟨rfl, hO⟩
    have HE2 := Lib.hid (HE1.out.ext hO)
    clear hO
    go_wp2_with fail
    refine (specOthers_calls _ _ _ _ _ (Rep.sl_ext H.out HE2.out) txn id).mono ?_
    rw [HTI.out]
    rintro e w3 ⟨rfl, hO⟩
    have HE3 := Lib.hid (HE2.out.ext hO)
    clear hO
    have m2 := fun o => cell_of_row _ _ o _ _ _ (HE3.out.heap HB.out (by simp))
    have f2 := fun o => frozen_of_row _ _ o _ _ (HE3.out.heap HB.out (by simp))
    go_wp2
    refine bodyPost_ret (v := .agg #[.int .i64 1, .slice none 0 0]) (by simp [results, Try.results9, go_sem, m2]) rfl ?_
    rw [HQ.out]
    exact lockRes_code (by rfl) (by repeat (first | with_reducible exact (HE0.out.ext HE3.out) | ((with_reducible apply Only.set); · simp)))
end Go.Proofs.Ytildfjlekplgjaa
