/- DecodeRecord, the program's: the tables, joined. -/
import Derived.Test.YtghgjddiheebeaaDoorMSC
import Derived.Test.YtghgjddiheebeaaDoorMSD
import Derived.Test.YtghgjddiheebeaaDoorMSB
import Derived.Deep.RegionHeld3
import Derived.Deep.DeepCutAuto
import Derived.Deep.CutBlock
import Derived.Test.YtghgjddiheebeaaDoorMTB
import Derived.Test.YtghgjddiheebeaaDoorMTC
import Derived.Test.YtghgjddiheebeaaDoorMG6
namespace Go.Proofs.YtghgjddiheebeaaDoor
open Go.RowKit
set_option linter.unusedSimpArgs false
set_option linter.unusedVariables false

theorem implDec_7 (w : World) (A : Option Addr) (c : Nat) (b : List Int) (F : List Nat) (h : (Rep.int .u8).sl w A c b F) (hm : b.length ≤ 1048576) (t pv : Int) (r1 r2 r3 : List Int) (b1 b2 b3 : Bool)
    (hk : rdNum 1 (b, false) = (7, (r1, b1))) (ht : rdNum 4 (r1, b1) = (t, (r2, b2))) (hp : rdNum 8 (r2, b2) = (pv, (r3, b3))) (nt : Int) (nn mm : Nat) (ts : List DTxnEntry) (ds : List DDirtyEntry) (r4 r5 r6 r7 r8 : List Int) (b4 b5 b6 b7 b8 : Bool)
    (h4 : rdNum 4 (r3, b3) = (nt, (r4, b4))) (h5 : rdNum 1 (r4, b4) = ((nn : Int), (r5, b5))) (h6 : rdTs nn (r5, b5) = (ts, (r6, b6))) (h7 : rdNum 1 (r6, b6) = ((mm : Int), (r7, b7))) (h8 : rdDs mm (r7, b7) = (ds, (r8, b8))) :
    Calls Tryd.prog 46 #[.slice A b.length c] w (NewPost Rep.RecordResult (decR ⟨7, t, pv, 0, 0, ⟨false, []⟩, ⟨false, []⟩, 0, nt, ts, ds, []⟩ b8 b) w) := by
  by_cases hbad : b8 = true
  · rw [show decR _ _ _ = ⟨false, zeroRecD⟩ from if_neg (by rw [hbad]; rintro ⟨hq, -⟩; cases hq)]
    exact implDec_7_A w A c b F h hm t pv r1 r2 r3 b1 b2 b3 hk ht hp nt nn mm ts ds r4 r5 r6 r7 r8 b4 b5 b6 b7 b8 h4 h5 h6 h7 h8 (.inl hbad)
  have hb0 : b8 = false := by simpa using hbad
  by_cases hf0 : recFault ⟨7, t, pv, 0, 0, ⟨false, []⟩, ⟨false, []⟩, 0, nt, ts, ds, []⟩ = 0
  case neg =>
    rw [show decR _ _ _ = ⟨false, zeroRecD⟩ from if_neg (by rintro ⟨-, hq, -⟩; exact hf0 hq)]
    exact implDec_7_A w A c b F h hm t pv r1 r2 r3 b1 b2 b3 hk ht hp nt nn mm ts ds r4 r5 r6 r7 r8 b4 b5 b6 b7 b8 h4 h5 h6 h7 h8 (.inr ⟨hb0, hf0⟩)
  refine implDec_7_B w A c b F h hm t pv r1 r2 r3 b1 b2 b3 hk ht hp nt nn mm ts ds r4 r5 r6 r7 r8 b4 b5 b6 b7 b8 h4 h5 h6 h7 h8 hb0 hf0 _ ?_
  by_cases hqe : encRec ⟨7, t, pv, 0, 0, ⟨false, []⟩, ⟨false, []⟩, 0, nt, ts, ds, []⟩ = b
  · exact .inr ⟨hqe, if_pos ⟨hb0, hf0, hqe⟩⟩
  · exact .inl ⟨hqe, if_neg (by rintro ⟨-, -, hq⟩; exact hqe hq)⟩
end Go.Proofs.YtghgjddiheebeaaDoor
/- DecodeRecord, the specification's: the tables, joined. -/
namespace Go.Proofs.YtghgjddiheebeaaDoor
open Go.RowKit
set_option linter.unusedSimpArgs false
set_option linter.unusedVariables false

theorem specDec_7 (w : World) (A : Option Addr) (c : Nat) (b : List Int) (F : List Nat) (h : (Rep.int .u8).sl w A c b F) (hm : b.length ≤ 1048576) (t pv : Int)
    (hk : getNum (extB b 0 1) = 7) (ht : getNum (extB b 1 4) = t) (hp : getNum (extB b 5 8) = pv) (nt : Int) (nn mm o1 o2 : Nat) (ts : List DTxnEntry) (ds : List DDirtyEntry)
    (h4 : getNum (extB b 13 4) = nt) (h5 : getNum (extB b 17 1) = (nn : Int)) (h6 : rsTs b nn 18 = (ts, o1)) (h7 : getNum (extB b o1 1) = (mm : Int)) (h8 : rsDs b mm (o1 + 1) = (ds, o2)) :
    Calls Tryd.prog 45 #[.slice A b.length c] w (NewPost Rep.RecordResult (decR ⟨7, t, pv, 0, 0, ⟨false, []⟩, ⟨false, []⟩, 0, nt, ts, ds, []⟩ false b) w) := by
  by_cases hf0 : recFault ⟨7, t, pv, 0, 0, ⟨false, []⟩, ⟨false, []⟩, 0, nt, ts, ds, []⟩ = 0
  case neg =>
    rw [show decR _ _ _ = ⟨false, zeroRecD⟩ from if_neg (by rintro ⟨-, hq, -⟩; exact hf0 hq)]
    exact specDec_7_A w A c b F h hm t pv hk ht hp nt nn mm o1 o2 ts ds h4 h5 h6 h7 h8 hf0
  refine specDec_7_B w A c b F h hm t pv hk ht hp nt nn mm o1 o2 ts ds h4 h5 h6 h7 h8 hf0 _ ?_
  by_cases hqe : encRec ⟨7, t, pv, 0, 0, ⟨false, []⟩, ⟨false, []⟩, 0, nt, ts, ds, []⟩ = b
  · exact .inr ⟨hqe, if_pos ⟨rfl, hf0, hqe⟩⟩
  · exact .inl ⟨hqe, if_neg (by rintro ⟨-, -, hq⟩; exact hqe hq)⟩
end Go.Proofs.YtghgjddiheebeaaDoor
/- DecodeRecord, the program's: all kinds joined; the bound on the result's size. -/
namespace Go.Proofs.YtghgjddiheebeaaDoor
open Go.RowKit
set_option linter.unusedSimpArgs false
set_option linter.unusedVariables false
theorem implDecode_new (w : World) (A : Option Addr) (c : Nat) (b : List Int) (F : List Nat) (h : (Rep.int .u8).sl w A c b F) (hm : b.length ≤ 1048576) :
    Calls Tryd.prog 46 #[.slice A b.length c] w (NewPost Rep.RecordResult (decI b) w) := by
  have hby : isByte b := fun z hz => Lib.byte_of_wf (sl_wf h z hz)
  obtain ⟨⟨k, ⟨r1, b1⟩⟩, hk⟩ : ∃ x, rdNum 1 (b, false) = x := ⟨_, rfl⟩
  obtain ⟨⟨t, ⟨r2, b2⟩⟩, ht⟩ : ∃ x, rdNum 4 (r1, b1) = x := ⟨_, rfl⟩
  obtain ⟨⟨pv, ⟨r3, b3⟩⟩, hp⟩ : ∃ x, rdNum 8 (r2, b2) = x := ⟨_, rfl⟩
  by_cases h1 : k = 1
  · subst h1
    obtain ⟨⟨pg, ⟨r4, b4⟩⟩, h4⟩ : ∃ x, rdNum 2 (r3, b3) = x := ⟨_, rfl⟩
    obtain ⟨⟨sl, ⟨r5, b5⟩⟩, h5⟩ : ∃ x, rdNum 2 (r4, b4) = x := ⟨_, rfl⟩
    obtain ⟨⟨xb, ⟨r6, b6⟩⟩, h6⟩ : ∃ x, rdSlot (r5, b5) = x := ⟨_, rfl⟩
    obtain ⟨⟨ya, ⟨r7, b7⟩⟩, h7⟩ : ∃ x, rdSlot (r6, b6) = x := ⟨_, rfl⟩
    have e : readI b = (⟨1, t, pv, pg, sl, xb, ya, 0, 0, [], [], []⟩, b7) := by
      unfold readI
      dsimp only
      rw [hk]; dsimp only
      rw [ht]; dsimp only
      rw [hp]; dsimp only
      rw [if_pos rfl, h4]; dsimp only
      rw [h5]; dsimp only
      rw [h6]; dsimp only
      rw [h7]
    rw [decI, e]
    exact implDec_1 w A c b F h hm t pv r1 r2 r3 b1 b2 b3 hk ht hp pg sl r4 r5 r6 r7 b4 b5 b6 b7 xb ya h4 h5 h6 h7
  by_cases h2 : k = 2
  · subst h2
    obtain ⟨⟨pg, ⟨r4, b4⟩⟩, h4⟩ : ∃ x, rdNum 2 (r3, b3) = x := ⟨_, rfl⟩
    obtain ⟨⟨sl, ⟨r5, b5⟩⟩, h5⟩ : ∃ x, rdNum 2 (r4, b4) = x := ⟨_, rfl⟩
    obtain ⟨⟨ya, ⟨r6, b6⟩⟩, h6⟩ : ∃ x, rdSlot (r5, b5) = x := ⟨_, rfl⟩
    obtain ⟨⟨un, ⟨r7, b7⟩⟩, h7⟩ : ∃ x, rdNum 8 (r6, b6) = x := ⟨_, rfl⟩
    have e : readI b = (⟨2, t, pv, pg, sl, ⟨false, []⟩, ya, un, 0, [], [], []⟩, b7) := by
      unfold readI
      dsimp only
      rw [hk]; dsimp only
      rw [ht]; dsimp only
      rw [hp]; dsimp only
      rw [if_neg (by decide), if_pos rfl, h4]; dsimp only
      rw [h5]; dsimp only
      rw [h6]; dsimp only
      rw [h7]
    rw [decI, e]
    exact implDec_2 w A c b F h hm t pv r1 r2 r3 b1 b2 b3 hk ht hp pg sl un r4 r5 r6 r7 b4 b5 b6 b7 ya h4 h5 h6 h7
  by_cases h7' : k = 7
  · subst h7'
    obtain ⟨-, y1, -⟩ := rdNum_room hk hby (by decide)
    obtain ⟨-, y2, -⟩ := rdNum_room ht y1 (by decide)
    obtain ⟨-, y3, -⟩ := rdNum_room hp y2 (by decide)
    obtain ⟨⟨nt, ⟨r4, b4⟩⟩, h4⟩ : ∃ x, rdNum 4 (r3, b3) = x := ⟨_, rfl⟩
    obtain ⟨-, y4, -⟩ := rdNum_room h4 y3 (by decide)
    obtain ⟨⟨nz, ⟨r5, b5⟩⟩, h5⟩ : ∃ x, rdNum 1 (r4, b4) = x := ⟨_, rfl⟩
    obtain ⟨-, y5, -⟩ := rdNum_room h5 y4 (by decide)
    obtain ⟨nn, rfl⟩ : ∃ n : Nat, nz = n := ⟨nz.toNat, (Int.toNat_of_nonneg (rdNum1_room h5 y4).1).symm⟩
    obtain ⟨⟨ts, ⟨r6, b6⟩⟩, h6⟩ : ∃ x, rdTs nn (r5, b5) = x := ⟨_, rfl⟩
    have hyl := rdTs_room nn (r5, b5)
    rw [h6] at hyl
    have y6 : isByte r6 := fun z hz => y5 z (hyl.2 z hz)
    obtain ⟨⟨mz, ⟨r7, b7⟩⟩, h7⟩ : ∃ x, rdNum 1 (r6, b6) = x := ⟨_, rfl⟩
    obtain ⟨mm, rfl⟩ : ∃ n : Nat, mz = n := ⟨mz.toNat, (Int.toNat_of_nonneg (rdNum1_room h7 y6).1).symm⟩
    obtain ⟨⟨ds, ⟨r8, b8⟩⟩, h8⟩ : ∃ x, rdDs mm (r7, b7) = x := ⟨_, rfl⟩
    have e : readI b = (⟨7, t, pv, 0, 0, ⟨false, []⟩, ⟨false, []⟩, 0, nt, ts, ds, []⟩, b8) := by
      unfold readI
      dsimp only
      rw [hk]; dsimp only
      rw [ht]; dsimp only
      rw [hp]; dsimp only
      rw [if_neg (by decide), if_neg (by decide), if_pos rfl, h4]; dsimp only
      rw [h5]; dsimp only
      rw [Int.toNat_natCast, h6]; dsimp only
      rw [h7]; dsimp only
      rw [Int.toNat_natCast, h8]
    rw [decI, e]
    exact implDec_7 w A c b F h hm t pv r1 r2 r3 b1 b2 b3 hk ht hp nt nn mm ts ds r4 r5 r6 r7 r8 b4 b5 b6 b7 b8 h4 h5 h6 h7 h8
  by_cases h8 : k = 8
  · subst h8
    obtain ⟨⟨pg, ⟨r4, b4⟩⟩, h4⟩ : ∃ x, rdNum 2 (r3, b3) = x := ⟨_, rfl⟩
    have e : readI b = (⟨8, t, pv, pg, 0, ⟨false, []⟩, ⟨false, []⟩, 0, 0, [], [], r4⟩, b4) := by
      unfold readI
      dsimp only
      rw [hk]; dsimp only
      rw [ht]; dsimp only
      rw [hp]; dsimp only
      rw [if_neg (by decide), if_neg (by decide), if_neg (by decide), if_pos rfl, h4]
    rw [decI, e]
    exact implDec_8 w A c b F h hm t pv r1 r2 r3 b1 b2 b3 hk ht hp pg r4 b4 h4
  · have e : readI b = (⟨k, t, pv, 0, 0, ⟨false, []⟩, ⟨false, []⟩, 0, 0, [], [], []⟩, b3) := by
      unfold readI
      dsimp only
      rw [hk]; dsimp only
      rw [ht]; dsimp only
      rw [hp]; dsimp only
      rw [if_neg h1, if_neg h2, if_neg h7', if_neg h8]
    rw [decI, e]
    exact implDec_plain w A c b F h hm k t pv r1 r2 r3 b1 b2 b3 hk ht hp h1 h2 h7' h8
theorem rec_wt {x : DLogRecord} (h : recFault x = 0) : wtLogRecord x ≤ 10000 := by
  have ok := recOk h
  have no := recNo h
  have hk := ok.kind
  have hb : x.Before.Data.length ≤ 1000 := by
    by_cases h1 : x.Kind = 1
    · exact (ok.bef (by omega)).1
    · rw [no.be h1]; decide
  have ha : x.After.Data.length ≤ 1000 := by
    by_cases h1 : x.Kind ≤ 2
    · exact (ok.aft h1).1
    · rw [(no.sl (by omega)).2]; decide
  have ht : x.Txns.length ≤ 8 ∧ x.Dirty.length ≤ 16 := by
    by_cases h1 : x.Kind = 7
    · have := tabOk (ok.tab h1)
      exact ⟨this.lt, this.ld⟩
    · rw [(no.tb h1).2.1, (no.tb h1).2.2]; decide
  have hi : x.Image.length ≤ 4096 := by
    by_cases h1 : x.Kind = 8
    · exact Nat.le_of_eq (fault_zero (ok.img h1)).1
    · rw [no.im h1]; decide
  simp only [wtLogRecord, wtPageRecord]
  omega
theorem decI_ct (b : List Int) : ctTopRecordResult (decI b) ≤ 1152921504606846976 := by
  have h1 := ctTopRecordResult_wt (decI b)
  have h2 : wtRecordResult (decI b) ≤ 10000 := by
    unfold decI decR
    split
    · rename_i hq
      exact rec_wt hq.2.1
    · simp [wtRecordResult, wtLogRecord, wtPageRecord, zeroRecD]
  omega
end Go.Proofs.YtghgjddiheebeaaDoor
/- DecodeRecord, the specification's: all kinds joined; the contracts as the law's walk wants them. -/
namespace Go.Proofs.YtghgjddiheebeaaDoor
open Go.RowKit
set_option linter.unusedSimpArgs false
set_option linter.unusedVariables false
theorem specDecode_new (w : World) (A : Option Addr) (c : Nat) (b : List Int) (F : List Nat) (h : (Rep.int .u8).sl w A c b F) (hm : b.length ≤ 1048576) :
    Calls Tryd.prog 45 #[.slice A b.length c] w (NewPost Rep.RecordResult (decS b) w) := by
  have hby : isByte b := fun z hz => Lib.byte_of_wf (sl_wf h z hz)
  obtain ⟨k, hk⟩ : ∃ x, getNum (extB b 0 1) = x := ⟨_, rfl⟩
  obtain ⟨t, ht⟩ : ∃ x, getNum (extB b 1 4) = x := ⟨_, rfl⟩
  obtain ⟨pv, hp⟩ : ∃ x, getNum (extB b 5 8) = x := ⟨_, rfl⟩
  by_cases h1 : k = 1
  · subst h1
    obtain ⟨pg, h4⟩ : ∃ x, getNum (extB b 13 2) = x := ⟨_, rfl⟩
    obtain ⟨sl, h5⟩ : ∃ x, getNum (extB b 15 2) = x := ⟨_, rfl⟩
    obtain ⟨⟨xb, o1⟩, h6⟩ : ∃ x, spSlot b 17 = x := ⟨_, rfl⟩
    obtain ⟨⟨ya, o2⟩, h7⟩ : ∃ x, spSlot b o1 = x := ⟨_, rfl⟩
    have e : readS b = ⟨1, t, pv, pg, sl, xb, ya, 0, 0, [], [], []⟩ := by
      unfold readS
      dsimp only
      rw [hk, ht, hp, if_pos rfl, h4, h5, h6]; dsimp only
      rw [h7]
    rw [decS, e]
    exact specDec_1 w A c b F h hm t pv hk ht hp pg sl o1 o2 xb ya h4 h5 h6 h7
  by_cases h2 : k = 2
  · subst h2
    obtain ⟨pg, h4⟩ : ∃ x, getNum (extB b 13 2) = x := ⟨_, rfl⟩
    obtain ⟨sl, h5⟩ : ∃ x, getNum (extB b 15 2) = x := ⟨_, rfl⟩
    obtain ⟨⟨ya, o1⟩, h6⟩ : ∃ x, spSlot b 17 = x := ⟨_, rfl⟩
    obtain ⟨un, h7⟩ : ∃ x, getNum (extB b o1 8) = x := ⟨_, rfl⟩
    have e : readS b = ⟨2, t, pv, pg, sl, ⟨false, []⟩, ya, un, 0, [], [], []⟩ := by
      unfold readS
      dsimp only
      rw [hk, ht, hp, if_neg (by decide), if_pos rfl, h4, h5, h6]; dsimp only
      rw [h7]
    rw [decS, e]
    exact specDec_2 w A c b F h hm t pv hk ht hp pg sl un o1 ya h4 h5 h6 h7
  by_cases h7' : k = 7
  · subst h7'
    obtain ⟨nt, h4⟩ : ∃ x, getNum (extB b 13 4) = x := ⟨_, rfl⟩
    obtain ⟨nn, h5⟩ : ∃ n : Nat, getNum (extB b 17 1) = n := ⟨_, (Int.toNat_of_nonneg (num1_room hby 17).1).symm⟩
    obtain ⟨⟨ts, o1⟩, h6⟩ : ∃ x, rsTs b nn 18 = x := ⟨_, rfl⟩
    obtain ⟨mm, h7⟩ : ∃ n : Nat, getNum (extB b o1 1) = n := ⟨_, (Int.toNat_of_nonneg (num1_room hby o1).1).symm⟩
    obtain ⟨⟨ds, o2⟩, h8⟩ : ∃ x, rsDs b mm (o1 + 1) = x := ⟨_, rfl⟩
    have e : readS b = ⟨7, t, pv, 0, 0, ⟨false, []⟩, ⟨false, []⟩, 0, nt, ts, ds, []⟩ := by
      unfold readS
      dsimp only
      rw [hk, ht, hp, if_neg (by decide), if_neg (by decide), if_pos rfl, h4, h5, Int.toNat_natCast, h6]; dsimp only
      rw [h7, Int.toNat_natCast, h8]
    rw [decS, e]
    exact specDec_7 w A c b F h hm t pv hk ht hp nt nn mm o1 o2 ts ds h4 h5 h6 h7 h8
  by_cases h8 : k = 8
  · subst h8
    obtain ⟨pg, h4⟩ : ∃ x, getNum (extB b 13 2) = x := ⟨_, rfl⟩
    obtain ⟨im, h5⟩ : ∃ x, extB b 15 4096 = x := ⟨_, rfl⟩
    have e : readS b = ⟨8, t, pv, pg, 0, ⟨false, []⟩, ⟨false, []⟩, 0, 0, [], [], im⟩ := by
      unfold readS
      dsimp only
      rw [hk, ht, hp, if_neg (by decide), if_neg (by decide), if_neg (by decide), if_pos rfl, h4, h5]
    rw [decS, e]
    exact specDec_8 w A c b F h hm t pv hk ht hp pg im h4 h5
  · have e : readS b = ⟨k, t, pv, 0, 0, ⟨false, []⟩, ⟨false, []⟩, 0, 0, [], [], []⟩ := by
      unfold readS
      dsimp only
      rw [hk, ht, hp, if_neg h1, if_neg h2, if_neg h7', if_neg h8]
    rw [decS, e]
    exact specDec_plain w A c b F h hm k t pv hk ht hp h1 h2 h7' h8
theorem specDecode_calls (w : World) (A : Option Addr) (c : Nat) (b : List Int) (F : List Nat) (h : (Rep.int .u8).sl w A c b F) (hm : b.length ≤ 1048576) :
    Calls Tryd.prog 45 #[.slice A b.length c] w fun e w' => ∃ v F, e = .returned v ∧ Rep.RecordResult.V w' v (decI b) F ∧ Ext w w' := by
  rw [decI_decS]
  exact (specDecode_new w A c b F h hm).mono fun _ _ h => NewPost.weak2 h
end Go.Proofs.YtghgjddiheebeaaDoor
