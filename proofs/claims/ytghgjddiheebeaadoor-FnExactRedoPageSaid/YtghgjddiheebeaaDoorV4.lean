/- RedoPage: the contracts. -/
import Derived.Test.YtghgjddiheebeaaDoorV2
import Derived.Test.YtghgjddiheebeaaDoorV3
namespace Go.Proofs.YtghgjddiheebeaaDoor
open Go.RowKit
theorem specRedoPage_calls (w : World) (A : Option Addr) (c : Nat) (p : List Int) (F : List Nat) (h : (Rep.int .u8).sl w A c p F) (num : Int) (en : (Lit.int .i64 num).wf = true) (Af : Option Addr) (cf : Nat) (fs : List DLogFrame) (Ff : List Nat) (hf : Rep.LogFrame.sl w Af cf fs Ff) (fr : Int) (er : (Lit.int .i64 fr).wf = true) (hs1 : p.length ≤ 1048576) (hs2 : wtLogFrameS fs ≤ 1048576) :
    Calls Tryd.prog 40 #[.slice A p.length c, .int .i64 num, .slice Af fs.length cf, .int .i64 fr] w fun e w' => ∃ v F, e = .returned v ∧ Rep.PageResult.V w' v (redoPage p num fs fr) F ∧ Ext w w' :=
  (specRedo_new w A c p F h num en Af cf fs Ff hf fr er hs1 hs2).mono fun _ _ h => NewPost.weak2 h
end Go.Proofs.YtghgjddiheebeaaDoor
