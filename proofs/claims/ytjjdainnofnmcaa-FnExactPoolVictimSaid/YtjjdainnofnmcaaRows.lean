/-
  No cell of these rows narrows 'for every input' (looked for: loops, veiled, ifaces, maps, wideKeys, modest, calm, conditions, laid).
  DERIVED. THE GIVEN ROWS OF THIS SEAT. 8 by the template 'for every input the law returns true; each argument reads behind the call as it read before'; 0 by the template 'total and deterministic' (their statements: YtjjdainnofnmcaaTotals.lean).
  GIVEN WITH THE SEED: the statements are not yours to turn. If you find one false, say at which input.
  Laid BY PROGRAM, IN A SANDBOX (cutbox-rows.mjs): the forced cells as the released guide's own fill.sh prints them over the translation 142df7087ae96d02… (all of the seat's roots in one cut). By AI agents, Wed Nov 11 2026. No macro, syntax, notation, axiom, sorry.
-/
import Derived.Test.YtjjdainnofnmcaaChecked
import GoSem.Claim
import GoSem.ClaimJoined
import GoSem.ClaimMapViews
import Derived.JoinedTies
import Derived.KernelRfl
namespace Go.Proofs.Ytjjdainnofnmcaa
/- THE CELL 'sum', in the pinned program and in every row, IS THE sha256 OF THE DUMP (.gsa) THAT YtjjdainnofnmcaaProg.lean LOADS. Nothing in Lean hashes anything: it is a label: what it is worth is what the hold of that sum in a sandbox is worth. -/
noncomputable def Try.pinned : Pinned := { name := "ytjjdainnofnmcaa", sum := "142df7087ae96d0249d3de634ac5d9be193d4df293e2d361586a961146bbf012", checked := Try.checked }
namespace Rows
def none {H : Type} : Left H := { results := [], args := [] }

/-- 'laws.FnExactPoolFind': WHATEVER THE INPUT: true; the input reads as it did. -/
def fnExactPoolFindSpec : ChangeSpec := { name := "fnExactPoolFind", fn := fun _ => fun
  | [d1, d2] => { results := [.lit (.bool true)], args := [d1, d2] }
  | _ => none }
def fnExactPoolFindRow : OpenClaim := { program := "ytjjdainnofnmcaa", sum := "142df7087ae96d0249d3de634ac5d9be193d4df293e2d361586a961146bbf012", func := "loop.example/s02544/laws.FnExactPoolFind", spec := "fnExactPoolFind", apart := false }
def FnExactPoolFindSaid : Prop := fnExactPoolFindRow.holds Try.pinned (OpenSpec.ofChange fnExactPoolFindSpec)

/-- ITS FALSE NEIGHBOUR: 'it returns false'. Refute it at one input. -/
def fnExactPoolFindWrong : ChangeSpec := { name := "fnExactPoolFind", fn := fun _ => fun
  | [d1, d2] => { results := [.lit (.bool false)], args := [d1, d2] }
  | _ => none }
def FnExactPoolFindWrongFalsely : Prop := fnExactPoolFindRow.holds Try.pinned (OpenSpec.ofChange fnExactPoolFindWrong)

/-- 'laws.FnPool': WHATEVER THE INPUT: true; the input reads as it did. -/
def fnPoolSpec : ChangeSpec := { name := "fnPool", fn := fun _ => fun
  | [d1, d2] => { results := [.lit (.bool true)], args := [d1, d2] }
  | _ => none }
def fnPoolRow : OpenClaim := { program := "ytjjdainnofnmcaa", sum := "142df7087ae96d0249d3de634ac5d9be193d4df293e2d361586a961146bbf012", func := "loop.example/s02544/laws.FnPool", spec := "fnPool", unfollowed := true, recurses := true, apart := false }
def FnPoolSaid : Prop := fnPoolRow.holds Try.pinned (OpenSpec.ofChange fnPoolSpec)

/-- ITS FALSE NEIGHBOUR: 'it returns false'. Refute it at one input. -/
def fnPoolWrong : ChangeSpec := { name := "fnPool", fn := fun _ => fun
  | [d1, d2] => { results := [.lit (.bool false)], args := [d1, d2] }
  | _ => none }
def FnPoolWrongFalsely : Prop := fnPoolRow.holds Try.pinned (OpenSpec.ofChange fnPoolWrong)

/-- 'laws.FnExactPoolLoad': WHATEVER THE INPUT: true; the input reads as it did. -/
def fnExactPoolLoadSpec : ChangeSpec := { name := "fnExactPoolLoad", fn := fun _ => fun
  | [d1, d2, d3, d4] => { results := [.lit (.bool true)], args := [d1, d2, d3, d4] }
  | _ => none }
def fnExactPoolLoadRow : OpenClaim := { program := "ytjjdainnofnmcaa", sum := "142df7087ae96d0249d3de634ac5d9be193d4df293e2d361586a961146bbf012", func := "loop.example/s02544/laws.FnExactPoolLoad", spec := "fnExactPoolLoad", apart := false }
def FnExactPoolLoadSaid : Prop := fnExactPoolLoadRow.holds Try.pinned (OpenSpec.ofChange fnExactPoolLoadSpec)

/-- ITS FALSE NEIGHBOUR: 'it returns false'. Refute it at one input. -/
def fnExactPoolLoadWrong : ChangeSpec := { name := "fnExactPoolLoad", fn := fun _ => fun
  | [d1, d2, d3, d4] => { results := [.lit (.bool false)], args := [d1, d2, d3, d4] }
  | _ => none }
def FnExactPoolLoadWrongFalsely : Prop := fnExactPoolLoadRow.holds Try.pinned (OpenSpec.ofChange fnExactPoolLoadWrong)

/-- 'laws.FnExactPoolVictim': WHATEVER THE INPUT: true; the input reads as it did. -/
def fnExactPoolVictimSpec : ChangeSpec := { name := "fnExactPoolVictim", fn := fun _ => fun
  | [d] => { results := [.lit (.bool true)], args := [d] }
  | _ => none }
def fnExactPoolVictimRow : OpenClaim := { program := "ytjjdainnofnmcaa", sum := "142df7087ae96d0249d3de634ac5d9be193d4df293e2d361586a961146bbf012", func := "loop.example/s02544/laws.FnExactPoolVictim", spec := "fnExactPoolVictim", apart := false }
def FnExactPoolVictimSaid : Prop := fnExactPoolVictimRow.holds Try.pinned (OpenSpec.ofChange fnExactPoolVictimSpec)

/-- ITS FALSE NEIGHBOUR: 'it returns false'. Refute it at one input. -/
def fnExactPoolVictimWrong : ChangeSpec := { name := "fnExactPoolVictim", fn := fun _ => fun
  | [d] => { results := [.lit (.bool false)], args := [d] }
  | _ => none }
def FnExactPoolVictimWrongFalsely : Prop := fnExactPoolVictimRow.holds Try.pinned (OpenSpec.ofChange fnExactPoolVictimWrong)

/-- 'laws.FnExactPoolClean': WHATEVER THE INPUT: true; the input reads as it did. -/
def fnExactPoolCleanSpec : ChangeSpec := { name := "fnExactPoolClean", fn := fun _ => fun
  | [d1, d2] => { results := [.lit (.bool true)], args := [d1, d2] }
  | _ => none }
def fnExactPoolCleanRow : OpenClaim := { program := "ytjjdainnofnmcaa", sum := "142df7087ae96d0249d3de634ac5d9be193d4df293e2d361586a961146bbf012", func := "loop.example/s02544/laws.FnExactPoolClean", spec := "fnExactPoolClean", unfollowed := true, recurses := true, apart := false }
def FnExactPoolCleanSaid : Prop := fnExactPoolCleanRow.holds Try.pinned (OpenSpec.ofChange fnExactPoolCleanSpec)

/-- ITS FALSE NEIGHBOUR: 'it returns false'. Refute it at one input. -/
def fnExactPoolCleanWrong : ChangeSpec := { name := "fnExactPoolClean", fn := fun _ => fun
  | [d1, d2] => { results := [.lit (.bool false)], args := [d1, d2] }
  | _ => none }
def FnExactPoolCleanWrongFalsely : Prop := fnExactPoolCleanRow.holds Try.pinned (OpenSpec.ofChange fnExactPoolCleanWrong)

/-- 'laws.FnExactPoolPin': WHATEVER THE INPUT: true; the input reads as it did. -/
def fnExactPoolPinSpec : ChangeSpec := { name := "fnExactPoolPin", fn := fun _ => fun
  | [d1, d2] => { results := [.lit (.bool true)], args := [d1, d2] }
  | _ => none }
def fnExactPoolPinRow : OpenClaim := { program := "ytjjdainnofnmcaa", sum := "142df7087ae96d0249d3de634ac5d9be193d4df293e2d361586a961146bbf012", func := "loop.example/s02544/laws.FnExactPoolPin", spec := "fnExactPoolPin", unfollowed := true, recurses := true, apart := false }
def FnExactPoolPinSaid : Prop := fnExactPoolPinRow.holds Try.pinned (OpenSpec.ofChange fnExactPoolPinSpec)

/-- ITS FALSE NEIGHBOUR: 'it returns false'. Refute it at one input. -/
def fnExactPoolPinWrong : ChangeSpec := { name := "fnExactPoolPin", fn := fun _ => fun
  | [d1, d2] => { results := [.lit (.bool false)], args := [d1, d2] }
  | _ => none }
def FnExactPoolPinWrongFalsely : Prop := fnExactPoolPinRow.holds Try.pinned (OpenSpec.ofChange fnExactPoolPinWrong)

/-- 'laws.FnExactPoolUnpin': WHATEVER THE INPUT: true; the input reads as it did. -/
def fnExactPoolUnpinSpec : ChangeSpec := { name := "fnExactPoolUnpin", fn := fun _ => fun
  | [d1, d2] => { results := [.lit (.bool true)], args := [d1, d2] }
  | _ => none }
def fnExactPoolUnpinRow : OpenClaim := { program := "ytjjdainnofnmcaa", sum := "142df7087ae96d0249d3de634ac5d9be193d4df293e2d361586a961146bbf012", func := "loop.example/s02544/laws.FnExactPoolUnpin", spec := "fnExactPoolUnpin", unfollowed := true, recurses := true, apart := false }
def FnExactPoolUnpinSaid : Prop := fnExactPoolUnpinRow.holds Try.pinned (OpenSpec.ofChange fnExactPoolUnpinSpec)

/-- ITS FALSE NEIGHBOUR: 'it returns false'. Refute it at one input. -/
def fnExactPoolUnpinWrong : ChangeSpec := { name := "fnExactPoolUnpin", fn := fun _ => fun
  | [d1, d2] => { results := [.lit (.bool false)], args := [d1, d2] }
  | _ => none }
def FnExactPoolUnpinWrongFalsely : Prop := fnExactPoolUnpinRow.holds Try.pinned (OpenSpec.ofChange fnExactPoolUnpinWrong)

/-- 'laws.FnExactPoolPut': WHATEVER THE INPUT: true; the input reads as it did. -/
def fnExactPoolPutSpec : ChangeSpec := { name := "fnExactPoolPut", fn := fun _ => fun
  | [d1, d2, d3, d4] => { results := [.lit (.bool true)], args := [d1, d2, d3, d4] }
  | _ => none }
def fnExactPoolPutRow : OpenClaim := { program := "ytjjdainnofnmcaa", sum := "142df7087ae96d0249d3de634ac5d9be193d4df293e2d361586a961146bbf012", func := "loop.example/s02544/laws.FnExactPoolPut", spec := "fnExactPoolPut", unfollowed := true, recurses := true, apart := false }
def FnExactPoolPutSaid : Prop := fnExactPoolPutRow.holds Try.pinned (OpenSpec.ofChange fnExactPoolPutSpec)

/-- ITS FALSE NEIGHBOUR: 'it returns false'. Refute it at one input. -/
def fnExactPoolPutWrong : ChangeSpec := { name := "fnExactPoolPut", fn := fun _ => fun
  | [d1, d2, d3, d4] => { results := [.lit (.bool false)], args := [d1, d2, d3, d4] }
  | _ => none }
def FnExactPoolPutWrongFalsely : Prop := fnExactPoolPutRow.holds Try.pinned (OpenSpec.ofChange fnExactPoolPutWrong)

/- THE SECOND FORM. 'bulk': how many values and letters a reading holds, each counted each time it is reached (what is shared counts as often as it is met; a slice's spare places count too). A statement '..UptoSaid' is the law's where the arguments, and the package variables that the reading takes, are together of bulk at most 1048576: NARROWER than '..Said'. Prove '..Said' where nothing that the law and all that it calls make is longer than what came in: it says more and counts as full. Else prove '..UptoSaid'. A law counts once. -/
mutual
def uptoBulk {H : Type} : DataW H → Nat
  | .lit (.string bytes) => bytes.length + 1
  | .lit _ => 1
  | .nil => 1
  | .ptr d => uptoBulk d + 1
  | .slice elems spare => uptoBulkAll elems + uptoBulkAll spare + 1
  | .agg parts => uptoBulkAll parts + 1
  | .iface _ d => uptoBulk d + 1
  | .map entries => uptoBulkEntries entries + 1
  | .held _ => 1
def uptoBulkAll {H : Type} : List (DataW H) → Nat
  | [] => 0
  | d :: r => uptoBulk d + uptoBulkAll r
def uptoBulkEntries {H : Type} : List (Lit × DataW H) → Nat
  | [] => 0
  | x :: r => uptoBulkEntry x + uptoBulkEntries r
def uptoBulkEntry {H : Type} : Lit × DataW H → Nat
  | (.string bytes, d) => bytes.length + uptoBulk d + 1
  | (_, d) => uptoBulk d + 1
 end
def uptoSmall : (H : Type) → List (DataW H) → Bool := fun _ ds => decide (uptoBulkAll ds ≤ 1048576)
def OpenSpec.upto (s : _root_.Go.ChangeSpec) : _root_.Go.OpenSpec := { _root_.Go.OpenSpec.ofChange s with cond := some uptoSmall }

/-- 'laws.FnExactPoolFind', WHERE WHAT IT READS IS OF BULK AT MOST 1048576: true; the input reads as it did. -/
def fnExactPoolFindUptoRow : OpenClaim := { program := "ytjjdainnofnmcaa", sum := "142df7087ae96d0249d3de634ac5d9be193d4df293e2d361586a961146bbf012", func := "loop.example/s02544/laws.FnExactPoolFind", spec := "fnExactPoolFind", apart := false, narrowed := true }
def FnExactPoolFindUptoSaid : Prop := fnExactPoolFindUptoRow.holds Try.pinned (OpenSpec.upto fnExactPoolFindSpec)

/-- 'laws.FnPool', WHERE WHAT IT READS IS OF BULK AT MOST 1048576: true; the input reads as it did. -/
def fnPoolUptoRow : OpenClaim := { program := "ytjjdainnofnmcaa", sum := "142df7087ae96d0249d3de634ac5d9be193d4df293e2d361586a961146bbf012", func := "loop.example/s02544/laws.FnPool", spec := "fnPool", unfollowed := true, recurses := true, apart := false, narrowed := true }
def FnPoolUptoSaid : Prop := fnPoolUptoRow.holds Try.pinned (OpenSpec.upto fnPoolSpec)

/-- 'laws.FnExactPoolLoad', WHERE WHAT IT READS IS OF BULK AT MOST 1048576: true; the input reads as it did. -/
def fnExactPoolLoadUptoRow : OpenClaim := { program := "ytjjdainnofnmcaa", sum := "142df7087ae96d0249d3de634ac5d9be193d4df293e2d361586a961146bbf012", func := "loop.example/s02544/laws.FnExactPoolLoad", spec := "fnExactPoolLoad", apart := false, narrowed := true }
def FnExactPoolLoadUptoSaid : Prop := fnExactPoolLoadUptoRow.holds Try.pinned (OpenSpec.upto fnExactPoolLoadSpec)

/-- 'laws.FnExactPoolVictim', WHERE WHAT IT READS IS OF BULK AT MOST 1048576: true; the input reads as it did. -/
def fnExactPoolVictimUptoRow : OpenClaim := { program := "ytjjdainnofnmcaa", sum := "142df7087ae96d0249d3de634ac5d9be193d4df293e2d361586a961146bbf012", func := "loop.example/s02544/laws.FnExactPoolVictim", spec := "fnExactPoolVictim", apart := false, narrowed := true }
def FnExactPoolVictimUptoSaid : Prop := fnExactPoolVictimUptoRow.holds Try.pinned (OpenSpec.upto fnExactPoolVictimSpec)

/-- 'laws.FnExactPoolClean', WHERE WHAT IT READS IS OF BULK AT MOST 1048576: true; the input reads as it did. -/
def fnExactPoolCleanUptoRow : OpenClaim := { program := "ytjjdainnofnmcaa", sum := "142df7087ae96d0249d3de634ac5d9be193d4df293e2d361586a961146bbf012", func := "loop.example/s02544/laws.FnExactPoolClean", spec := "fnExactPoolClean", unfollowed := true, recurses := true, apart := false, narrowed := true }
def FnExactPoolCleanUptoSaid : Prop := fnExactPoolCleanUptoRow.holds Try.pinned (OpenSpec.upto fnExactPoolCleanSpec)

/-- 'laws.FnExactPoolPin', WHERE WHAT IT READS IS OF BULK AT MOST 1048576: true; the input reads as it did. -/
def fnExactPoolPinUptoRow : OpenClaim := { program := "ytjjdainnofnmcaa", sum := "142df7087ae96d0249d3de634ac5d9be193d4df293e2d361586a961146bbf012", func := "loop.example/s02544/laws.FnExactPoolPin", spec := "fnExactPoolPin", unfollowed := true, recurses := true, apart := false, narrowed := true }
def FnExactPoolPinUptoSaid : Prop := fnExactPoolPinUptoRow.holds Try.pinned (OpenSpec.upto fnExactPoolPinSpec)

/-- 'laws.FnExactPoolUnpin', WHERE WHAT IT READS IS OF BULK AT MOST 1048576: true; the input reads as it did. -/
def fnExactPoolUnpinUptoRow : OpenClaim := { program := "ytjjdainnofnmcaa", sum := "142df7087ae96d0249d3de634ac5d9be193d4df293e2d361586a961146bbf012", func := "loop.example/s02544/laws.FnExactPoolUnpin", spec := "fnExactPoolUnpin", unfollowed := true, recurses := true, apart := false, narrowed := true }
def FnExactPoolUnpinUptoSaid : Prop := fnExactPoolUnpinUptoRow.holds Try.pinned (OpenSpec.upto fnExactPoolUnpinSpec)

/-- 'laws.FnExactPoolPut', WHERE WHAT IT READS IS OF BULK AT MOST 1048576: true; the input reads as it did. -/
def fnExactPoolPutUptoRow : OpenClaim := { program := "ytjjdainnofnmcaa", sum := "142df7087ae96d0249d3de634ac5d9be193d4df293e2d361586a961146bbf012", func := "loop.example/s02544/laws.FnExactPoolPut", spec := "fnExactPoolPut", unfollowed := true, recurses := true, apart := false, narrowed := true }
def FnExactPoolPutUptoSaid : Prop := fnExactPoolPutUptoRow.holds Try.pinned (OpenSpec.upto fnExactPoolPutSpec)

end Rows
end Go.Proofs.Ytjjdainnofnmcaa
