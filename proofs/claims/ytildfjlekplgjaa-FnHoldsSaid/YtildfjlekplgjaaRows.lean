/-
  No cell of these rows narrows 'for every input' (looked for: loops, veiled, ifaces, maps, wideKeys, modest, calm, conditions, laid).
  DERIVED. THE GIVEN ROWS OF THIS SEAT. 5 by the template 'for every input the law returns true; each argument reads behind the call as it read before'; 0 by the template 'total and deterministic' (their statements: YtildfjlekplgjaaTotals.lean).
  GIVEN WITH THE SEED: the statements are not yours to turn. If you find one false, say at which input.
  Laid BY PROGRAM, IN A SANDBOX (cutbox-rows.mjs): the forced cells as the released guide's own fill.sh prints them over the translation 909e0020b7242e7a… (all of the seat's roots in one cut). By AI agents, Wed Nov 11 2026. No macro, syntax, notation, axiom, sorry.
-/
import Derived.Test.YtildfjlekplgjaaChecked
import GoSem.Claim
import GoSem.ClaimJoined
import GoSem.ClaimMapViews
import Derived.JoinedTies
import Derived.KernelRfl
namespace Go.Proofs.Ytildfjlekplgjaa
/- THE CELL 'sum', in the pinned program and in every row, IS THE sha256 OF THE DUMP (.gsa) THAT YtildfjlekplgjaaProg.lean LOADS. Nothing in Lean hashes anything: it is a label: what it is worth is what the hold of that sum in a sandbox is worth. -/
noncomputable def Try.pinned : Pinned := { name := "ytildfjlekplgjaa", sum := "909e0020b7242e7aa1afd038c702cf3c73ef221e9f68d92a44c8c5e2b0bcf782", checked := Try.checked }
namespace Rows
def none {H : Type} : Left H := { results := [], args := [] }

/-- 'laws.FnExactLockAsk': WHATEVER THE INPUT: true; the input reads as it did. -/
def fnExactLockAskSpec : ChangeSpec := { name := "fnExactLockAsk", fn := fun _ => fun
  | [d1, d2, d3, d4] => { results := [.lit (.bool true)], args := [d1, d2, d3, d4] }
  | _ => none }
def fnExactLockAskRow : OpenClaim := { program := "ytildfjlekplgjaa", sum := "909e0020b7242e7aa1afd038c702cf3c73ef221e9f68d92a44c8c5e2b0bcf782", func := "loop.example/s02544/laws.FnExactLockAsk", spec := "fnExactLockAsk", inPlace := ["slices.overlaps[loop.example/s02544/impl.Lock]"], unfollowed := true, recurses := true, apart := false }
def FnExactLockAskSaid : Prop := fnExactLockAskRow.holds Try.pinned (OpenSpec.ofChange fnExactLockAskSpec)

/-- ITS FALSE NEIGHBOUR: 'it returns false'. Refute it at one input. -/
def fnExactLockAskWrong : ChangeSpec := { name := "fnExactLockAsk", fn := fun _ => fun
  | [d1, d2, d3, d4] => { results := [.lit (.bool false)], args := [d1, d2, d3, d4] }
  | _ => none }
def FnExactLockAskWrongFalsely : Prop := fnExactLockAskRow.holds Try.pinned (OpenSpec.ofChange fnExactLockAskWrong)

/-- 'laws.FnExactHoldTake': WHATEVER THE INPUT: true; the input reads as it did. -/
def fnExactHoldTakeSpec : ChangeSpec := { name := "fnExactHoldTake", fn := fun _ => fun
  | [d1, d2, d3, d4, d5] => { results := [.lit (.bool true)], args := [d1, d2, d3, d4, d5] }
  | _ => none }
def fnExactHoldTakeRow : OpenClaim := { program := "ytildfjlekplgjaa", sum := "909e0020b7242e7aa1afd038c702cf3c73ef221e9f68d92a44c8c5e2b0bcf782", func := "loop.example/s02544/laws.FnExactHoldTake", spec := "fnExactHoldTake", inPlace := ["slices.overlaps[loop.example/s02544/impl.Hold]"], unfollowed := true, recurses := true, apart := false }
def FnExactHoldTakeSaid : Prop := fnExactHoldTakeRow.holds Try.pinned (OpenSpec.ofChange fnExactHoldTakeSpec)

/-- ITS FALSE NEIGHBOUR: 'it returns false'. Refute it at one input. -/
def fnExactHoldTakeWrong : ChangeSpec := { name := "fnExactHoldTake", fn := fun _ => fun
  | [d1, d2, d3, d4, d5] => { results := [.lit (.bool false)], args := [d1, d2, d3, d4, d5] }
  | _ => none }
def FnExactHoldTakeWrongFalsely : Prop := fnExactHoldTakeRow.holds Try.pinned (OpenSpec.ofChange fnExactHoldTakeWrong)

/-- 'laws.FnLocks': WHATEVER THE INPUT: true; the input reads as it did. -/
def fnLocksSpec : ChangeSpec := { name := "fnLocks", fn := fun _ => fun
  | [d] => { results := [.lit (.bool true)], args := [d] }
  | _ => none }
def fnLocksRow : OpenClaim := { program := "ytildfjlekplgjaa", sum := "909e0020b7242e7aa1afd038c702cf3c73ef221e9f68d92a44c8c5e2b0bcf782", func := "loop.example/s02544/laws.FnLocks", spec := "fnLocks", inPlace := ["slices.overlaps[loop.example/s02544/impl.Lock]"], unfollowed := true, recurses := true, apart := false }
def FnLocksSaid : Prop := fnLocksRow.holds Try.pinned (OpenSpec.ofChange fnLocksSpec)

/-- ITS FALSE NEIGHBOUR: 'it returns false'. Refute it at one input. -/
def fnLocksWrong : ChangeSpec := { name := "fnLocks", fn := fun _ => fun
  | [d] => { results := [.lit (.bool false)], args := [d] }
  | _ => none }
def FnLocksWrongFalsely : Prop := fnLocksRow.holds Try.pinned (OpenSpec.ofChange fnLocksWrong)

/-- 'laws.FnHolds': WHATEVER THE INPUT: true; the input reads as it did. -/
def fnHoldsSpec : ChangeSpec := { name := "fnHolds", fn := fun _ => fun
  | [d1, d2] => { results := [.lit (.bool true)], args := [d1, d2] }
  | _ => none }
def fnHoldsRow : OpenClaim := { program := "ytildfjlekplgjaa", sum := "909e0020b7242e7aa1afd038c702cf3c73ef221e9f68d92a44c8c5e2b0bcf782", func := "loop.example/s02544/laws.FnHolds", spec := "fnHolds", inPlace := ["slices.overlaps[loop.example/s02544/impl.Hold]"], unfollowed := true, recurses := true, apart := false }
def FnHoldsSaid : Prop := fnHoldsRow.holds Try.pinned (OpenSpec.ofChange fnHoldsSpec)

/-- ITS FALSE NEIGHBOUR: 'it returns false'. Refute it at one input. -/
def fnHoldsWrong : ChangeSpec := { name := "fnHolds", fn := fun _ => fun
  | [d1, d2] => { results := [.lit (.bool false)], args := [d1, d2] }
  | _ => none }
def FnHoldsWrongFalsely : Prop := fnHoldsRow.holds Try.pinned (OpenSpec.ofChange fnHoldsWrong)

/-- 'laws.FnExactFreshId': WHATEVER THE INPUT: true; the input reads as it did. -/
def fnExactFreshIdSpec : ChangeSpec := { name := "fnExactFreshId", fn := fun _ => fun
  | [d1, d2, d3, d4, d5] => { results := [.lit (.bool true)], args := [d1, d2, d3, d4, d5] }
  | _ => none }
def fnExactFreshIdRow : OpenClaim := { program := "ytildfjlekplgjaa", sum := "909e0020b7242e7aa1afd038c702cf3c73ef221e9f68d92a44c8c5e2b0bcf782", func := "loop.example/s02544/laws.FnExactFreshId", spec := "fnExactFreshId", unfollowed := true, recurses := true, apart := false }
def FnExactFreshIdSaid : Prop := fnExactFreshIdRow.holds Try.pinned (OpenSpec.ofChange fnExactFreshIdSpec)

/-- ITS FALSE NEIGHBOUR: 'it returns false'. Refute it at one input. -/
def fnExactFreshIdWrong : ChangeSpec := { name := "fnExactFreshId", fn := fun _ => fun
  | [d1, d2, d3, d4, d5] => { results := [.lit (.bool false)], args := [d1, d2, d3, d4, d5] }
  | _ => none }
def FnExactFreshIdWrongFalsely : Prop := fnExactFreshIdRow.holds Try.pinned (OpenSpec.ofChange fnExactFreshIdWrong)

/- THE SECOND FORM. 'bulk': how many values and letters a reading holds, each counted each time it is reached (what is shared counts as often as it is met; a slice's spare places count too). A statement '..UptoSaid' is the law's where the arguments, and the package variables that the reading takes, are together of bulk at most 1048576: NARROWER than '..Said'. Prove '..Said' where nothing that the law and all that it calls make is longer than what came in: it says more and counts as full. Else prove '..UptoSaid'. A law counts once. -/
mutual
def uptoBulk {H : Type} : DataW H → Nat
  | .lit (.string bytes) => bytes.length + 1
  | .lit _ => 1
  | .nil => 1
  | .ptr d => uptoBulk d + 1
  | .slice elems spare => uptoBulkAll elems + uptoBulkAll spare + 1
  | .agg parts => uptoBulkAll parts + 1
  | .iface _ d => uptoBulk d + 1
  | .map entries => uptoBulkEntries entries + 1
  | .held _ => 1
def uptoBulkAll {H : Type} : List (DataW H) → Nat
  | [] => 0
  | d :: r => uptoBulk d + uptoBulkAll r
def uptoBulkEntries {H : Type} : List (Lit × DataW H) → Nat
  | [] => 0
  | x :: r => uptoBulkEntry x + uptoBulkEntries r
def uptoBulkEntry {H : Type} : Lit × DataW H → Nat
  | (.string bytes, d) => bytes.length + uptoBulk d + 1
  | (_, d) => uptoBulk d + 1
 end
def uptoSmall : (H : Type) → List (DataW H) → Bool := fun _ ds => decide (uptoBulkAll ds ≤ 1048576)
def OpenSpec.upto (s : _root_.Go.ChangeSpec) : _root_.Go.OpenSpec := { _root_.Go.OpenSpec.ofChange s with cond := some uptoSmall }

/-- 'laws.FnExactLockAsk', WHERE WHAT IT READS IS OF BULK AT MOST 1048576: true; the input reads as it did. -/
def fnExactLockAskUptoRow : OpenClaim := { program := "ytildfjlekplgjaa", sum := "909e0020b7242e7aa1afd038c702cf3c73ef221e9f68d92a44c8c5e2b0bcf782", func := "loop.example/s02544/laws.FnExactLockAsk", spec := "fnExactLockAsk", inPlace := ["slices.overlaps[loop.example/s02544/impl.Lock]"], unfollowed := true, recurses := true, apart := false, narrowed := true }
def FnExactLockAskUptoSaid : Prop := fnExactLockAskUptoRow.holds Try.pinned (OpenSpec.upto fnExactLockAskSpec)

/-- 'laws.FnExactHoldTake', WHERE WHAT IT READS IS OF BULK AT MOST 1048576: true; the input reads as it did. -/
def fnExactHoldTakeUptoRow : OpenClaim := { program := "ytildfjlekplgjaa", sum := "909e0020b7242e7aa1afd038c702cf3c73ef221e9f68d92a44c8c5e2b0bcf782", func := "loop.example/s02544/laws.FnExactHoldTake", spec := "fnExactHoldTake", inPlace := ["slices.overlaps[loop.example/s02544/impl.Hold]"], unfollowed := true, recurses := true, apart := false, narrowed := true }
def FnExactHoldTakeUptoSaid : Prop := fnExactHoldTakeUptoRow.holds Try.pinned (OpenSpec.upto fnExactHoldTakeSpec)

/-- 'laws.FnLocks', WHERE WHAT IT READS IS OF BULK AT MOST 1048576: true; the input reads as it did. -/
def fnLocksUptoRow : OpenClaim := { program := "ytildfjlekplgjaa", sum := "909e0020b7242e7aa1afd038c702cf3c73ef221e9f68d92a44c8c5e2b0bcf782", func := "loop.example/s02544/laws.FnLocks", spec := "fnLocks", inPlace := ["slices.overlaps[loop.example/s02544/impl.Lock]"], unfollowed := true, recurses := true, apart := false, narrowed := true }
def FnLocksUptoSaid : Prop := fnLocksUptoRow.holds Try.pinned (OpenSpec.upto fnLocksSpec)

/-- 'laws.FnHolds', WHERE WHAT IT READS IS OF BULK AT MOST 1048576: true; the input reads as it did. -/
def fnHoldsUptoRow : OpenClaim := { program := "ytildfjlekplgjaa", sum := "909e0020b7242e7aa1afd038c702cf3c73ef221e9f68d92a44c8c5e2b0bcf782", func := "loop.example/s02544/laws.FnHolds", spec := "fnHolds", inPlace := ["slices.overlaps[loop.example/s02544/impl.Hold]"], unfollowed := true, recurses := true, apart := false, narrowed := true }
def FnHoldsUptoSaid : Prop := fnHoldsUptoRow.holds Try.pinned (OpenSpec.upto fnHoldsSpec)

/-- 'laws.FnExactFreshId', WHERE WHAT IT READS IS OF BULK AT MOST 1048576: true; the input reads as it did. -/
def fnExactFreshIdUptoRow : OpenClaim := { program := "ytildfjlekplgjaa", sum := "909e0020b7242e7aa1afd038c702cf3c73ef221e9f68d92a44c8c5e2b0bcf782", func := "loop.example/s02544/laws.FnExactFreshId", spec := "fnExactFreshId", unfollowed := true, recurses := true, apart := false, narrowed := true }
def FnExactFreshIdUptoSaid : Prop := fnExactFreshIdUptoRow.holds Try.pinned (OpenSpec.upto fnExactFreshIdSpec)

end Rows
end Go.Proofs.Ytildfjlekplgjaa
