/-
  NARROWER THAN 'FOR EVERY INPUT', by the rows' own cells (each row's printed sentence says how): FnExactFrameSize: laid · FnExactEncodeRecord: laid · FnExactDecodeRecord: laid.
  DERIVED. THE GIVEN ROWS OF THIS SEAT. 8 by the template 'for every input the law returns true; each argument reads behind the call as it read before'; 0 by the template 'total and deterministic' (their statements: YtghgjddiheebeaaDoorTotals.lean).
  GIVEN WITH THE SEED: the statements are not yours to turn. If you find one false, say at which input.
  Laid BY PROGRAM, IN A SANDBOX (cutbox-rows.mjs): the forced cells as the released guide's own fill.sh prints them over the translation d94e60ddd1b8cfdd… (all of the seat's roots in one cut). By AI agents, Wed Nov 11 2026. No macro, syntax, notation, axiom, sorry.
-/
import Derived.Test.YtghgjddiheebeaaDoorChecked
import GoSem.Claim
import GoSem.ClaimJoined
import GoSem.ClaimMapViews
import Derived.JoinedTies
import Derived.KernelRfl
namespace Go.Proofs.YtghgjddiheebeaaDoor
/- THE CELL 'sum', in the pinned program and in every row, IS THE sha256 OF THE DUMP (.gsa) THAT YtghgjddiheebeaaDoorProg.lean LOADS. Nothing in Lean hashes anything: it is a label: what it is worth is what the hold of that sum in a sandbox is worth. -/
noncomputable def Tryd.pinned : Pinned := { name := "ytghgjddiheebeaadoor", sum := "d94e60ddd1b8cfdd34d34221fc2aeb4d92d9a9e1e72f5049a4a74ca1ca60680a", checked := Tryd.checked }
namespace Rows
def none {H : Type} : Left H := { results := [], args := [] }

/- WHAT THE LISTED PACKAGE-LEVEL VARIABLES READ AS WHEN THE CALL BEGINS. Each datum BY PROGRAM (the guide's laid-datum.mjs) off the statement by which the dump's own 'gosem.cut.vars' lays the variable. In a bare row this is a premise. The card (YtghgjddiheebeaaDoorCards.lean) ties it to the program's text. -/
def laid_bytes_ErrTooLarge {H : Type} : DataW H := .iface "*errors.errorString" (.ptr (.agg [.lit (.string [98, 121, 116, 101, 115, 46, 66, 117, 102, 102, 101, 114, 58, 32, 116, 111, 111, 32, 108, 97, 114, 103, 101])]))

/-- 'laws.FnExactPageCompact': WHATEVER THE INPUT: true; the input reads as it did. -/
def fnExactPageCompactSpec : ChangeSpec := { name := "fnExactPageCompact", vars := ["loop.example/s02544/impl.be"], fn := fun _ => fun
  | [d, g1] => { results := [.lit (.bool true)], args := [d], vars := [g1] }
  | _ => none }
def fnExactPageCompactRow : OpenClaim := { program := "ytghgjddiheebeaadoor", sum := "d94e60ddd1b8cfdd34d34221fc2aeb4d92d9a9e1e72f5049a4a74ca1ca60680a", func := "loop.example/s02544/laws.FnExactPageCompact", spec := "fnExactPageCompact", named := ["loop.example/s02544/impl.be"], apart := false }
def FnExactPageCompactSaid : Prop := fnExactPageCompactRow.holds Tryd.pinned (OpenSpec.ofChange fnExactPageCompactSpec)

/-- ITS FALSE NEIGHBOUR: 'it returns false'. Refute it at one input. -/
def fnExactPageCompactWrong : ChangeSpec := { name := "fnExactPageCompact", vars := ["loop.example/s02544/impl.be"], fn := fun _ => fun
  | [d, g1] => { results := [.lit (.bool false)], args := [d], vars := [g1] }
  | _ => none }
def FnExactPageCompactWrongFalsely : Prop := fnExactPageCompactRow.holds Tryd.pinned (OpenSpec.ofChange fnExactPageCompactWrong)

/-- 'laws.FnExactPageSet': WHATEVER THE INPUT: true; the input reads as it did. -/
def fnExactPageSetSpec : ChangeSpec := { name := "fnExactPageSet", vars := ["loop.example/s02544/impl.be"], fn := fun _ => fun
  | [d1, d2, d3, d4, g1] => { results := [.lit (.bool true)], args := [d1, d2, d3, d4], vars := [g1] }
  | _ => none }
def fnExactPageSetRow : OpenClaim := { program := "ytghgjddiheebeaadoor", sum := "d94e60ddd1b8cfdd34d34221fc2aeb4d92d9a9e1e72f5049a4a74ca1ca60680a", func := "loop.example/s02544/laws.FnExactPageSet", spec := "fnExactPageSet", named := ["loop.example/s02544/impl.be"], apart := false }
def FnExactPageSetSaid : Prop := fnExactPageSetRow.holds Tryd.pinned (OpenSpec.ofChange fnExactPageSetSpec)

/-- ITS FALSE NEIGHBOUR: 'it returns false'. Refute it at one input. -/
def fnExactPageSetWrong : ChangeSpec := { name := "fnExactPageSet", vars := ["loop.example/s02544/impl.be"], fn := fun _ => fun
  | [d1, d2, d3, d4, g1] => { results := [.lit (.bool false)], args := [d1, d2, d3, d4], vars := [g1] }
  | _ => none }
def FnExactPageSetWrongFalsely : Prop := fnExactPageSetRow.holds Tryd.pinned (OpenSpec.ofChange fnExactPageSetWrong)

/-- 'laws.FnExactRecordFault': WHATEVER THE INPUT: true; the input reads as it did. -/
def fnExactRecordFaultSpec : ChangeSpec := { name := "fnExactRecordFault", vars := ["loop.example/s02544/impl.be"], fn := fun _ => fun
  | [d, g1] => { results := [.lit (.bool true)], args := [d], vars := [g1] }
  | _ => none }
def fnExactRecordFaultRow : OpenClaim := { program := "ytghgjddiheebeaadoor", sum := "d94e60ddd1b8cfdd34d34221fc2aeb4d92d9a9e1e72f5049a4a74ca1ca60680a", func := "loop.example/s02544/laws.FnExactRecordFault", spec := "fnExactRecordFault", named := ["loop.example/s02544/impl.be"], apart := false }
def FnExactRecordFaultSaid : Prop := fnExactRecordFaultRow.holds Tryd.pinned (OpenSpec.ofChange fnExactRecordFaultSpec)

/-- ITS FALSE NEIGHBOUR: 'it returns false'. Refute it at one input. -/
def fnExactRecordFaultWrong : ChangeSpec := { name := "fnExactRecordFault", vars := ["loop.example/s02544/impl.be"], fn := fun _ => fun
  | [d, g1] => { results := [.lit (.bool false)], args := [d], vars := [g1] }
  | _ => none }
def FnExactRecordFaultWrongFalsely : Prop := fnExactRecordFaultRow.holds Tryd.pinned (OpenSpec.ofChange fnExactRecordFaultWrong)

/-- 'laws.FnExactUndoOf': WHATEVER THE INPUT: true; the input reads as it did. -/
def fnExactUndoOfSpec : ChangeSpec := { name := "fnExactUndoOf", vars := ["loop.example/s02544/impl.be"], fn := fun _ => fun
  | [d, g1] => { results := [.lit (.bool true)], args := [d], vars := [g1] }
  | _ => none }
def fnExactUndoOfRow : OpenClaim := { program := "ytghgjddiheebeaadoor", sum := "d94e60ddd1b8cfdd34d34221fc2aeb4d92d9a9e1e72f5049a4a74ca1ca60680a", func := "loop.example/s02544/laws.FnExactUndoOf", spec := "fnExactUndoOf", named := ["loop.example/s02544/impl.be"], apart := false }
def FnExactUndoOfSaid : Prop := fnExactUndoOfRow.holds Tryd.pinned (OpenSpec.ofChange fnExactUndoOfSpec)

/-- ITS FALSE NEIGHBOUR: 'it returns false'. Refute it at one input. -/
def fnExactUndoOfWrong : ChangeSpec := { name := "fnExactUndoOf", vars := ["loop.example/s02544/impl.be"], fn := fun _ => fun
  | [d, g1] => { results := [.lit (.bool false)], args := [d], vars := [g1] }
  | _ => none }
def FnExactUndoOfWrongFalsely : Prop := fnExactUndoOfRow.holds Tryd.pinned (OpenSpec.ofChange fnExactUndoOfWrong)

/-- 'laws.FnExactFrameSize': WHATEVER THE INPUT: true; the input reads as it did. -/
def fnExactFrameSizeSpec : ChangeSpec := { name := "fnExactFrameSize", vars := ["loop.example/s02544/impl.be"], fn := fun _ => fun
  | [d, g1] => { results := [.lit (.bool true)], args := [d], vars := [g1] }
  | _ => none }
def fnExactFrameSizeRow : OpenClaim := { program := "ytghgjddiheebeaadoor", sum := "d94e60ddd1b8cfdd34d34221fc2aeb4d92d9a9e1e72f5049a4a74ca1ca60680a", func := "loop.example/s02544/laws.FnExactFrameSize", spec := "fnExactFrameSize", named := ["loop.example/s02544/impl.be", "encoding/binary.BigEndian", "bytes.ErrTooLarge"], apart := false, laid := [("bytes.ErrTooLarge", laid_bytes_ErrTooLarge)] }
def FnExactFrameSizeSaid : Prop := fnExactFrameSizeRow.holds Tryd.pinned (OpenSpec.ofChange fnExactFrameSizeSpec)

/-- ITS FALSE NEIGHBOUR: 'it returns false'. Refute it at one input. -/
def fnExactFrameSizeWrong : ChangeSpec := { name := "fnExactFrameSize", vars := ["loop.example/s02544/impl.be"], fn := fun _ => fun
  | [d, g1] => { results := [.lit (.bool false)], args := [d], vars := [g1] }
  | _ => none }
def FnExactFrameSizeWrongFalsely : Prop := fnExactFrameSizeRow.holds Tryd.pinned (OpenSpec.ofChange fnExactFrameSizeWrong)

/-- 'laws.FnExactEncodeRecord': WHATEVER THE INPUT: true; the input reads as it did. -/
def fnExactEncodeRecordSpec : ChangeSpec := { name := "fnExactEncodeRecord", vars := ["loop.example/s02544/impl.be"], fn := fun _ => fun
  | [d, g1] => { results := [.lit (.bool true)], args := [d], vars := [g1] }
  | _ => none }
def fnExactEncodeRecordRow : OpenClaim := { program := "ytghgjddiheebeaadoor", sum := "d94e60ddd1b8cfdd34d34221fc2aeb4d92d9a9e1e72f5049a4a74ca1ca60680a", func := "loop.example/s02544/laws.FnExactEncodeRecord", spec := "fnExactEncodeRecord", named := ["loop.example/s02544/impl.be", "encoding/binary.BigEndian", "bytes.ErrTooLarge"], apart := false, laid := [("bytes.ErrTooLarge", laid_bytes_ErrTooLarge)] }
def FnExactEncodeRecordSaid : Prop := fnExactEncodeRecordRow.holds Tryd.pinned (OpenSpec.ofChange fnExactEncodeRecordSpec)

/-- ITS FALSE NEIGHBOUR: 'it returns false'. Refute it at one input. -/
def fnExactEncodeRecordWrong : ChangeSpec := { name := "fnExactEncodeRecord", vars := ["loop.example/s02544/impl.be"], fn := fun _ => fun
  | [d, g1] => { results := [.lit (.bool false)], args := [d], vars := [g1] }
  | _ => none }
def FnExactEncodeRecordWrongFalsely : Prop := fnExactEncodeRecordRow.holds Tryd.pinned (OpenSpec.ofChange fnExactEncodeRecordWrong)

/-- 'laws.FnExactRedoPage': WHATEVER THE INPUT: true; the input reads as it did. -/
def fnExactRedoPageSpec : ChangeSpec := { name := "fnExactRedoPage", vars := ["loop.example/s02544/impl.be"], fn := fun _ => fun
  | [d1, d2, d3, d4, g1] => { results := [.lit (.bool true)], args := [d1, d2, d3, d4], vars := [g1] }
  | _ => none }
def fnExactRedoPageRow : OpenClaim := { program := "ytghgjddiheebeaadoor", sum := "d94e60ddd1b8cfdd34d34221fc2aeb4d92d9a9e1e72f5049a4a74ca1ca60680a", func := "loop.example/s02544/laws.FnExactRedoPage", spec := "fnExactRedoPage", named := ["loop.example/s02544/impl.be"], apart := false }
def FnExactRedoPageSaid : Prop := fnExactRedoPageRow.holds Tryd.pinned (OpenSpec.ofChange fnExactRedoPageSpec)

/-- ITS FALSE NEIGHBOUR: 'it returns false'. Refute it at one input. -/
def fnExactRedoPageWrong : ChangeSpec := { name := "fnExactRedoPage", vars := ["loop.example/s02544/impl.be"], fn := fun _ => fun
  | [d1, d2, d3, d4, g1] => { results := [.lit (.bool false)], args := [d1, d2, d3, d4], vars := [g1] }
  | _ => none }
def FnExactRedoPageWrongFalsely : Prop := fnExactRedoPageRow.holds Tryd.pinned (OpenSpec.ofChange fnExactRedoPageWrong)

/-- 'laws.FnExactDecodeRecord': WHATEVER THE INPUT: true; the input reads as it did. -/
def fnExactDecodeRecordSpec : ChangeSpec := { name := "fnExactDecodeRecord", vars := ["loop.example/s02544/impl.be"], fn := fun _ => fun
  | [d, g1] => { results := [.lit (.bool true)], args := [d], vars := [g1] }
  | _ => none }
def fnExactDecodeRecordRow : OpenClaim := { program := "ytghgjddiheebeaadoor", sum := "d94e60ddd1b8cfdd34d34221fc2aeb4d92d9a9e1e72f5049a4a74ca1ca60680a", func := "loop.example/s02544/laws.FnExactDecodeRecord", spec := "fnExactDecodeRecord", named := ["loop.example/s02544/impl.be", "encoding/binary.BigEndian", "bytes.ErrTooLarge"], apart := false, laid := [("bytes.ErrTooLarge", laid_bytes_ErrTooLarge)] }
def FnExactDecodeRecordSaid : Prop := fnExactDecodeRecordRow.holds Tryd.pinned (OpenSpec.ofChange fnExactDecodeRecordSpec)

/-- ITS FALSE NEIGHBOUR: 'it returns false'. Refute it at one input. -/
def fnExactDecodeRecordWrong : ChangeSpec := { name := "fnExactDecodeRecord", vars := ["loop.example/s02544/impl.be"], fn := fun _ => fun
  | [d, g1] => { results := [.lit (.bool false)], args := [d], vars := [g1] }
  | _ => none }
def FnExactDecodeRecordWrongFalsely : Prop := fnExactDecodeRecordRow.holds Tryd.pinned (OpenSpec.ofChange fnExactDecodeRecordWrong)

/- THE SECOND FORM. 'bulk': how many values and letters a reading holds, each counted each time it is reached (what is shared counts as often as it is met; a slice's spare places count too). A statement '..UptoSaid' is the law's where the arguments, and the package variables that the reading takes, are together of bulk at most 1048576: NARROWER than '..Said'. Prove '..Said' where nothing that the law and all that it calls make is longer than what came in: it says more and counts as full. Else prove '..UptoSaid'. A law counts once. -/
mutual
def uptoBulk {H : Type} : DataW H → Nat
  | .lit (.string bytes) => bytes.length + 1
  | .lit _ => 1
  | .nil => 1
  | .ptr d => uptoBulk d + 1
  | .slice elems spare => uptoBulkAll elems + uptoBulkAll spare + 1
  | .agg parts => uptoBulkAll parts + 1
  | .iface _ d => uptoBulk d + 1
  | .map entries => uptoBulkEntries entries + 1
  | .held _ => 1
def uptoBulkAll {H : Type} : List (DataW H) → Nat
  | [] => 0
  | d :: r => uptoBulk d + uptoBulkAll r
def uptoBulkEntries {H : Type} : List (Lit × DataW H) → Nat
  | [] => 0
  | x :: r => uptoBulkEntry x + uptoBulkEntries r
def uptoBulkEntry {H : Type} : Lit × DataW H → Nat
  | (.string bytes, d) => bytes.length + uptoBulk d + 1
  | (_, d) => uptoBulk d + 1
 end
def uptoSmall : (H : Type) → List (DataW H) → Bool := fun _ ds => decide (uptoBulkAll ds ≤ 1048576)
def OpenSpec.upto (s : _root_.Go.ChangeSpec) : _root_.Go.OpenSpec := { _root_.Go.OpenSpec.ofChange s with cond := some uptoSmall }

/-- 'laws.FnExactPageCompact', WHERE WHAT IT READS IS OF BULK AT MOST 1048576: true; the input reads as it did. -/
def fnExactPageCompactUptoRow : OpenClaim := { program := "ytghgjddiheebeaadoor", sum := "d94e60ddd1b8cfdd34d34221fc2aeb4d92d9a9e1e72f5049a4a74ca1ca60680a", func := "loop.example/s02544/laws.FnExactPageCompact", spec := "fnExactPageCompact", named := ["loop.example/s02544/impl.be"], apart := false, narrowed := true }
def FnExactPageCompactUptoSaid : Prop := fnExactPageCompactUptoRow.holds Tryd.pinned (OpenSpec.upto fnExactPageCompactSpec)

/-- 'laws.FnExactPageSet', WHERE WHAT IT READS IS OF BULK AT MOST 1048576: true; the input reads as it did. -/
def fnExactPageSetUptoRow : OpenClaim := { program := "ytghgjddiheebeaadoor", sum := "d94e60ddd1b8cfdd34d34221fc2aeb4d92d9a9e1e72f5049a4a74ca1ca60680a", func := "loop.example/s02544/laws.FnExactPageSet", spec := "fnExactPageSet", named := ["loop.example/s02544/impl.be"], apart := false, narrowed := true }
def FnExactPageSetUptoSaid : Prop := fnExactPageSetUptoRow.holds Tryd.pinned (OpenSpec.upto fnExactPageSetSpec)

/-- 'laws.FnExactRecordFault', WHERE WHAT IT READS IS OF BULK AT MOST 1048576: true; the input reads as it did. -/
def fnExactRecordFaultUptoRow : OpenClaim := { program := "ytghgjddiheebeaadoor", sum := "d94e60ddd1b8cfdd34d34221fc2aeb4d92d9a9e1e72f5049a4a74ca1ca60680a", func := "loop.example/s02544/laws.FnExactRecordFault", spec := "fnExactRecordFault", named := ["loop.example/s02544/impl.be"], apart := false, narrowed := true }
def FnExactRecordFaultUptoSaid : Prop := fnExactRecordFaultUptoRow.holds Tryd.pinned (OpenSpec.upto fnExactRecordFaultSpec)

/-- 'laws.FnExactUndoOf', WHERE WHAT IT READS IS OF BULK AT MOST 1048576: true; the input reads as it did. -/
def fnExactUndoOfUptoRow : OpenClaim := { program := "ytghgjddiheebeaadoor", sum := "d94e60ddd1b8cfdd34d34221fc2aeb4d92d9a9e1e72f5049a4a74ca1ca60680a", func := "loop.example/s02544/laws.FnExactUndoOf", spec := "fnExactUndoOf", named := ["loop.example/s02544/impl.be"], apart := false, narrowed := true }
def FnExactUndoOfUptoSaid : Prop := fnExactUndoOfUptoRow.holds Tryd.pinned (OpenSpec.upto fnExactUndoOfSpec)

/-- 'laws.FnExactFrameSize', WHERE WHAT IT READS IS OF BULK AT MOST 1048576: true; the input reads as it did. -/
def fnExactFrameSizeUptoRow : OpenClaim := { program := "ytghgjddiheebeaadoor", sum := "d94e60ddd1b8cfdd34d34221fc2aeb4d92d9a9e1e72f5049a4a74ca1ca60680a", func := "loop.example/s02544/laws.FnExactFrameSize", spec := "fnExactFrameSize", named := ["loop.example/s02544/impl.be", "encoding/binary.BigEndian", "bytes.ErrTooLarge"], apart := false, laid := [("bytes.ErrTooLarge", laid_bytes_ErrTooLarge)], narrowed := true }
def FnExactFrameSizeUptoSaid : Prop := fnExactFrameSizeUptoRow.holds Tryd.pinned (OpenSpec.upto fnExactFrameSizeSpec)

/-- 'laws.FnExactEncodeRecord', WHERE WHAT IT READS IS OF BULK AT MOST 1048576: true; the input reads as it did. -/
def fnExactEncodeRecordUptoRow : OpenClaim := { program := "ytghgjddiheebeaadoor", sum := "d94e60ddd1b8cfdd34d34221fc2aeb4d92d9a9e1e72f5049a4a74ca1ca60680a", func := "loop.example/s02544/laws.FnExactEncodeRecord", spec := "fnExactEncodeRecord", named := ["loop.example/s02544/impl.be", "encoding/binary.BigEndian", "bytes.ErrTooLarge"], apart := false, laid := [("bytes.ErrTooLarge", laid_bytes_ErrTooLarge)], narrowed := true }
def FnExactEncodeRecordUptoSaid : Prop := fnExactEncodeRecordUptoRow.holds Tryd.pinned (OpenSpec.upto fnExactEncodeRecordSpec)

/-- 'laws.FnExactRedoPage', WHERE WHAT IT READS IS OF BULK AT MOST 1048576: true; the input reads as it did. -/
def fnExactRedoPageUptoRow : OpenClaim := { program := "ytghgjddiheebeaadoor", sum := "d94e60ddd1b8cfdd34d34221fc2aeb4d92d9a9e1e72f5049a4a74ca1ca60680a", func := "loop.example/s02544/laws.FnExactRedoPage", spec := "fnExactRedoPage", named := ["loop.example/s02544/impl.be"], apart := false, narrowed := true }
def FnExactRedoPageUptoSaid : Prop := fnExactRedoPageUptoRow.holds Tryd.pinned (OpenSpec.upto fnExactRedoPageSpec)

/-- 'laws.FnExactDecodeRecord', WHERE WHAT IT READS IS OF BULK AT MOST 1048576: true; the input reads as it did. -/
def fnExactDecodeRecordUptoRow : OpenClaim := { program := "ytghgjddiheebeaadoor", sum := "d94e60ddd1b8cfdd34d34221fc2aeb4d92d9a9e1e72f5049a4a74ca1ca60680a", func := "loop.example/s02544/laws.FnExactDecodeRecord", spec := "fnExactDecodeRecord", named := ["loop.example/s02544/impl.be", "encoding/binary.BigEndian", "bytes.ErrTooLarge"], apart := false, laid := [("bytes.ErrTooLarge", laid_bytes_ErrTooLarge)], narrowed := true }
def FnExactDecodeRecordUptoSaid : Prop := fnExactDecodeRecordUptoRow.holds Tryd.pinned (OpenSpec.upto fnExactDecodeRecordSpec)

end Rows
end Go.Proofs.YtghgjddiheebeaaDoor
