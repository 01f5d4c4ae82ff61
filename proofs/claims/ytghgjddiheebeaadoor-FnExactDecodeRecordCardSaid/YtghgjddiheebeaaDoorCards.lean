/-
  DERIVED. GIVEN WITH THE SEED: THE CARDS: each row of YtghgjddiheebeaaDoorRows.lean that lists a variable, with what it lists TIED to the program's text (the seventh form; the later family's looks); each row that meets fmt, with fmt's text TOLD by the authors' own Lean function (tested against real Go, not proved from fmt's source: count such statements apart). THE CARD IS WHAT COUNTS. Prove the row's statement (the work); the ties are given (YtghgjddiheebeaaDoorTie.lean); close each card by the builder's one call (the guide's Derived/Test/ToyasCard.lean, 'card_holds'). Laid BY PROGRAM, IN A SANDBOX (cutbox-door.mjs). By AI agents, Wed Nov 11 2026. No macro, syntax, notation, axiom, sorry.
-/
import Derived.Test.YtghgjddiheebeaaDoorRows
import GoSem.ClaimSeven
namespace Go.Proofs.YtghgjddiheebeaaDoor
namespace Rows

/-- THE TIED CARD OF 'laws.FnExactFrameSize'. -/
def fnExactFrameSizeCard : Claim7 := { stood := { row := fnExactFrameSizeRow, standIns := [], harness := (true, "1f0d8a5609eceda9f3756f3cf3a5460acabcc1a077d9b6eac06996624cc56248"), looks := false }, kinds := [], alts := [], laidByText := true, laidKinds := [.sentinel], laidTests := true, laidLooks := .later }
def FnExactFrameSizeCardSaid : Prop := Claim7.holds Tryd.pinned (.plain (OpenSpec.ofChange fnExactFrameSizeSpec)) fnExactFrameSizeCard

/-- THE TIED CARD OF 'laws.FnExactEncodeRecord'. -/
def fnExactEncodeRecordCard : Claim7 := { stood := { row := fnExactEncodeRecordRow, standIns := [], harness := (true, "1f0d8a5609eceda9f3756f3cf3a5460acabcc1a077d9b6eac06996624cc56248"), looks := false }, kinds := [], alts := [], laidByText := true, laidKinds := [.sentinel], laidTests := true, laidLooks := .later }
def FnExactEncodeRecordCardSaid : Prop := Claim7.holds Tryd.pinned (.plain (OpenSpec.ofChange fnExactEncodeRecordSpec)) fnExactEncodeRecordCard

/-- THE TIED CARD OF 'laws.FnExactDecodeRecord'. -/
def fnExactDecodeRecordCard : Claim7 := { stood := { row := fnExactDecodeRecordRow, standIns := [], harness := (true, "1f0d8a5609eceda9f3756f3cf3a5460acabcc1a077d9b6eac06996624cc56248"), looks := false }, kinds := [], alts := [], laidByText := true, laidKinds := [.sentinel], laidTests := true, laidLooks := .later }
def FnExactDecodeRecordCardSaid : Prop := Claim7.holds Tryd.pinned (.plain (OpenSpec.ofChange fnExactDecodeRecordSpec)) fnExactDecodeRecordCard

/-- THE SECOND FORM's CARD OF 'laws.FnExactFrameSize'. -/
def fnExactFrameSizeUptoCard : Claim7 := { stood := { row := fnExactFrameSizeUptoRow, standIns := [], harness := (true, "1f0d8a5609eceda9f3756f3cf3a5460acabcc1a077d9b6eac06996624cc56248"), looks := false }, kinds := [], alts := [], laidByText := true, laidKinds := [.sentinel], laidTests := true, laidLooks := .later }
def FnExactFrameSizeUptoCardSaid : Prop := Claim7.holds Tryd.pinned (.plain (OpenSpec.upto fnExactFrameSizeSpec)) fnExactFrameSizeUptoCard

/-- THE SECOND FORM's CARD OF 'laws.FnExactEncodeRecord'. -/
def fnExactEncodeRecordUptoCard : Claim7 := { stood := { row := fnExactEncodeRecordUptoRow, standIns := [], harness := (true, "1f0d8a5609eceda9f3756f3cf3a5460acabcc1a077d9b6eac06996624cc56248"), looks := false }, kinds := [], alts := [], laidByText := true, laidKinds := [.sentinel], laidTests := true, laidLooks := .later }
def FnExactEncodeRecordUptoCardSaid : Prop := Claim7.holds Tryd.pinned (.plain (OpenSpec.upto fnExactEncodeRecordSpec)) fnExactEncodeRecordUptoCard

/-- THE SECOND FORM's CARD OF 'laws.FnExactDecodeRecord'. -/
def fnExactDecodeRecordUptoCard : Claim7 := { stood := { row := fnExactDecodeRecordUptoRow, standIns := [], harness := (true, "1f0d8a5609eceda9f3756f3cf3a5460acabcc1a077d9b6eac06996624cc56248"), looks := false }, kinds := [], alts := [], laidByText := true, laidKinds := [.sentinel], laidTests := true, laidLooks := .later }
def FnExactDecodeRecordUptoCardSaid : Prop := Claim7.holds Tryd.pinned (.plain (OpenSpec.upto fnExactDecodeRecordSpec)) fnExactDecodeRecordUptoCard
end Rows
end Go.Proofs.YtghgjddiheebeaaDoor
