/-
  DERIVED. GIVEN WITH THE SEED: THE CARDS: each row of YtglgppkjgodlkaaDoorRows.lean that lists a variable, with what it lists TIED to the program's text (the seventh form; the later family's looks); each row that meets fmt, with fmt's text TOLD by the authors' own Lean function (tested against real Go, not proved from fmt's source: count such statements apart). THE CARD IS WHAT COUNTS. Prove the row's statement (the work); the ties are given (YtglgppkjgodlkaaDoorTie.lean); close each card by the builder's one call (the guide's Derived/Test/ToyasCard.lean, 'card_holds'). Laid BY PROGRAM, IN A SANDBOX (cutbox-door.mjs). By AI agents, Wed Nov 11 2026. No macro, syntax, notation, axiom, sorry.
-/
import Derived.Test.YtglgppkjgodlkaaDoorRows
import GoSem.ClaimSeven
namespace Go.Proofs.YtglgppkjgodlkaaDoor
namespace Rows

/-- THE TIED CARD OF 'madrigallaw01.LexErrors'. -/
def lexErrorsCard : Claim7 := { stood := { row := lexErrorsRow, standIns := [], harness := (true, "0161d58b53091addaf0509bbcc0b20c9aa2d178b05f81bad039ab86cf3cc1aab"), looks := true }, kinds := [], alts := [], laidByText := true, laidKinds := [.data, .data, .data, .sentinel, .sentinel, .listed, .data], laidTests := true, laidLooks := .later }
def LexErrorsCardSaid : Prop := Claim7.holds Tryd.pinned (.plain (OpenSpec.ofChange lexErrorsSpec)) lexErrorsCard

/-- THE TIED CARD OF 'madrigallaw01.LexBoth'. -/
def lexBothCard : Claim7 := { stood := { row := lexBothRow, standIns := [], harness := (true, "0161d58b53091addaf0509bbcc0b20c9aa2d178b05f81bad039ab86cf3cc1aab"), looks := true }, kinds := [], alts := [], laidByText := true, laidKinds := [.data, .data, .data, .sentinel, .sentinel, .listed, .data], laidTests := true, laidLooks := .later }
def LexBothCardSaid : Prop := Claim7.holds Tryd.pinned (.plain (OpenSpec.ofChange lexBothSpec)) lexBothCard

/-- THE TIED CARD OF 'madrigallaw01.LexStripped'. -/
def lexStrippedCard : Claim7 := { stood := { row := lexStrippedRow, standIns := [], harness := (true, "0161d58b53091addaf0509bbcc0b20c9aa2d178b05f81bad039ab86cf3cc1aab"), looks := true }, kinds := [], alts := [], laidByText := true, laidKinds := [.data, .data, .data, .sentinel, .sentinel, .listed, .data], laidTests := true, laidLooks := .later }
def LexStrippedCardSaid : Prop := Claim7.holds Tryd.pinned (.plain (OpenSpec.ofChange lexStrippedSpec)) lexStrippedCard

/-- THE TIED CARD OF 'madrigallaw01.LexWords'. -/
def lexWordsCard : Claim7 := { stood := { row := lexWordsRow, standIns := [], harness := (true, "0161d58b53091addaf0509bbcc0b20c9aa2d178b05f81bad039ab86cf3cc1aab"), looks := true }, kinds := [], alts := [], laidByText := true, laidKinds := [.data, .data, .data, .sentinel, .sentinel, .listed, .data], laidTests := true, laidLooks := .later }
def LexWordsCardSaid : Prop := Claim7.holds Tryd.pinned (.plain (OpenSpec.ofChange lexWordsSpec)) lexWordsCard

/-- THE SECOND FORM's CARD OF 'madrigallaw01.LexErrors'. -/
def lexErrorsUptoCard : Claim7 := { stood := { row := lexErrorsUptoRow, standIns := [], harness := (true, "0161d58b53091addaf0509bbcc0b20c9aa2d178b05f81bad039ab86cf3cc1aab"), looks := true }, kinds := [], alts := [], laidByText := true, laidKinds := [.data, .data, .data, .sentinel, .sentinel, .listed, .data], laidTests := true, laidLooks := .later }
def LexErrorsUptoCardSaid : Prop := Claim7.holds Tryd.pinned (.plain (OpenSpec.upto lexErrorsSpec)) lexErrorsUptoCard

/-- THE SECOND FORM's CARD OF 'madrigallaw01.LexBoth'. -/
def lexBothUptoCard : Claim7 := { stood := { row := lexBothUptoRow, standIns := [], harness := (true, "0161d58b53091addaf0509bbcc0b20c9aa2d178b05f81bad039ab86cf3cc1aab"), looks := true }, kinds := [], alts := [], laidByText := true, laidKinds := [.data, .data, .data, .sentinel, .sentinel, .listed, .data], laidTests := true, laidLooks := .later }
def LexBothUptoCardSaid : Prop := Claim7.holds Tryd.pinned (.plain (OpenSpec.upto lexBothSpec)) lexBothUptoCard

/-- THE SECOND FORM's CARD OF 'madrigallaw01.LexStripped'. -/
def lexStrippedUptoCard : Claim7 := { stood := { row := lexStrippedUptoRow, standIns := [], harness := (true, "0161d58b53091addaf0509bbcc0b20c9aa2d178b05f81bad039ab86cf3cc1aab"), looks := true }, kinds := [], alts := [], laidByText := true, laidKinds := [.data, .data, .data, .sentinel, .sentinel, .listed, .data], laidTests := true, laidLooks := .later }
def LexStrippedUptoCardSaid : Prop := Claim7.holds Tryd.pinned (.plain (OpenSpec.upto lexStrippedSpec)) lexStrippedUptoCard

/-- THE SECOND FORM's CARD OF 'madrigallaw01.LexWords'. -/
def lexWordsUptoCard : Claim7 := { stood := { row := lexWordsUptoRow, standIns := [], harness := (true, "0161d58b53091addaf0509bbcc0b20c9aa2d178b05f81bad039ab86cf3cc1aab"), looks := true }, kinds := [], alts := [], laidByText := true, laidKinds := [.data, .data, .data, .sentinel, .sentinel, .listed, .data], laidTests := true, laidLooks := .later }
def LexWordsUptoCardSaid : Prop := Claim7.holds Tryd.pinned (.plain (OpenSpec.upto lexWordsSpec)) lexWordsUptoCard
end Rows
end Go.Proofs.YtglgppkjgodlkaaDoor
