/-
  DERIVED. GIVEN WITH THE SEED: THE CARDS: each row of YtnoboapafndnlaaDoorRows.lean that lists a variable, with what it lists TIED to the program's text (the seventh form; the later family's looks); each row that meets fmt, with fmt's text TOLD by the authors' own Lean function (tested against real Go, not proved from fmt's source: count such statements apart). THE CARD IS WHAT COUNTS. Prove the row's statement (the work); the ties are given (YtnoboapafndnlaaDoorTie.lean); close each card by the builder's one call (the guide's Derived/Test/ToyasCard.lean, 'card_holds'). Laid BY PROGRAM, IN A SANDBOX (cutbox-door.mjs). By AI agents, Wed Nov 11 2026. No macro, syntax, notation, axiom, sorry.
-/
import Derived.Test.YtnoboapafndnlaaDoorRows
import GoSem.ClaimSeven
namespace Go.Proofs.YtnoboapafndnlaaDoor
namespace Rows

/-- THE TIED CARD OF 'postroomlaw.ScriptChecks'. -/
def scriptChecksCard : Claim7 := { stood := { row := scriptChecksRow, standIns := [], harness := (true, "2293dc2a4a64ae42895743bffbe8149d6ef6c3c966caa0cc67a51190df50838f"), looks := true }, kinds := [], alts := [], laidByText := true, laidKinds := [.widerDeep, .widerDeep, .widerDeep, .widerDeep], laidTests := true, laidLooks := .later }
def ScriptChecksCardSaid : Prop := Claim7.holds Tryd.pinned (.plain (OpenSpec.ofChange scriptChecksSpec)) scriptChecksCard

/-- THE TIED CARD OF 'postroomlaw.ScriptShows'. -/
def scriptShowsCard : Claim7 := { stood := { row := scriptShowsRow, standIns := [], harness := (true, "2293dc2a4a64ae42895743bffbe8149d6ef6c3c966caa0cc67a51190df50838f"), looks := true }, kinds := [], alts := [], laidByText := true, laidKinds := [.widerDeep, .widerDeep, .widerDeep, .widerDeep], laidTests := true, laidLooks := .later }
def ScriptShowsCardSaid : Prop := Claim7.holds Tryd.pinned (.plain (OpenSpec.ofChange scriptShowsSpec)) scriptShowsCard

/-- THE TIED CARD OF 'postroomlaw.ScriptParses'. -/
def scriptParsesCard : Claim7 := { stood := { row := scriptParsesRow, standIns := [], harness := (true, "2293dc2a4a64ae42895743bffbe8149d6ef6c3c966caa0cc67a51190df50838f"), looks := true }, kinds := [], alts := [], laidByText := true, laidKinds := [.widerDeep, .widerDeep, .widerDeep, .widerDeep], laidTests := true, laidLooks := .later }
def ScriptParsesCardSaid : Prop := Claim7.holds Tryd.pinned (.plain (OpenSpec.ofChange scriptParsesSpec)) scriptParsesCard

/-- THE TIED CARD OF 'postroomlaw.BoxSizes'. -/
def boxSizesCard : Claim7 := { stood := { row := boxSizesRow, standIns := [], harness := (true, "2293dc2a4a64ae42895743bffbe8149d6ef6c3c966caa0cc67a51190df50838f"), looks := true }, kinds := [], alts := [], laidByText := true, laidKinds := [.data, .pinned], laidTests := true, laidLooks := .later }
def BoxSizesCardSaid : Prop := Claim7.holds Tryd.pinned (.plain (OpenSpec.ofChange boxSizesSpec)) boxSizesCard

/-- THE TIED CARD OF 'postroomlaw.BookAppends'. -/
def bookAppendsCard : Claim7 := { stood := { row := bookAppendsRow, standIns := [], harness := (true, "2293dc2a4a64ae42895743bffbe8149d6ef6c3c966caa0cc67a51190df50838f"), looks := true }, kinds := [], alts := [], laidByText := true, laidKinds := [.data, .pinned], laidTests := true, laidLooks := .later }
def BookAppendsCardSaid : Prop := Claim7.holds Tryd.pinned (.plain (OpenSpec.ofChange bookAppendsSpec)) bookAppendsCard

/-- THE TIED CARD OF 'postroomlaw.BookRecovers'. -/
def bookRecoversCard : Claim7 := { stood := { row := bookRecoversRow, standIns := [], harness := (true, "2293dc2a4a64ae42895743bffbe8149d6ef6c3c966caa0cc67a51190df50838f"), looks := true }, kinds := [], alts := [], laidByText := true, laidKinds := [.data, .pinned], laidTests := true, laidLooks := .later }
def BookRecoversCardSaid : Prop := Claim7.holds Tryd.pinned (.plain (OpenSpec.ofChange bookRecoversSpec)) bookRecoversCard

/-- THE TIED CARD OF 'postroomlaw.LetterValues'. -/
def letterValuesCard : Claim7 := { stood := { row := letterValuesRow, standIns := [], harness := (true, "2293dc2a4a64ae42895743bffbe8149d6ef6c3c966caa0cc67a51190df50838f"), looks := true }, kinds := [], alts := [], laidByText := true, laidKinds := [.data, .pinned], laidTests := true, laidLooks := .later }
def LetterValuesCardSaid : Prop := Claim7.holds Tryd.pinned (.plain (OpenSpec.ofChange letterValuesSpec)) letterValuesCard

/-- THE TIED CARD OF 'postroomlaw.JudgeChecks'. -/
def judgeChecksCard : Claim7 := { stood := { row := judgeChecksRow, standIns := [], harness := (true, "2293dc2a4a64ae42895743bffbe8149d6ef6c3c966caa0cc67a51190df50838f"), looks := true }, kinds := [], alts := [], laidByText := true, laidKinds := [.data, .pinned], laidTests := true, laidLooks := .later }
def JudgeChecksCardSaid : Prop := Claim7.holds Tryd.pinned (.plain (OpenSpec.ofChange judgeChecksSpec)) judgeChecksCard

/-- THE TIED CARD OF 'postroomlaw.TokenJoins'. -/
def tokenJoinsCard : Claim7 := { stood := { row := tokenJoinsRow, standIns := [], harness := (true, "2293dc2a4a64ae42895743bffbe8149d6ef6c3c966caa0cc67a51190df50838f"), looks := true }, kinds := [], alts := [], laidByText := true, laidKinds := [.data, .data, .data, .data, .pinned], laidTests := true, laidLooks := .later }
def TokenJoinsCardSaid : Prop := Claim7.holds Tryd.pinned (.plain (OpenSpec.ofChange tokenJoinsSpec)) tokenJoinsCard

/-- THE TIED CARD OF 'postroomlaw.BoxAlls'. -/
def boxAllsCard : Claim7 := { stood := { row := boxAllsRow, standIns := [], harness := (true, "2293dc2a4a64ae42895743bffbe8149d6ef6c3c966caa0cc67a51190df50838f"), looks := true }, kinds := [], alts := [], laidByText := true, laidKinds := [.data, .pinned], laidTests := true, laidLooks := .later }
def BoxAllsCardSaid : Prop := Claim7.holds Tryd.pinned (.plain (OpenSpec.ofChange boxAllsSpec)) boxAllsCard

/-- THE TIED CARD OF 'postroomlaw.BoxApplies'. -/
def boxAppliesCard : Claim7 := { stood := { row := boxAppliesRow, standIns := [], harness := (true, "2293dc2a4a64ae42895743bffbe8149d6ef6c3c966caa0cc67a51190df50838f"), looks := true }, kinds := [], alts := [], laidByText := true, laidKinds := [.data, .pinned], laidTests := true, laidLooks := .later }
def BoxAppliesCardSaid : Prop := Claim7.holds Tryd.pinned (.plain (OpenSpec.ofChange boxAppliesSpec)) boxAppliesCard

/-- THE TIED CARD OF 'postroomlaw.BookFolds'. -/
def bookFoldsCard : Claim7 := { stood := { row := bookFoldsRow, standIns := [], harness := (true, "2293dc2a4a64ae42895743bffbe8149d6ef6c3c966caa0cc67a51190df50838f"), looks := true }, kinds := [], alts := [], laidByText := true, laidKinds := [.data, .pinned], laidTests := true, laidLooks := .later }
def BookFoldsCardSaid : Prop := Claim7.holds Tryd.pinned (.plain (OpenSpec.ofChange bookFoldsSpec)) bookFoldsCard

/-- THE SECOND FORM's CARD OF 'postroomlaw.ScriptChecks'. -/
def scriptChecksUptoCard : Claim7 := { stood := { row := scriptChecksUptoRow, standIns := [], harness := (true, "2293dc2a4a64ae42895743bffbe8149d6ef6c3c966caa0cc67a51190df50838f"), looks := true }, kinds := [], alts := [], laidByText := true, laidKinds := [.widerDeep, .widerDeep, .widerDeep, .widerDeep], laidTests := true, laidLooks := .later }
def ScriptChecksUptoCardSaid : Prop := Claim7.holds Tryd.pinned (.plain (OpenSpec.upto scriptChecksSpec)) scriptChecksUptoCard

/-- THE SECOND FORM's CARD OF 'postroomlaw.ScriptShows'. -/
def scriptShowsUptoCard : Claim7 := { stood := { row := scriptShowsUptoRow, standIns := [], harness := (true, "2293dc2a4a64ae42895743bffbe8149d6ef6c3c966caa0cc67a51190df50838f"), looks := true }, kinds := [], alts := [], laidByText := true, laidKinds := [.widerDeep, .widerDeep, .widerDeep, .widerDeep], laidTests := true, laidLooks := .later }
def ScriptShowsUptoCardSaid : Prop := Claim7.holds Tryd.pinned (.plain (OpenSpec.upto scriptShowsSpec)) scriptShowsUptoCard

/-- THE SECOND FORM's CARD OF 'postroomlaw.ScriptParses'. -/
def scriptParsesUptoCard : Claim7 := { stood := { row := scriptParsesUptoRow, standIns := [], harness := (true, "2293dc2a4a64ae42895743bffbe8149d6ef6c3c966caa0cc67a51190df50838f"), looks := true }, kinds := [], alts := [], laidByText := true, laidKinds := [.widerDeep, .widerDeep, .widerDeep, .widerDeep], laidTests := true, laidLooks := .later }
def ScriptParsesUptoCardSaid : Prop := Claim7.holds Tryd.pinned (.plain (OpenSpec.upto scriptParsesSpec)) scriptParsesUptoCard

/-- THE SECOND FORM's CARD OF 'postroomlaw.BoxSizes'. -/
def boxSizesUptoCard : Claim7 := { stood := { row := boxSizesUptoRow, standIns := [], harness := (true, "2293dc2a4a64ae42895743bffbe8149d6ef6c3c966caa0cc67a51190df50838f"), looks := true }, kinds := [], alts := [], laidByText := true, laidKinds := [.data, .pinned], laidTests := true, laidLooks := .later }
def BoxSizesUptoCardSaid : Prop := Claim7.holds Tryd.pinned (.plain (OpenSpec.upto boxSizesSpec)) boxSizesUptoCard

/-- THE SECOND FORM's CARD OF 'postroomlaw.BookAppends'. -/
def bookAppendsUptoCard : Claim7 := { stood := { row := bookAppendsUptoRow, standIns := [], harness := (true, "2293dc2a4a64ae42895743bffbe8149d6ef6c3c966caa0cc67a51190df50838f"), looks := true }, kinds := [], alts := [], laidByText := true, laidKinds := [.data, .pinned], laidTests := true, laidLooks := .later }
def BookAppendsUptoCardSaid : Prop := Claim7.holds Tryd.pinned (.plain (OpenSpec.upto bookAppendsSpec)) bookAppendsUptoCard

/-- THE SECOND FORM's CARD OF 'postroomlaw.BookRecovers'. -/
def bookRecoversUptoCard : Claim7 := { stood := { row := bookRecoversUptoRow, standIns := [], harness := (true, "2293dc2a4a64ae42895743bffbe8149d6ef6c3c966caa0cc67a51190df50838f"), looks := true }, kinds := [], alts := [], laidByText := true, laidKinds := [.data, .pinned], laidTests := true, laidLooks := .later }
def BookRecoversUptoCardSaid : Prop := Claim7.holds Tryd.pinned (.plain (OpenSpec.upto bookRecoversSpec)) bookRecoversUptoCard

/-- THE SECOND FORM's CARD OF 'postroomlaw.LetterValues'. -/
def letterValuesUptoCard : Claim7 := { stood := { row := letterValuesUptoRow, standIns := [], harness := (true, "2293dc2a4a64ae42895743bffbe8149d6ef6c3c966caa0cc67a51190df50838f"), looks := true }, kinds := [], alts := [], laidByText := true, laidKinds := [.data, .pinned], laidTests := true, laidLooks := .later }
def LetterValuesUptoCardSaid : Prop := Claim7.holds Tryd.pinned (.plain (OpenSpec.upto letterValuesSpec)) letterValuesUptoCard

/-- THE SECOND FORM's CARD OF 'postroomlaw.JudgeChecks'. -/
def judgeChecksUptoCard : Claim7 := { stood := { row := judgeChecksUptoRow, standIns := [], harness := (true, "2293dc2a4a64ae42895743bffbe8149d6ef6c3c966caa0cc67a51190df50838f"), looks := true }, kinds := [], alts := [], laidByText := true, laidKinds := [.data, .pinned], laidTests := true, laidLooks := .later }
def JudgeChecksUptoCardSaid : Prop := Claim7.holds Tryd.pinned (.plain (OpenSpec.upto judgeChecksSpec)) judgeChecksUptoCard

/-- THE SECOND FORM's CARD OF 'postroomlaw.TokenJoins'. -/
def tokenJoinsUptoCard : Claim7 := { stood := { row := tokenJoinsUptoRow, standIns := [], harness := (true, "2293dc2a4a64ae42895743bffbe8149d6ef6c3c966caa0cc67a51190df50838f"), looks := true }, kinds := [], alts := [], laidByText := true, laidKinds := [.data, .data, .data, .data, .pinned], laidTests := true, laidLooks := .later }
def TokenJoinsUptoCardSaid : Prop := Claim7.holds Tryd.pinned (.plain (OpenSpec.upto tokenJoinsSpec)) tokenJoinsUptoCard

/-- THE SECOND FORM's CARD OF 'postroomlaw.BoxAlls'. -/
def boxAllsUptoCard : Claim7 := { stood := { row := boxAllsUptoRow, standIns := [], harness := (true, "2293dc2a4a64ae42895743bffbe8149d6ef6c3c966caa0cc67a51190df50838f"), looks := true }, kinds := [], alts := [], laidByText := true, laidKinds := [.data, .pinned], laidTests := true, laidLooks := .later }
def BoxAllsUptoCardSaid : Prop := Claim7.holds Tryd.pinned (.plain (OpenSpec.upto boxAllsSpec)) boxAllsUptoCard

/-- THE SECOND FORM's CARD OF 'postroomlaw.BoxApplies'. -/
def boxAppliesUptoCard : Claim7 := { stood := { row := boxAppliesUptoRow, standIns := [], harness := (true, "2293dc2a4a64ae42895743bffbe8149d6ef6c3c966caa0cc67a51190df50838f"), looks := true }, kinds := [], alts := [], laidByText := true, laidKinds := [.data, .pinned], laidTests := true, laidLooks := .later }
def BoxAppliesUptoCardSaid : Prop := Claim7.holds Tryd.pinned (.plain (OpenSpec.upto boxAppliesSpec)) boxAppliesUptoCard

/-- THE SECOND FORM's CARD OF 'postroomlaw.BookFolds'. -/
def bookFoldsUptoCard : Claim7 := { stood := { row := bookFoldsUptoRow, standIns := [], harness := (true, "2293dc2a4a64ae42895743bffbe8149d6ef6c3c966caa0cc67a51190df50838f"), looks := true }, kinds := [], alts := [], laidByText := true, laidKinds := [.data, .pinned], laidTests := true, laidLooks := .later }
def BookFoldsUptoCardSaid : Prop := Claim7.holds Tryd.pinned (.plain (OpenSpec.upto bookFoldsSpec)) bookFoldsUptoCard
end Rows
end Go.Proofs.YtnoboapafndnlaaDoor
