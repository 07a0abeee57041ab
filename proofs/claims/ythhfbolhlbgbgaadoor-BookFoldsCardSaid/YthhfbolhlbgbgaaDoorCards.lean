/-
  DERIVED. GIVEN WITH THE SEED: THE CARDS: each row of YthhfbolhlbgbgaaDoorRows.lean that lists a variable, with what it lists TIED to the program's text (the seventh form; the later family's looks); each row that meets fmt, with fmt's text TOLD by the authors' own Lean function (tested against real Go, not proved from fmt's source: count such statements apart). THE CARD IS WHAT COUNTS. Prove the row's statement (the work); the ties are given (YthhfbolhlbgbgaaDoorTie.lean); close each card by the builder's one call (the guide's Derived/Test/ToyasCard.lean, 'card_holds'). Laid BY PROGRAM, IN A SANDBOX (cutbox-door.mjs). By AI agents, Wed Nov 11 2026. No macro, syntax, notation, axiom, sorry.
-/
import Derived.Test.YthhfbolhlbgbgaaDoorRows
import GoSem.ClaimSeven
namespace Go.Proofs.YthhfbolhlbgbgaaDoor
namespace Rows

/-- THE TIED CARD OF 'postroomlaw.BoxSizes'. -/
def boxSizesCard : Claim7 := { stood := { row := boxSizesRow, standIns := [], harness := (true, "039140292b7b2f03e489609b2afaf25d70ceda00e708ee84257607f9765a8658"), looks := true }, kinds := [], alts := [], laidByText := true, laidKinds := [.data, .pinned], laidTests := true, laidLooks := .later }
def BoxSizesCardSaid : Prop := Claim7.holds Tryd.pinned (.plain (OpenSpec.ofChange boxSizesSpec)) boxSizesCard

/-- THE TIED CARD OF 'postroomlaw.BookAppends'. -/
def bookAppendsCard : Claim7 := { stood := { row := bookAppendsRow, standIns := [], harness := (true, "039140292b7b2f03e489609b2afaf25d70ceda00e708ee84257607f9765a8658"), looks := true }, kinds := [], alts := [], laidByText := true, laidKinds := [.data, .pinned], laidTests := true, laidLooks := .later }
def BookAppendsCardSaid : Prop := Claim7.holds Tryd.pinned (.plain (OpenSpec.ofChange bookAppendsSpec)) bookAppendsCard

/-- THE TIED CARD OF 'postroomlaw.BookRecovers'. -/
def bookRecoversCard : Claim7 := { stood := { row := bookRecoversRow, standIns := [], harness := (true, "039140292b7b2f03e489609b2afaf25d70ceda00e708ee84257607f9765a8658"), looks := true }, kinds := [], alts := [], laidByText := true, laidKinds := [.data, .pinned], laidTests := true, laidLooks := .later }
def BookRecoversCardSaid : Prop := Claim7.holds Tryd.pinned (.plain (OpenSpec.ofChange bookRecoversSpec)) bookRecoversCard

/-- THE TIED CARD OF 'postroomlaw.BoxAlls'. -/
def boxAllsCard : Claim7 := { stood := { row := boxAllsRow, standIns := [], harness := (true, "039140292b7b2f03e489609b2afaf25d70ceda00e708ee84257607f9765a8658"), looks := true }, kinds := [], alts := [], laidByText := true, laidKinds := [.data, .pinned], laidTests := true, laidLooks := .later }
def BoxAllsCardSaid : Prop := Claim7.holds Tryd.pinned (.plain (OpenSpec.ofChange boxAllsSpec)) boxAllsCard

/-- THE TIED CARD OF 'postroomlaw.BoxApplies'. -/
def boxAppliesCard : Claim7 := { stood := { row := boxAppliesRow, standIns := [], harness := (true, "039140292b7b2f03e489609b2afaf25d70ceda00e708ee84257607f9765a8658"), looks := true }, kinds := [], alts := [], laidByText := true, laidKinds := [.data, .pinned], laidTests := true, laidLooks := .later }
def BoxAppliesCardSaid : Prop := Claim7.holds Tryd.pinned (.plain (OpenSpec.ofChange boxAppliesSpec)) boxAppliesCard

/-- THE TIED CARD OF 'postroomlaw.BookFolds'. -/
def bookFoldsCard : Claim7 := { stood := { row := bookFoldsRow, standIns := [], harness := (true, "039140292b7b2f03e489609b2afaf25d70ceda00e708ee84257607f9765a8658"), looks := true }, kinds := [], alts := [], laidByText := true, laidKinds := [.data, .pinned], laidTests := true, laidLooks := .later }
def BookFoldsCardSaid : Prop := Claim7.holds Tryd.pinned (.plain (OpenSpec.ofChange bookFoldsSpec)) bookFoldsCard

/-- THE TIED CARD OF 'postroomlaw.LetterParses'. -/
def letterParsesCard : Claim7 := { stood := { row := letterParsesRow, standIns := [], harness := (true, "039140292b7b2f03e489609b2afaf25d70ceda00e708ee84257607f9765a8658"), looks := true }, kinds := [], alts := [], laidByText := true, laidKinds := [.data, .pinned], laidTests := true, laidLooks := .later }
def LetterParsesCardSaid : Prop := Claim7.holds Tryd.pinned (.plain (OpenSpec.ofChange letterParsesSpec)) letterParsesCard

/-- THE TIED CARD OF 'postroomlaw.LetterChecks'. -/
def letterChecksCard : Claim7 := { stood := { row := letterChecksRow, standIns := [], harness := (true, "039140292b7b2f03e489609b2afaf25d70ceda00e708ee84257607f9765a8658"), looks := true }, kinds := [], alts := [], laidByText := true, laidKinds := [.data, .pinned], laidTests := true, laidLooks := .later }
def LetterChecksCardSaid : Prop := Claim7.holds Tryd.pinned (.plain (OpenSpec.ofChange letterChecksSpec)) letterChecksCard

/-- THE TIED CARD OF 'postroomlaw.LetterShows'. -/
def letterShowsCard : Claim7 := { stood := { row := letterShowsRow, standIns := [], harness := (true, "039140292b7b2f03e489609b2afaf25d70ceda00e708ee84257607f9765a8658"), looks := true }, kinds := [], alts := [], laidByText := true, laidKinds := [.data, .pinned], laidTests := true, laidLooks := .later }
def LetterShowsCardSaid : Prop := Claim7.holds Tryd.pinned (.plain (OpenSpec.ofChange letterShowsSpec)) letterShowsCard

/-- THE TIED CARD OF 'postroomlaw.LetterValues'. -/
def letterValuesCard : Claim7 := { stood := { row := letterValuesRow, standIns := [], harness := (true, "039140292b7b2f03e489609b2afaf25d70ceda00e708ee84257607f9765a8658"), looks := true }, kinds := [], alts := [], laidByText := true, laidKinds := [.data, .pinned], laidTests := true, laidLooks := .later }
def LetterValuesCardSaid : Prop := Claim7.holds Tryd.pinned (.plain (OpenSpec.ofChange letterValuesSpec)) letterValuesCard

/-- THE TIED CARD OF 'postroomlaw.JudgeChecks'. -/
def judgeChecksCard : Claim7 := { stood := { row := judgeChecksRow, standIns := [], harness := (true, "039140292b7b2f03e489609b2afaf25d70ceda00e708ee84257607f9765a8658"), looks := true }, kinds := [], alts := [], laidByText := true, laidKinds := [.data, .pinned], laidTests := true, laidLooks := .later }
def JudgeChecksCardSaid : Prop := Claim7.holds Tryd.pinned (.plain (OpenSpec.ofChange judgeChecksSpec)) judgeChecksCard

/-- THE TIED CARD OF 'postroomlaw.BookDecodes'. -/
def bookDecodesCard : Claim7 := { stood := { row := bookDecodesRow, standIns := [], harness := (true, "039140292b7b2f03e489609b2afaf25d70ceda00e708ee84257607f9765a8658"), looks := true }, kinds := [], alts := [], laidByText := true, laidKinds := [.data, .pinned], laidTests := true, laidLooks := .later }
def BookDecodesCardSaid : Prop := Claim7.holds Tryd.pinned (.plain (OpenSpec.ofChange bookDecodesSpec)) bookDecodesCard

/-- THE SECOND FORM's CARD OF 'postroomlaw.BoxSizes'. -/
def boxSizesUptoCard : Claim7 := { stood := { row := boxSizesUptoRow, standIns := [], harness := (true, "039140292b7b2f03e489609b2afaf25d70ceda00e708ee84257607f9765a8658"), looks := true }, kinds := [], alts := [], laidByText := true, laidKinds := [.data, .pinned], laidTests := true, laidLooks := .later }
def BoxSizesUptoCardSaid : Prop := Claim7.holds Tryd.pinned (.plain (OpenSpec.upto boxSizesSpec)) boxSizesUptoCard

/-- THE SECOND FORM's CARD OF 'postroomlaw.BookAppends'. -/
def bookAppendsUptoCard : Claim7 := { stood := { row := bookAppendsUptoRow, standIns := [], harness := (true, "039140292b7b2f03e489609b2afaf25d70ceda00e708ee84257607f9765a8658"), looks := true }, kinds := [], alts := [], laidByText := true, laidKinds := [.data, .pinned], laidTests := true, laidLooks := .later }
def BookAppendsUptoCardSaid : Prop := Claim7.holds Tryd.pinned (.plain (OpenSpec.upto bookAppendsSpec)) bookAppendsUptoCard

/-- THE SECOND FORM's CARD OF 'postroomlaw.BookRecovers'. -/
def bookRecoversUptoCard : Claim7 := { stood := { row := bookRecoversUptoRow, standIns := [], harness := (true, "039140292b7b2f03e489609b2afaf25d70ceda00e708ee84257607f9765a8658"), looks := true }, kinds := [], alts := [], laidByText := true, laidKinds := [.data, .pinned], laidTests := true, laidLooks := .later }
def BookRecoversUptoCardSaid : Prop := Claim7.holds Tryd.pinned (.plain (OpenSpec.upto bookRecoversSpec)) bookRecoversUptoCard

/-- THE SECOND FORM's CARD OF 'postroomlaw.BoxAlls'. -/
def boxAllsUptoCard : Claim7 := { stood := { row := boxAllsUptoRow, standIns := [], harness := (true, "039140292b7b2f03e489609b2afaf25d70ceda00e708ee84257607f9765a8658"), looks := true }, kinds := [], alts := [], laidByText := true, laidKinds := [.data, .pinned], laidTests := true, laidLooks := .later }
def BoxAllsUptoCardSaid : Prop := Claim7.holds Tryd.pinned (.plain (OpenSpec.upto boxAllsSpec)) boxAllsUptoCard

/-- THE SECOND FORM's CARD OF 'postroomlaw.BoxApplies'. -/
def boxAppliesUptoCard : Claim7 := { stood := { row := boxAppliesUptoRow, standIns := [], harness := (true, "039140292b7b2f03e489609b2afaf25d70ceda00e708ee84257607f9765a8658"), looks := true }, kinds := [], alts := [], laidByText := true, laidKinds := [.data, .pinned], laidTests := true, laidLooks := .later }
def BoxAppliesUptoCardSaid : Prop := Claim7.holds Tryd.pinned (.plain (OpenSpec.upto boxAppliesSpec)) boxAppliesUptoCard

/-- THE SECOND FORM's CARD OF 'postroomlaw.BookFolds'. -/
def bookFoldsUptoCard : Claim7 := { stood := { row := bookFoldsUptoRow, standIns := [], harness := (true, "039140292b7b2f03e489609b2afaf25d70ceda00e708ee84257607f9765a8658"), looks := true }, kinds := [], alts := [], laidByText := true, laidKinds := [.data, .pinned], laidTests := true, laidLooks := .later }
def BookFoldsUptoCardSaid : Prop := Claim7.holds Tryd.pinned (.plain (OpenSpec.upto bookFoldsSpec)) bookFoldsUptoCard

/-- THE SECOND FORM's CARD OF 'postroomlaw.LetterParses'. -/
def letterParsesUptoCard : Claim7 := { stood := { row := letterParsesUptoRow, standIns := [], harness := (true, "039140292b7b2f03e489609b2afaf25d70ceda00e708ee84257607f9765a8658"), looks := true }, kinds := [], alts := [], laidByText := true, laidKinds := [.data, .pinned], laidTests := true, laidLooks := .later }
def LetterParsesUptoCardSaid : Prop := Claim7.holds Tryd.pinned (.plain (OpenSpec.upto letterParsesSpec)) letterParsesUptoCard

/-- THE SECOND FORM's CARD OF 'postroomlaw.LetterChecks'. -/
def letterChecksUptoCard : Claim7 := { stood := { row := letterChecksUptoRow, standIns := [], harness := (true, "039140292b7b2f03e489609b2afaf25d70ceda00e708ee84257607f9765a8658"), looks := true }, kinds := [], alts := [], laidByText := true, laidKinds := [.data, .pinned], laidTests := true, laidLooks := .later }
def LetterChecksUptoCardSaid : Prop := Claim7.holds Tryd.pinned (.plain (OpenSpec.upto letterChecksSpec)) letterChecksUptoCard

/-- THE SECOND FORM's CARD OF 'postroomlaw.LetterShows'. -/
def letterShowsUptoCard : Claim7 := { stood := { row := letterShowsUptoRow, standIns := [], harness := (true, "039140292b7b2f03e489609b2afaf25d70ceda00e708ee84257607f9765a8658"), looks := true }, kinds := [], alts := [], laidByText := true, laidKinds := [.data, .pinned], laidTests := true, laidLooks := .later }
def LetterShowsUptoCardSaid : Prop := Claim7.holds Tryd.pinned (.plain (OpenSpec.upto letterShowsSpec)) letterShowsUptoCard

/-- THE SECOND FORM's CARD OF 'postroomlaw.LetterValues'. -/
def letterValuesUptoCard : Claim7 := { stood := { row := letterValuesUptoRow, standIns := [], harness := (true, "039140292b7b2f03e489609b2afaf25d70ceda00e708ee84257607f9765a8658"), looks := true }, kinds := [], alts := [], laidByText := true, laidKinds := [.data, .pinned], laidTests := true, laidLooks := .later }
def LetterValuesUptoCardSaid : Prop := Claim7.holds Tryd.pinned (.plain (OpenSpec.upto letterValuesSpec)) letterValuesUptoCard

/-- THE SECOND FORM's CARD OF 'postroomlaw.JudgeChecks'. -/
def judgeChecksUptoCard : Claim7 := { stood := { row := judgeChecksUptoRow, standIns := [], harness := (true, "039140292b7b2f03e489609b2afaf25d70ceda00e708ee84257607f9765a8658"), looks := true }, kinds := [], alts := [], laidByText := true, laidKinds := [.data, .pinned], laidTests := true, laidLooks := .later }
def JudgeChecksUptoCardSaid : Prop := Claim7.holds Tryd.pinned (.plain (OpenSpec.upto judgeChecksSpec)) judgeChecksUptoCard

/-- THE SECOND FORM's CARD OF 'postroomlaw.BookDecodes'. -/
def bookDecodesUptoCard : Claim7 := { stood := { row := bookDecodesUptoRow, standIns := [], harness := (true, "039140292b7b2f03e489609b2afaf25d70ceda00e708ee84257607f9765a8658"), looks := true }, kinds := [], alts := [], laidByText := true, laidKinds := [.data, .pinned], laidTests := true, laidLooks := .later }
def BookDecodesUptoCardSaid : Prop := Claim7.holds Tryd.pinned (.plain (OpenSpec.upto bookDecodesSpec)) bookDecodesUptoCard
end Rows
end Go.Proofs.YthhfbolhlbgbgaaDoor
