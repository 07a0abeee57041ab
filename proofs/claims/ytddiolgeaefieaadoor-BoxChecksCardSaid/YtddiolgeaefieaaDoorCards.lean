/-
  DERIVED. GIVEN WITH THE SEED: THE CARDS: each row of YtddiolgeaefieaaDoorRows.lean that lists a variable, with what it lists TIED to the program's text (the seventh form; the later family's looks); each row that meets fmt, with fmt's text TOLD by the authors' own Lean function (tested against real Go, not proved from fmt's source: count such statements apart). THE CARD IS WHAT COUNTS. Prove the row's statement (the work); the ties are given (YtddiolgeaefieaaDoorTie.lean); close each card by the builder's one call (the guide's Derived/Test/ToyasCard.lean, 'card_holds'). Laid BY PROGRAM, IN A SANDBOX (cutbox-door.mjs). By AI agents, Wed Nov 11 2026. No macro, syntax, notation, axiom, sorry.
-/
import Derived.Test.YtddiolgeaefieaaDoorRows
import GoSem.ClaimSeven
namespace Go.Proofs.YtddiolgeaefieaaDoor
namespace Rows

/-- THE TIED CARD OF 'postroomlaw.WhoChecks'. -/
def whoChecksCard : Claim7 := { stood := { row := whoChecksRow, standIns := [], harness := (true, "431e4b72e037fadeef0235c2387c25910a880a4946bd012b8d8f391eb3d31bdd"), looks := true }, kinds := [], alts := [], laidByText := true, laidKinds := [.data, .pinned], laidTests := true, laidLooks := .later }
def WhoChecksCardSaid : Prop := Claim7.holds Tryd.pinned (.plain (OpenSpec.ofChange whoChecksSpec)) whoChecksCard

/-- THE TIED CARD OF 'postroomlaw.WhoParts'. -/
def whoPartsCard : Claim7 := { stood := { row := whoPartsRow, standIns := [], harness := (true, "431e4b72e037fadeef0235c2387c25910a880a4946bd012b8d8f391eb3d31bdd"), looks := true }, kinds := [], alts := [], laidByText := true, laidKinds := [.data, .pinned], laidTests := true, laidLooks := .later }
def WhoPartsCardSaid : Prop := Claim7.holds Tryd.pinned (.plain (OpenSpec.ofChange whoPartsSpec)) whoPartsCard

/-- THE TIED CARD OF 'postroomlaw.LmtpChecks'. -/
def lmtpChecksCard : Claim7 := { stood := { row := lmtpChecksRow, standIns := [], harness := (true, "431e4b72e037fadeef0235c2387c25910a880a4946bd012b8d8f391eb3d31bdd"), looks := true }, kinds := [], alts := [], laidByText := true, laidKinds := [.data, .pinned], laidTests := true, laidLooks := .later }
def LmtpChecksCardSaid : Prop := Claim7.holds Tryd.pinned (.plain (OpenSpec.ofChange lmtpChecksSpec)) lmtpChecksCard

/-- THE TIED CARD OF 'postroomlaw.WhoLists'. -/
def whoListsCard : Claim7 := { stood := { row := whoListsRow, standIns := [], harness := (true, "431e4b72e037fadeef0235c2387c25910a880a4946bd012b8d8f391eb3d31bdd"), looks := true }, kinds := [], alts := [], laidByText := true, laidKinds := [.data, .pinned], laidTests := true, laidLooks := .later }
def WhoListsCardSaid : Prop := Claim7.holds Tryd.pinned (.plain (OpenSpec.ofChange whoListsSpec)) whoListsCard

/-- THE TIED CARD OF 'postroomlaw.BoxForms'. -/
def boxFormsCard : Claim7 := { stood := { row := boxFormsRow, standIns := [], harness := (true, "431e4b72e037fadeef0235c2387c25910a880a4946bd012b8d8f391eb3d31bdd"), looks := true }, kinds := [], alts := [], laidByText := true, laidKinds := [.data, .pinned], laidTests := true, laidLooks := .later }
def BoxFormsCardSaid : Prop := Claim7.holds Tryd.pinned (.plain (OpenSpec.ofChange boxFormsSpec)) boxFormsCard

/-- THE TIED CARD OF 'postroomlaw.LetterParses'. -/
def letterParsesCard : Claim7 := { stood := { row := letterParsesRow, standIns := [], harness := (true, "431e4b72e037fadeef0235c2387c25910a880a4946bd012b8d8f391eb3d31bdd"), looks := true }, kinds := [], alts := [], laidByText := true, laidKinds := [.data, .pinned], laidTests := true, laidLooks := .later }
def LetterParsesCardSaid : Prop := Claim7.holds Tryd.pinned (.plain (OpenSpec.ofChange letterParsesSpec)) letterParsesCard

/-- THE TIED CARD OF 'postroomlaw.LetterChecks'. -/
def letterChecksCard : Claim7 := { stood := { row := letterChecksRow, standIns := [], harness := (true, "431e4b72e037fadeef0235c2387c25910a880a4946bd012b8d8f391eb3d31bdd"), looks := true }, kinds := [], alts := [], laidByText := true, laidKinds := [.data, .pinned], laidTests := true, laidLooks := .later }
def LetterChecksCardSaid : Prop := Claim7.holds Tryd.pinned (.plain (OpenSpec.ofChange letterChecksSpec)) letterChecksCard

/-- THE TIED CARD OF 'postroomlaw.BookChecks'. -/
def bookChecksCard : Claim7 := { stood := { row := bookChecksRow, standIns := [], harness := (true, "431e4b72e037fadeef0235c2387c25910a880a4946bd012b8d8f391eb3d31bdd"), looks := true }, kinds := [], alts := [], laidByText := true, laidKinds := [.data, .pinned], laidTests := true, laidLooks := .later }
def BookChecksCardSaid : Prop := Claim7.holds Tryd.pinned (.plain (OpenSpec.ofChange bookChecksSpec)) bookChecksCard

/-- THE TIED CARD OF 'postroomlaw.LetterShows'. -/
def letterShowsCard : Claim7 := { stood := { row := letterShowsRow, standIns := [], harness := (true, "431e4b72e037fadeef0235c2387c25910a880a4946bd012b8d8f391eb3d31bdd"), looks := true }, kinds := [], alts := [], laidByText := true, laidKinds := [.data, .pinned], laidTests := true, laidLooks := .later }
def LetterShowsCardSaid : Prop := Claim7.holds Tryd.pinned (.plain (OpenSpec.ofChange letterShowsSpec)) letterShowsCard

/-- THE TIED CARD OF 'postroomlaw.BookEncodes'. -/
def bookEncodesCard : Claim7 := { stood := { row := bookEncodesRow, standIns := [], harness := (true, "431e4b72e037fadeef0235c2387c25910a880a4946bd012b8d8f391eb3d31bdd"), looks := true }, kinds := [], alts := [], laidByText := true, laidKinds := [.data, .pinned], laidTests := true, laidLooks := .later }
def BookEncodesCardSaid : Prop := Claim7.holds Tryd.pinned (.plain (OpenSpec.ofChange bookEncodesSpec)) bookEncodesCard

/-- THE TIED CARD OF 'postroomlaw.BoxChecks'. -/
def boxChecksCard : Claim7 := { stood := { row := boxChecksRow, standIns := [], harness := (true, "431e4b72e037fadeef0235c2387c25910a880a4946bd012b8d8f391eb3d31bdd"), looks := true }, kinds := [], alts := [], laidByText := true, laidKinds := [.data, .pinned], laidTests := true, laidLooks := .later }
def BoxChecksCardSaid : Prop := Claim7.holds Tryd.pinned (.plain (OpenSpec.ofChange boxChecksSpec)) boxChecksCard

/-- THE TIED CARD OF 'postroomlaw.BookDecodes'. -/
def bookDecodesCard : Claim7 := { stood := { row := bookDecodesRow, standIns := [], harness := (true, "431e4b72e037fadeef0235c2387c25910a880a4946bd012b8d8f391eb3d31bdd"), looks := true }, kinds := [], alts := [], laidByText := true, laidKinds := [.data, .pinned], laidTests := true, laidLooks := .later }
def BookDecodesCardSaid : Prop := Claim7.holds Tryd.pinned (.plain (OpenSpec.ofChange bookDecodesSpec)) bookDecodesCard

/-- THE SECOND FORM's CARD OF 'postroomlaw.WhoChecks'. -/
def whoChecksUptoCard : Claim7 := { stood := { row := whoChecksUptoRow, standIns := [], harness := (true, "431e4b72e037fadeef0235c2387c25910a880a4946bd012b8d8f391eb3d31bdd"), looks := true }, kinds := [], alts := [], laidByText := true, laidKinds := [.data, .pinned], laidTests := true, laidLooks := .later }
def WhoChecksUptoCardSaid : Prop := Claim7.holds Tryd.pinned (.plain (OpenSpec.upto whoChecksSpec)) whoChecksUptoCard

/-- THE SECOND FORM's CARD OF 'postroomlaw.WhoParts'. -/
def whoPartsUptoCard : Claim7 := { stood := { row := whoPartsUptoRow, standIns := [], harness := (true, "431e4b72e037fadeef0235c2387c25910a880a4946bd012b8d8f391eb3d31bdd"), looks := true }, kinds := [], alts := [], laidByText := true, laidKinds := [.data, .pinned], laidTests := true, laidLooks := .later }
def WhoPartsUptoCardSaid : Prop := Claim7.holds Tryd.pinned (.plain (OpenSpec.upto whoPartsSpec)) whoPartsUptoCard

/-- THE SECOND FORM's CARD OF 'postroomlaw.LmtpChecks'. -/
def lmtpChecksUptoCard : Claim7 := { stood := { row := lmtpChecksUptoRow, standIns := [], harness := (true, "431e4b72e037fadeef0235c2387c25910a880a4946bd012b8d8f391eb3d31bdd"), looks := true }, kinds := [], alts := [], laidByText := true, laidKinds := [.data, .pinned], laidTests := true, laidLooks := .later }
def LmtpChecksUptoCardSaid : Prop := Claim7.holds Tryd.pinned (.plain (OpenSpec.upto lmtpChecksSpec)) lmtpChecksUptoCard

/-- THE SECOND FORM's CARD OF 'postroomlaw.WhoLists'. -/
def whoListsUptoCard : Claim7 := { stood := { row := whoListsUptoRow, standIns := [], harness := (true, "431e4b72e037fadeef0235c2387c25910a880a4946bd012b8d8f391eb3d31bdd"), looks := true }, kinds := [], alts := [], laidByText := true, laidKinds := [.data, .pinned], laidTests := true, laidLooks := .later }
def WhoListsUptoCardSaid : Prop := Claim7.holds Tryd.pinned (.plain (OpenSpec.upto whoListsSpec)) whoListsUptoCard

/-- THE SECOND FORM's CARD OF 'postroomlaw.BoxForms'. -/
def boxFormsUptoCard : Claim7 := { stood := { row := boxFormsUptoRow, standIns := [], harness := (true, "431e4b72e037fadeef0235c2387c25910a880a4946bd012b8d8f391eb3d31bdd"), looks := true }, kinds := [], alts := [], laidByText := true, laidKinds := [.data, .pinned], laidTests := true, laidLooks := .later }
def BoxFormsUptoCardSaid : Prop := Claim7.holds Tryd.pinned (.plain (OpenSpec.upto boxFormsSpec)) boxFormsUptoCard

/-- THE SECOND FORM's CARD OF 'postroomlaw.LetterParses'. -/
def letterParsesUptoCard : Claim7 := { stood := { row := letterParsesUptoRow, standIns := [], harness := (true, "431e4b72e037fadeef0235c2387c25910a880a4946bd012b8d8f391eb3d31bdd"), looks := true }, kinds := [], alts := [], laidByText := true, laidKinds := [.data, .pinned], laidTests := true, laidLooks := .later }
def LetterParsesUptoCardSaid : Prop := Claim7.holds Tryd.pinned (.plain (OpenSpec.upto letterParsesSpec)) letterParsesUptoCard

/-- THE SECOND FORM's CARD OF 'postroomlaw.LetterChecks'. -/
def letterChecksUptoCard : Claim7 := { stood := { row := letterChecksUptoRow, standIns := [], harness := (true, "431e4b72e037fadeef0235c2387c25910a880a4946bd012b8d8f391eb3d31bdd"), looks := true }, kinds := [], alts := [], laidByText := true, laidKinds := [.data, .pinned], laidTests := true, laidLooks := .later }
def LetterChecksUptoCardSaid : Prop := Claim7.holds Tryd.pinned (.plain (OpenSpec.upto letterChecksSpec)) letterChecksUptoCard

/-- THE SECOND FORM's CARD OF 'postroomlaw.BookChecks'. -/
def bookChecksUptoCard : Claim7 := { stood := { row := bookChecksUptoRow, standIns := [], harness := (true, "431e4b72e037fadeef0235c2387c25910a880a4946bd012b8d8f391eb3d31bdd"), looks := true }, kinds := [], alts := [], laidByText := true, laidKinds := [.data, .pinned], laidTests := true, laidLooks := .later }
def BookChecksUptoCardSaid : Prop := Claim7.holds Tryd.pinned (.plain (OpenSpec.upto bookChecksSpec)) bookChecksUptoCard

/-- THE SECOND FORM's CARD OF 'postroomlaw.LetterShows'. -/
def letterShowsUptoCard : Claim7 := { stood := { row := letterShowsUptoRow, standIns := [], harness := (true, "431e4b72e037fadeef0235c2387c25910a880a4946bd012b8d8f391eb3d31bdd"), looks := true }, kinds := [], alts := [], laidByText := true, laidKinds := [.data, .pinned], laidTests := true, laidLooks := .later }
def LetterShowsUptoCardSaid : Prop := Claim7.holds Tryd.pinned (.plain (OpenSpec.upto letterShowsSpec)) letterShowsUptoCard

/-- THE SECOND FORM's CARD OF 'postroomlaw.BookEncodes'. -/
def bookEncodesUptoCard : Claim7 := { stood := { row := bookEncodesUptoRow, standIns := [], harness := (true, "431e4b72e037fadeef0235c2387c25910a880a4946bd012b8d8f391eb3d31bdd"), looks := true }, kinds := [], alts := [], laidByText := true, laidKinds := [.data, .pinned], laidTests := true, laidLooks := .later }
def BookEncodesUptoCardSaid : Prop := Claim7.holds Tryd.pinned (.plain (OpenSpec.upto bookEncodesSpec)) bookEncodesUptoCard

/-- THE SECOND FORM's CARD OF 'postroomlaw.BoxChecks'. -/
def boxChecksUptoCard : Claim7 := { stood := { row := boxChecksUptoRow, standIns := [], harness := (true, "431e4b72e037fadeef0235c2387c25910a880a4946bd012b8d8f391eb3d31bdd"), looks := true }, kinds := [], alts := [], laidByText := true, laidKinds := [.data, .pinned], laidTests := true, laidLooks := .later }
def BoxChecksUptoCardSaid : Prop := Claim7.holds Tryd.pinned (.plain (OpenSpec.upto boxChecksSpec)) boxChecksUptoCard

/-- THE SECOND FORM's CARD OF 'postroomlaw.BookDecodes'. -/
def bookDecodesUptoCard : Claim7 := { stood := { row := bookDecodesUptoRow, standIns := [], harness := (true, "431e4b72e037fadeef0235c2387c25910a880a4946bd012b8d8f391eb3d31bdd"), looks := true }, kinds := [], alts := [], laidByText := true, laidKinds := [.data, .pinned], laidTests := true, laidLooks := .later }
def BookDecodesUptoCardSaid : Prop := Claim7.holds Tryd.pinned (.plain (OpenSpec.upto bookDecodesSpec)) bookDecodesUptoCard
end Rows
end Go.Proofs.YtddiolgeaefieaaDoor
