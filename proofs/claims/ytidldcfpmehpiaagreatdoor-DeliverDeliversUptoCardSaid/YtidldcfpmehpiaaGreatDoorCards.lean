/-
  DERIVED. GIVEN WITH THE SEED: THE CARDS: each row of YtidldcfpmehpiaaGreatDoorRows.lean that lists a variable, with what it lists TIED to the program's text (the seventh form; the later family's looks); each row that meets fmt, with fmt's text TOLD by the authors' own Lean function (tested against real Go, not proved from fmt's source: count such statements apart). THE CARD IS WHAT COUNTS. Prove the row's statement (the work); the ties are given (YtidldcfpmehpiaaGreatDoorTie.lean); close each card by the builder's one call (the guide's Derived/Test/ToyasCard.lean, 'card_holds'). Laid BY PROGRAM, IN A SANDBOX (cutbox-door.mjs). By AI agents, Wed Nov 11 2026. No macro, syntax, notation, axiom, sorry.
-/
import Derived.Test.YtidldcfpmehpiaaGreatDoorRows
import GoSem.ClaimSeven
namespace Go.Proofs.YtidldcfpmehpiaaGreatDoor
namespace Rows

/-- THE TIED CARD OF 'postroomlaw.CodeCompiles'. -/
def codeCompilesCard : Claim7 := { stood := { row := codeCompilesRow, standIns := [], harness := (true, "861652195a653db95acdbd6631362ca2f60842ea336bf06eb8aa6f1fb85ae8eb"), looks := true }, kinds := [], alts := [], laidByText := true, laidKinds := [.data, .widerDeep, .widerDeep, .widerDeep, .widerDeep, .widerDeep, .widerDeep, .pinned], laidTests := true, laidLooks := .later }
def CodeCompilesCardSaid : Prop := Claim7.holds Tryz.pinned (.plain (OpenSpec.ofChange codeCompilesSpec)) codeCompilesCard

/-- THE TIED CARD OF 'postroomlaw.JudgeAsks'. -/
def judgeAsksCard : Claim7 := { stood := { row := judgeAsksRow, standIns := [], harness := (true, "861652195a653db95acdbd6631362ca2f60842ea336bf06eb8aa6f1fb85ae8eb"), looks := true }, kinds := [], alts := [], laidByText := true, laidKinds := [.data, .widerDeep, .widerDeep, .widerDeep, .widerDeep, .widerDeep, .widerDeep, .pinned], laidTests := true, laidLooks := .later }
def JudgeAsksCardSaid : Prop := Claim7.holds Tryz.pinned (.plain (OpenSpec.ofChange judgeAsksSpec)) judgeAsksCard

/-- THE TIED CARD OF 'postroomlaw.JudgeJudges'. -/
def judgeJudgesCard : Claim7 := { stood := { row := judgeJudgesRow, standIns := [], harness := (true, "861652195a653db95acdbd6631362ca2f60842ea336bf06eb8aa6f1fb85ae8eb"), looks := true }, kinds := [], alts := [], laidByText := true, laidKinds := [.data, .widerDeep, .widerDeep, .widerDeep, .widerDeep, .widerDeep, .widerDeep, .pinned], laidTests := true, laidLooks := .later }
def JudgeJudgesCardSaid : Prop := Claim7.holds Tryz.pinned (.plain (OpenSpec.ofChange judgeJudgesSpec)) judgeJudgesCard

/-- THE TIED CARD OF 'postroomlaw.DeliverDelivers'. -/
def deliverDeliversCard : Claim7 := { stood := { row := deliverDeliversRow, standIns := [], harness := (true, "861652195a653db95acdbd6631362ca2f60842ea336bf06eb8aa6f1fb85ae8eb"), looks := true }, kinds := [], alts := [], laidByText := true, laidKinds := [.data, .widerDeep, .widerDeep, .widerDeep, .widerDeep, .widerDeep, .widerDeep, .pinned], laidTests := true, laidLooks := .later }
def DeliverDeliversCardSaid : Prop := Claim7.holds Tryz.pinned (.plain (OpenSpec.ofChange deliverDeliversSpec)) deliverDeliversCard

/-- THE TIED CARD OF 'postroomlaw.RuleReads'. -/
def ruleReadsCard : Claim7 := { stood := { row := ruleReadsRow, standIns := [], harness := (true, "861652195a653db95acdbd6631362ca2f60842ea336bf06eb8aa6f1fb85ae8eb"), looks := true }, kinds := [], alts := [], laidByText := true, laidKinds := [.data, .data, .data, .data, .sentinel, .sentinel, .widerDeep, .widerDeep, .widerDeep, .widerDeep, .widerDeep, .widerDeep, .pinned], laidTests := true, laidLooks := .later }
def RuleReadsCardSaid : Prop := Claim7.holds Tryz.pinned (.plain (OpenSpec.ofChange ruleReadsSpec)) ruleReadsCard

/-- THE SECOND FORM's CARD OF 'postroomlaw.CodeCompiles'. -/
def codeCompilesUptoCard : Claim7 := { stood := { row := codeCompilesUptoRow, standIns := [], harness := (true, "861652195a653db95acdbd6631362ca2f60842ea336bf06eb8aa6f1fb85ae8eb"), looks := true }, kinds := [], alts := [], laidByText := true, laidKinds := [.data, .widerDeep, .widerDeep, .widerDeep, .widerDeep, .widerDeep, .widerDeep, .pinned], laidTests := true, laidLooks := .later }
def CodeCompilesUptoCardSaid : Prop := Claim7.holds Tryz.pinned (.plain (OpenSpec.upto codeCompilesSpec)) codeCompilesUptoCard

/-- THE SECOND FORM's CARD OF 'postroomlaw.JudgeAsks'. -/
def judgeAsksUptoCard : Claim7 := { stood := { row := judgeAsksUptoRow, standIns := [], harness := (true, "861652195a653db95acdbd6631362ca2f60842ea336bf06eb8aa6f1fb85ae8eb"), looks := true }, kinds := [], alts := [], laidByText := true, laidKinds := [.data, .widerDeep, .widerDeep, .widerDeep, .widerDeep, .widerDeep, .widerDeep, .pinned], laidTests := true, laidLooks := .later }
def JudgeAsksUptoCardSaid : Prop := Claim7.holds Tryz.pinned (.plain (OpenSpec.upto judgeAsksSpec)) judgeAsksUptoCard

/-- THE SECOND FORM's CARD OF 'postroomlaw.JudgeJudges'. -/
def judgeJudgesUptoCard : Claim7 := { stood := { row := judgeJudgesUptoRow, standIns := [], harness := (true, "861652195a653db95acdbd6631362ca2f60842ea336bf06eb8aa6f1fb85ae8eb"), looks := true }, kinds := [], alts := [], laidByText := true, laidKinds := [.data, .widerDeep, .widerDeep, .widerDeep, .widerDeep, .widerDeep, .widerDeep, .pinned], laidTests := true, laidLooks := .later }
def JudgeJudgesUptoCardSaid : Prop := Claim7.holds Tryz.pinned (.plain (OpenSpec.upto judgeJudgesSpec)) judgeJudgesUptoCard

/-- THE SECOND FORM's CARD OF 'postroomlaw.DeliverDelivers'. -/
def deliverDeliversUptoCard : Claim7 := { stood := { row := deliverDeliversUptoRow, standIns := [], harness := (true, "861652195a653db95acdbd6631362ca2f60842ea336bf06eb8aa6f1fb85ae8eb"), looks := true }, kinds := [], alts := [], laidByText := true, laidKinds := [.data, .widerDeep, .widerDeep, .widerDeep, .widerDeep, .widerDeep, .widerDeep, .pinned], laidTests := true, laidLooks := .later }
def DeliverDeliversUptoCardSaid : Prop := Claim7.holds Tryz.pinned (.plain (OpenSpec.upto deliverDeliversSpec)) deliverDeliversUptoCard

/-- THE SECOND FORM's CARD OF 'postroomlaw.RuleReads'. -/
def ruleReadsUptoCard : Claim7 := { stood := { row := ruleReadsUptoRow, standIns := [], harness := (true, "861652195a653db95acdbd6631362ca2f60842ea336bf06eb8aa6f1fb85ae8eb"), looks := true }, kinds := [], alts := [], laidByText := true, laidKinds := [.data, .data, .data, .data, .sentinel, .sentinel, .widerDeep, .widerDeep, .widerDeep, .widerDeep, .widerDeep, .widerDeep, .pinned], laidTests := true, laidLooks := .later }
def RuleReadsUptoCardSaid : Prop := Claim7.holds Tryz.pinned (.plain (OpenSpec.upto ruleReadsSpec)) ruleReadsUptoCard
end Rows
end Go.Proofs.YtidldcfpmehpiaaGreatDoor
