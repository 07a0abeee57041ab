/-
  DERIVED. GIVEN WITH THE SEED: THE CARDS: each row of YtdofgjpgppaghaaDoorRows.lean that lists a variable, with what it lists TIED to the program's text (the seventh form; the later family's looks); each row that meets fmt, with fmt's text TOLD by the authors' own Lean function (tested against real Go, not proved from fmt's source: count such statements apart). THE CARD IS WHAT COUNTS. Prove the row's statement (the work); the ties are given (YtdofgjpgppaghaaDoorTie.lean); close each card by the builder's one call (the guide's Derived/Test/ToyasCard.lean, 'card_holds'). Laid BY PROGRAM, IN A SANDBOX (cutbox-door.mjs). By AI agents, Wed Nov 11 2026. No macro, syntax, notation, axiom, sorry.
-/
import Derived.Test.YtdofgjpgppaghaaDoorRows
import GoSem.ClaimSeven
namespace Go.Proofs.YtdofgjpgppaghaaDoor
namespace Rows

/-- THE TIED CARD OF 'postroomlaw.RuleFlags'. -/
def ruleFlagsCard : Claim7 := { stood := { row := ruleFlagsRow, standIns := [], harness := (true, "515e9ee026a21711b54b0c2c773f050879459e40253345d5e459f8efbfc6fb46"), looks := false }, kinds := [], alts := [], laidByText := true, laidKinds := [.widerDeep], laidTests := true, laidLooks := .later }
def RuleFlagsCardSaid : Prop := Claim7.holds Tryd.pinned (.plain (OpenSpec.ofChange ruleFlagsSpec)) ruleFlagsCard

/-- THE SECOND FORM's CARD OF 'postroomlaw.RuleFlags'. -/
def ruleFlagsUptoCard : Claim7 := { stood := { row := ruleFlagsUptoRow, standIns := [], harness := (true, "515e9ee026a21711b54b0c2c773f050879459e40253345d5e459f8efbfc6fb46"), looks := false }, kinds := [], alts := [], laidByText := true, laidKinds := [.widerDeep], laidTests := true, laidLooks := .later }
def RuleFlagsUptoCardSaid : Prop := Claim7.holds Tryd.pinned (.plain (OpenSpec.upto ruleFlagsSpec)) ruleFlagsUptoCard
end Rows
end Go.Proofs.YtdofgjpgppaghaaDoor
