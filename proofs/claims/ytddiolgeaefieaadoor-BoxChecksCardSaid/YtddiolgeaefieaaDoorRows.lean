/-
  NARROWER THAN 'FOR EVERY INPUT', by the rows' own cells (each row's printed sentence says how): WhoChecks: laid · WhoParts: laid · LmtpChecks: laid · WhoLists: laid · BoxForms: laid · LetterParses: laid · LetterChecks: laid · BookChecks: laid · LetterShows: laid · BookEncodes: laid · BoxChecks: laid · BookDecodes: laid.
  DERIVED. THE GIVEN ROWS OF THIS SEAT. 12 by the template 'for every input the law returns true; each argument reads behind the call as it read before'; 0 by the template 'total and deterministic' (their statements: YtddiolgeaefieaaDoorTotals.lean).
  GIVEN WITH THE SEED: the statements are not yours to turn. If you find one false, say at which input.
  Laid BY PROGRAM, IN A SANDBOX (cutbox-rows.mjs): the forced cells as the released guide's own fill.sh prints them over the translation 15166cabb4394579… (all of the seat's roots in one cut). By AI agents, Wed Nov 11 2026. No macro, syntax, notation, axiom, sorry.
-/
import Derived.Test.YtddiolgeaefieaaDoorChecked
import GoSem.PinnedTables
import GoSem.Claim
import GoSem.ClaimJoined
import GoSem.ClaimMapViews
import Derived.JoinedTies
import Derived.KernelRfl
namespace Go.Proofs.YtddiolgeaefieaaDoor
/- THE CELL 'sum', in the pinned program and in every row, IS THE sha256 OF THE DUMP (.gsa) THAT YtddiolgeaefieaaDoorProg.lean LOADS. Nothing in Lean hashes anything: it is a label: what it is worth is what the hold of that sum in a sandbox is worth. -/
noncomputable def Tryd.pinned : Pinned := { name := "ytddiolgeaefieaadoor", sum := "15166cabb43945798342a42be0239b141d80af6009bf171041bac6bb3b1c8e68", checked := Tryd.checked }
namespace Rows
def none {H : Type} : Left H := { results := [], args := [] }

/- WHAT THE LISTED PACKAGE-LEVEL VARIABLES READ AS WHEN THE CALL BEGINS. Each datum BY PROGRAM (the guide's laid-datum.mjs) off the statement by which the dump's own 'gosem.cut.vars' lays the variable. In a bare row this is a premise. The card (YtddiolgeaefieaaDoorCards.lean) ties it to the program's text. -/
def laid_unicode_utf8_acceptRanges {H : Type} : DataW H := .agg [.agg [.lit (.int .u8 128), .lit (.int .u8 191)], .agg [.lit (.int .u8 160), .lit (.int .u8 191)], .agg [.lit (.int .u8 128), .lit (.int .u8 159)], .agg [.lit (.int .u8 144), .lit (.int .u8 191)], .agg [.lit (.int .u8 128), .lit (.int .u8 143)], .agg [.lit (.int .u8 0), .lit (.int .u8 0)], .agg [.lit (.int .u8 0), .lit (.int .u8 0)], .agg [.lit (.int .u8 0), .lit (.int .u8 0)], .agg [.lit (.int .u8 0), .lit (.int .u8 0)], .agg [.lit (.int .u8 0), .lit (.int .u8 0)], .agg [.lit (.int .u8 0), .lit (.int .u8 0)], .agg [.lit (.int .u8 0), .lit (.int .u8 0)], .agg [.lit (.int .u8 0), .lit (.int .u8 0)], .agg [.lit (.int .u8 0), .lit (.int .u8 0)], .agg [.lit (.int .u8 0), .lit (.int .u8 0)], .agg [.lit (.int .u8 0), .lit (.int .u8 0)]]
/-- One of Go's own tables, pinned by name: the form's constant. -/
def laid_unicode_utf8_first : DataW Unit := Go.Pinned.utf8First

/-- 'postroomlaw.WhoChecks': WHATEVER THE INPUT: true; the input reads as it did. -/
def whoChecksSpec : ChangeSpec := { name := "whoChecks", fn := fun _ => fun
  | [d] => { results := [.lit (.bool true)], args := [d] }
  | _ => none }
def whoChecksRow : OpenClaim := { program := "ytddiolgeaefieaadoor", sum := "15166cabb43945798342a42be0239b141d80af6009bf171041bac6bb3b1c8e68", func := "postroom/postroomlaw.WhoChecks", spec := "whoChecks", inPlace := ["internal/bytealg.CountString", "internal/bytealg.IndexByteString", "internal/bytealg.IndexString"], named := ["unicode/utf8.first", "unicode/utf8.acceptRanges", "internal/bytealg.MaxLen"], apart := false, laid := [("unicode/utf8.acceptRanges", laid_unicode_utf8_acceptRanges), ("unicode/utf8.first", laid_unicode_utf8_first)] }
def WhoChecksSaid : Prop := whoChecksRow.holds Tryd.pinned (OpenSpec.ofChange whoChecksSpec)

/-- ITS FALSE NEIGHBOUR: 'it returns false'. Refute it at one input. -/
def whoChecksWrong : ChangeSpec := { name := "whoChecks", fn := fun _ => fun
  | [d] => { results := [.lit (.bool false)], args := [d] }
  | _ => none }
def WhoChecksWrongFalsely : Prop := whoChecksRow.holds Tryd.pinned (OpenSpec.ofChange whoChecksWrong)

/-- 'postroomlaw.WhoParts': WHATEVER THE INPUT: true; the input reads as it did. -/
def whoPartsSpec : ChangeSpec := { name := "whoParts", fn := fun _ => fun
  | [d1, d2] => { results := [.lit (.bool true)], args := [d1, d2] }
  | _ => none }
def whoPartsRow : OpenClaim := { program := "ytddiolgeaefieaadoor", sum := "15166cabb43945798342a42be0239b141d80af6009bf171041bac6bb3b1c8e68", func := "postroom/postroomlaw.WhoParts", spec := "whoParts", inPlace := ["internal/bytealg.CountString", "internal/bytealg.IndexByteString", "internal/bytealg.IndexString"], named := ["unicode/utf8.first", "unicode/utf8.acceptRanges", "internal/bytealg.MaxLen"], apart := false, laid := [("unicode/utf8.acceptRanges", laid_unicode_utf8_acceptRanges), ("unicode/utf8.first", laid_unicode_utf8_first)] }
def WhoPartsSaid : Prop := whoPartsRow.holds Tryd.pinned (OpenSpec.ofChange whoPartsSpec)

/-- ITS FALSE NEIGHBOUR: 'it returns false'. Refute it at one input. -/
def whoPartsWrong : ChangeSpec := { name := "whoParts", fn := fun _ => fun
  | [d1, d2] => { results := [.lit (.bool false)], args := [d1, d2] }
  | _ => none }
def WhoPartsWrongFalsely : Prop := whoPartsRow.holds Tryd.pinned (OpenSpec.ofChange whoPartsWrong)

/-- 'postroomlaw.LmtpChecks': WHATEVER THE INPUT: true; the input reads as it did. -/
def lmtpChecksSpec : ChangeSpec := { name := "lmtpChecks", fn := fun _ => fun
  | [d] => { results := [.lit (.bool true)], args := [d] }
  | _ => none }
def lmtpChecksRow : OpenClaim := { program := "ytddiolgeaefieaadoor", sum := "15166cabb43945798342a42be0239b141d80af6009bf171041bac6bb3b1c8e68", func := "postroom/postroomlaw.LmtpChecks", spec := "lmtpChecks", inPlace := ["internal/bytealg.CountString", "internal/bytealg.IndexByteString", "internal/bytealg.IndexString"], named := ["unicode/utf8.first", "unicode/utf8.acceptRanges", "internal/bytealg.MaxLen"], apart := false, laid := [("unicode/utf8.acceptRanges", laid_unicode_utf8_acceptRanges), ("unicode/utf8.first", laid_unicode_utf8_first)] }
def LmtpChecksSaid : Prop := lmtpChecksRow.holds Tryd.pinned (OpenSpec.ofChange lmtpChecksSpec)

/-- ITS FALSE NEIGHBOUR: 'it returns false'. Refute it at one input. -/
def lmtpChecksWrong : ChangeSpec := { name := "lmtpChecks", fn := fun _ => fun
  | [d] => { results := [.lit (.bool false)], args := [d] }
  | _ => none }
def LmtpChecksWrongFalsely : Prop := lmtpChecksRow.holds Tryd.pinned (OpenSpec.ofChange lmtpChecksWrong)

/-- 'postroomlaw.WhoLists': WHATEVER THE INPUT: true; the input reads as it did. -/
def whoListsSpec : ChangeSpec := { name := "whoLists", fn := fun _ => fun
  | [d] => { results := [.lit (.bool true)], args := [d] }
  | _ => none }
def whoListsRow : OpenClaim := { program := "ytddiolgeaefieaadoor", sum := "15166cabb43945798342a42be0239b141d80af6009bf171041bac6bb3b1c8e68", func := "postroom/postroomlaw.WhoLists", spec := "whoLists", inPlace := ["internal/bytealg.IndexByteString", "internal/bytealg.CountString", "internal/bytealg.IndexString"], unfollowed := true, recurses := true, named := ["unicode/utf8.first", "unicode/utf8.acceptRanges", "internal/bytealg.MaxLen"], apart := false, laid := [("unicode/utf8.acceptRanges", laid_unicode_utf8_acceptRanges), ("unicode/utf8.first", laid_unicode_utf8_first)] }
def WhoListsSaid : Prop := whoListsRow.holds Tryd.pinned (OpenSpec.ofChange whoListsSpec)

/-- ITS FALSE NEIGHBOUR: 'it returns false'. Refute it at one input. -/
def whoListsWrong : ChangeSpec := { name := "whoLists", fn := fun _ => fun
  | [d] => { results := [.lit (.bool false)], args := [d] }
  | _ => none }
def WhoListsWrongFalsely : Prop := whoListsRow.holds Tryd.pinned (OpenSpec.ofChange whoListsWrong)

/-- 'postroomlaw.BoxForms': WHATEVER THE INPUT: true; the input reads as it did. -/
def boxFormsSpec : ChangeSpec := { name := "boxForms", fn := fun _ => fun
  | [d] => { results := [.lit (.bool true)], args := [d] }
  | _ => none }
def boxFormsRow : OpenClaim := { program := "ytddiolgeaefieaadoor", sum := "15166cabb43945798342a42be0239b141d80af6009bf171041bac6bb3b1c8e68", func := "postroom/postroomlaw.BoxForms", spec := "boxForms", inPlace := ["internal/bytealg.IndexByteString", "internal/bytealg.CountString", "internal/bytealg.IndexString"], unfollowed := true, recurses := true, named := ["unicode/utf8.first", "unicode/utf8.acceptRanges", "internal/bytealg.MaxLen"], apart := false, laid := [("unicode/utf8.acceptRanges", laid_unicode_utf8_acceptRanges), ("unicode/utf8.first", laid_unicode_utf8_first)] }
def BoxFormsSaid : Prop := boxFormsRow.holds Tryd.pinned (OpenSpec.ofChange boxFormsSpec)

/-- ITS FALSE NEIGHBOUR: 'it returns false'. Refute it at one input. -/
def boxFormsWrong : ChangeSpec := { name := "boxForms", fn := fun _ => fun
  | [d] => { results := [.lit (.bool false)], args := [d] }
  | _ => none }
def BoxFormsWrongFalsely : Prop := boxFormsRow.holds Tryd.pinned (OpenSpec.ofChange boxFormsWrong)

/-- 'postroomlaw.LetterParses': WHATEVER THE INPUT: true; the input reads as it did. -/
def letterParsesSpec : ChangeSpec := { name := "letterParses", fn := fun _ => fun
  | [d] => { results := [.lit (.bool true)], args := [d] }
  | _ => none }
def letterParsesRow : OpenClaim := { program := "ytddiolgeaefieaadoor", sum := "15166cabb43945798342a42be0239b141d80af6009bf171041bac6bb3b1c8e68", func := "postroom/postroomlaw.LetterParses", spec := "letterParses", inPlace := ["internal/bytealg.IndexByteString", "internal/bytealg.IndexString"], named := ["internal/bytealg.MaxLen", "unicode/utf8.first", "unicode/utf8.acceptRanges"], apart := false, laid := [("unicode/utf8.acceptRanges", laid_unicode_utf8_acceptRanges), ("unicode/utf8.first", laid_unicode_utf8_first)] }
def LetterParsesSaid : Prop := letterParsesRow.holds Tryd.pinned (OpenSpec.ofChange letterParsesSpec)

/-- ITS FALSE NEIGHBOUR: 'it returns false'. Refute it at one input. -/
def letterParsesWrong : ChangeSpec := { name := "letterParses", fn := fun _ => fun
  | [d] => { results := [.lit (.bool false)], args := [d] }
  | _ => none }
def LetterParsesWrongFalsely : Prop := letterParsesRow.holds Tryd.pinned (OpenSpec.ofChange letterParsesWrong)

/-- 'postroomlaw.LetterChecks': WHATEVER THE INPUT: true; the input reads as it did. -/
def letterChecksSpec : ChangeSpec := { name := "letterChecks", fn := fun _ => fun
  | [d] => { results := [.lit (.bool true)], args := [d] }
  | _ => none }
def letterChecksRow : OpenClaim := { program := "ytddiolgeaefieaadoor", sum := "15166cabb43945798342a42be0239b141d80af6009bf171041bac6bb3b1c8e68", func := "postroom/postroomlaw.LetterChecks", spec := "letterChecks", inPlace := ["internal/bytealg.IndexByteString", "internal/bytealg.IndexString", "internal/abi.NoEscape"], named := ["internal/bytealg.MaxLen", "unicode/utf8.first", "unicode/utf8.acceptRanges"], apart := false, laid := [("unicode/utf8.acceptRanges", laid_unicode_utf8_acceptRanges), ("unicode/utf8.first", laid_unicode_utf8_first)] }
def LetterChecksSaid : Prop := letterChecksRow.holds Tryd.pinned (OpenSpec.ofChange letterChecksSpec)

/-- ITS FALSE NEIGHBOUR: 'it returns false'. Refute it at one input. -/
def letterChecksWrong : ChangeSpec := { name := "letterChecks", fn := fun _ => fun
  | [d] => { results := [.lit (.bool false)], args := [d] }
  | _ => none }
def LetterChecksWrongFalsely : Prop := letterChecksRow.holds Tryd.pinned (OpenSpec.ofChange letterChecksWrong)

/-- 'postroomlaw.BookChecks': WHATEVER THE INPUT: true; the input reads as it did. -/
def bookChecksSpec : ChangeSpec := { name := "bookChecks", fn := fun _ => fun
  | [d] => { results := [.lit (.bool true)], args := [d] }
  | _ => none }
def bookChecksRow : OpenClaim := { program := "ytddiolgeaefieaadoor", sum := "15166cabb43945798342a42be0239b141d80af6009bf171041bac6bb3b1c8e68", func := "postroom/postroomlaw.BookChecks", spec := "bookChecks", inPlace := ["internal/bytealg.IndexByteString", "internal/bytealg.CountString", "internal/bytealg.IndexString"], unfollowed := true, recurses := true, named := ["unicode/utf8.first", "unicode/utf8.acceptRanges", "internal/bytealg.MaxLen"], apart := false, laid := [("unicode/utf8.acceptRanges", laid_unicode_utf8_acceptRanges), ("unicode/utf8.first", laid_unicode_utf8_first)] }
def BookChecksSaid : Prop := bookChecksRow.holds Tryd.pinned (OpenSpec.ofChange bookChecksSpec)

/-- ITS FALSE NEIGHBOUR: 'it returns false'. Refute it at one input. -/
def bookChecksWrong : ChangeSpec := { name := "bookChecks", fn := fun _ => fun
  | [d] => { results := [.lit (.bool false)], args := [d] }
  | _ => none }
def BookChecksWrongFalsely : Prop := bookChecksRow.holds Tryd.pinned (OpenSpec.ofChange bookChecksWrong)

/-- 'postroomlaw.LetterShows': WHATEVER THE INPUT: true; the input reads as it did. -/
def letterShowsSpec : ChangeSpec := { name := "letterShows", fn := fun _ => fun
  | [d] => { results := [.lit (.bool true)], args := [d] }
  | _ => none }
def letterShowsRow : OpenClaim := { program := "ytddiolgeaefieaadoor", sum := "15166cabb43945798342a42be0239b141d80af6009bf171041bac6bb3b1c8e68", func := "postroom/postroomlaw.LetterShows", spec := "letterShows", inPlace := ["internal/bytealg.IndexByteString", "internal/bytealg.IndexString", "internal/abi.NoEscape"], named := ["internal/bytealg.MaxLen", "unicode/utf8.first", "unicode/utf8.acceptRanges"], apart := false, laid := [("unicode/utf8.acceptRanges", laid_unicode_utf8_acceptRanges), ("unicode/utf8.first", laid_unicode_utf8_first)] }
def LetterShowsSaid : Prop := letterShowsRow.holds Tryd.pinned (OpenSpec.ofChange letterShowsSpec)

/-- ITS FALSE NEIGHBOUR: 'it returns false'. Refute it at one input. -/
def letterShowsWrong : ChangeSpec := { name := "letterShows", fn := fun _ => fun
  | [d] => { results := [.lit (.bool false)], args := [d] }
  | _ => none }
def LetterShowsWrongFalsely : Prop := letterShowsRow.holds Tryd.pinned (OpenSpec.ofChange letterShowsWrong)

/-- 'postroomlaw.BookEncodes': WHATEVER THE INPUT: true; the input reads as it did. -/
def bookEncodesSpec : ChangeSpec := { name := "bookEncodes", fn := fun _ => fun
  | [d] => { results := [.lit (.bool true)], args := [d] }
  | _ => none }
def bookEncodesRow : OpenClaim := { program := "ytddiolgeaefieaadoor", sum := "15166cabb43945798342a42be0239b141d80af6009bf171041bac6bb3b1c8e68", func := "postroom/postroomlaw.BookEncodes", spec := "bookEncodes", inPlace := ["internal/bytealg.IndexByteString", "internal/bytealg.CountString", "internal/bytealg.IndexString"], unfollowed := true, recurses := true, named := ["unicode/utf8.first", "unicode/utf8.acceptRanges", "internal/bytealg.MaxLen"], apart := false, laid := [("unicode/utf8.acceptRanges", laid_unicode_utf8_acceptRanges), ("unicode/utf8.first", laid_unicode_utf8_first)] }
def BookEncodesSaid : Prop := bookEncodesRow.holds Tryd.pinned (OpenSpec.ofChange bookEncodesSpec)

/-- ITS FALSE NEIGHBOUR: 'it returns false'. Refute it at one input. -/
def bookEncodesWrong : ChangeSpec := { name := "bookEncodes", fn := fun _ => fun
  | [d] => { results := [.lit (.bool false)], args := [d] }
  | _ => none }
def BookEncodesWrongFalsely : Prop := bookEncodesRow.holds Tryd.pinned (OpenSpec.ofChange bookEncodesWrong)

/-- 'postroomlaw.BoxChecks': WHATEVER THE INPUT: true; the input reads as it did. -/
def boxChecksSpec : ChangeSpec := { name := "boxChecks", fn := fun _ => fun
  | [d] => { results := [.lit (.bool true)], args := [d] }
  | _ => none }
def boxChecksRow : OpenClaim := { program := "ytddiolgeaefieaadoor", sum := "15166cabb43945798342a42be0239b141d80af6009bf171041bac6bb3b1c8e68", func := "postroom/postroomlaw.BoxChecks", spec := "boxChecks", inPlace := ["internal/bytealg.IndexByteString", "internal/bytealg.CountString", "internal/bytealg.IndexString"], unfollowed := true, recurses := true, named := ["unicode/utf8.first", "unicode/utf8.acceptRanges", "internal/bytealg.MaxLen"], apart := false, laid := [("unicode/utf8.acceptRanges", laid_unicode_utf8_acceptRanges), ("unicode/utf8.first", laid_unicode_utf8_first)] }
def BoxChecksSaid : Prop := boxChecksRow.holds Tryd.pinned (OpenSpec.ofChange boxChecksSpec)

/-- ITS FALSE NEIGHBOUR: 'it returns false'. Refute it at one input. -/
def boxChecksWrong : ChangeSpec := { name := "boxChecks", fn := fun _ => fun
  | [d] => { results := [.lit (.bool false)], args := [d] }
  | _ => none }
def BoxChecksWrongFalsely : Prop := boxChecksRow.holds Tryd.pinned (OpenSpec.ofChange boxChecksWrong)

/-- 'postroomlaw.BookDecodes': WHATEVER THE INPUT: true; the input reads as it did. -/
def bookDecodesSpec : ChangeSpec := { name := "bookDecodes", fn := fun _ => fun
  | [d] => { results := [.lit (.bool true)], args := [d] }
  | _ => none }
def bookDecodesRow : OpenClaim := { program := "ytddiolgeaefieaadoor", sum := "15166cabb43945798342a42be0239b141d80af6009bf171041bac6bb3b1c8e68", func := "postroom/postroomlaw.BookDecodes", spec := "bookDecodes", inPlace := ["internal/bytealg.IndexByteString", "internal/bytealg.CountString", "internal/bytealg.IndexString"], unfollowed := true, recurses := true, named := ["unicode/utf8.first", "unicode/utf8.acceptRanges", "internal/bytealg.MaxLen"], apart := false, laid := [("unicode/utf8.acceptRanges", laid_unicode_utf8_acceptRanges), ("unicode/utf8.first", laid_unicode_utf8_first)] }
def BookDecodesSaid : Prop := bookDecodesRow.holds Tryd.pinned (OpenSpec.ofChange bookDecodesSpec)

/-- ITS FALSE NEIGHBOUR: 'it returns false'. Refute it at one input. -/
def bookDecodesWrong : ChangeSpec := { name := "bookDecodes", fn := fun _ => fun
  | [d] => { results := [.lit (.bool false)], args := [d] }
  | _ => none }
def BookDecodesWrongFalsely : Prop := bookDecodesRow.holds Tryd.pinned (OpenSpec.ofChange bookDecodesWrong)

/- THE SECOND FORM. 'bulk': how many values and letters a reading holds, each counted each time it is reached (what is shared counts as often as it is met; a slice's spare places count too). A statement '..UptoSaid' is the law's where the arguments, and the package variables that the reading takes, are together of bulk at most 1048576: NARROWER than '..Said'. Prove '..Said' where nothing that the law and all that it calls make is longer than what came in: it says more and counts as full. Else prove '..UptoSaid'. A law counts once. -/
mutual
def uptoBulk {H : Type} : DataW H → Nat
  | .lit (.string bytes) => bytes.length + 1
  | .lit _ => 1
  | .nil => 1
  | .ptr d => uptoBulk d + 1
  | .slice elems spare => uptoBulkAll elems + uptoBulkAll spare + 1
  | .agg parts => uptoBulkAll parts + 1
  | .iface _ d => uptoBulk d + 1
  | .map entries => uptoBulkEntries entries + 1
  | .held _ => 1
def uptoBulkAll {H : Type} : List (DataW H) → Nat
  | [] => 0
  | d :: r => uptoBulk d + uptoBulkAll r
def uptoBulkEntries {H : Type} : List (Lit × DataW H) → Nat
  | [] => 0
  | x :: r => uptoBulkEntry x + uptoBulkEntries r
def uptoBulkEntry {H : Type} : Lit × DataW H → Nat
  | (.string bytes, d) => bytes.length + uptoBulk d + 1
  | (_, d) => uptoBulk d + 1
 end
def uptoSmall : (H : Type) → List (DataW H) → Bool := fun _ ds => decide (uptoBulkAll ds ≤ 1048576)
def OpenSpec.upto (s : _root_.Go.ChangeSpec) : _root_.Go.OpenSpec := { _root_.Go.OpenSpec.ofChange s with cond := some uptoSmall }

/-- 'postroomlaw.WhoChecks', WHERE WHAT IT READS IS OF BULK AT MOST 1048576: true; the input reads as it did. -/
def whoChecksUptoRow : OpenClaim := { program := "ytddiolgeaefieaadoor", sum := "15166cabb43945798342a42be0239b141d80af6009bf171041bac6bb3b1c8e68", func := "postroom/postroomlaw.WhoChecks", spec := "whoChecks", inPlace := ["internal/bytealg.CountString", "internal/bytealg.IndexByteString", "internal/bytealg.IndexString"], named := ["unicode/utf8.first", "unicode/utf8.acceptRanges", "internal/bytealg.MaxLen"], apart := false, laid := [("unicode/utf8.acceptRanges", laid_unicode_utf8_acceptRanges), ("unicode/utf8.first", laid_unicode_utf8_first)], narrowed := true }
def WhoChecksUptoSaid : Prop := whoChecksUptoRow.holds Tryd.pinned (OpenSpec.upto whoChecksSpec)

/-- 'postroomlaw.WhoParts', WHERE WHAT IT READS IS OF BULK AT MOST 1048576: true; the input reads as it did. -/
def whoPartsUptoRow : OpenClaim := { program := "ytddiolgeaefieaadoor", sum := "15166cabb43945798342a42be0239b141d80af6009bf171041bac6bb3b1c8e68", func := "postroom/postroomlaw.WhoParts", spec := "whoParts", inPlace := ["internal/bytealg.CountString", "internal/bytealg.IndexByteString", "internal/bytealg.IndexString"], named := ["unicode/utf8.first", "unicode/utf8.acceptRanges", "internal/bytealg.MaxLen"], apart := false, laid := [("unicode/utf8.acceptRanges", laid_unicode_utf8_acceptRanges), ("unicode/utf8.first", laid_unicode_utf8_first)], narrowed := true }
def WhoPartsUptoSaid : Prop := whoPartsUptoRow.holds Tryd.pinned (OpenSpec.upto whoPartsSpec)

/-- 'postroomlaw.LmtpChecks', WHERE WHAT IT READS IS OF BULK AT MOST 1048576: true; the input reads as it did. -/
def lmtpChecksUptoRow : OpenClaim := { program := "ytddiolgeaefieaadoor", sum := "15166cabb43945798342a42be0239b141d80af6009bf171041bac6bb3b1c8e68", func := "postroom/postroomlaw.LmtpChecks", spec := "lmtpChecks", inPlace := ["internal/bytealg.CountString", "internal/bytealg.IndexByteString", "internal/bytealg.IndexString"], named := ["unicode/utf8.first", "unicode/utf8.acceptRanges", "internal/bytealg.MaxLen"], apart := false, laid := [("unicode/utf8.acceptRanges", laid_unicode_utf8_acceptRanges), ("unicode/utf8.first", laid_unicode_utf8_first)], narrowed := true }
def LmtpChecksUptoSaid : Prop := lmtpChecksUptoRow.holds Tryd.pinned (OpenSpec.upto lmtpChecksSpec)

/-- 'postroomlaw.WhoLists', WHERE WHAT IT READS IS OF BULK AT MOST 1048576: true; the input reads as it did. -/
def whoListsUptoRow : OpenClaim := { program := "ytddiolgeaefieaadoor", sum := "15166cabb43945798342a42be0239b141d80af6009bf171041bac6bb3b1c8e68", func := "postroom/postroomlaw.WhoLists", spec := "whoLists", inPlace := ["internal/bytealg.IndexByteString", "internal/bytealg.CountString", "internal/bytealg.IndexString"], unfollowed := true, recurses := true, named := ["unicode/utf8.first", "unicode/utf8.acceptRanges", "internal/bytealg.MaxLen"], apart := false, laid := [("unicode/utf8.acceptRanges", laid_unicode_utf8_acceptRanges), ("unicode/utf8.first", laid_unicode_utf8_first)], narrowed := true }
def WhoListsUptoSaid : Prop := whoListsUptoRow.holds Tryd.pinned (OpenSpec.upto whoListsSpec)

/-- 'postroomlaw.BoxForms', WHERE WHAT IT READS IS OF BULK AT MOST 1048576: true; the input reads as it did. -/
def boxFormsUptoRow : OpenClaim := { program := "ytddiolgeaefieaadoor", sum := "15166cabb43945798342a42be0239b141d80af6009bf171041bac6bb3b1c8e68", func := "postroom/postroomlaw.BoxForms", spec := "boxForms", inPlace := ["internal/bytealg.IndexByteString", "internal/bytealg.CountString", "internal/bytealg.IndexString"], unfollowed := true, recurses := true, named := ["unicode/utf8.first", "unicode/utf8.acceptRanges", "internal/bytealg.MaxLen"], apart := false, laid := [("unicode/utf8.acceptRanges", laid_unicode_utf8_acceptRanges), ("unicode/utf8.first", laid_unicode_utf8_first)], narrowed := true }
def BoxFormsUptoSaid : Prop := boxFormsUptoRow.holds Tryd.pinned (OpenSpec.upto boxFormsSpec)

/-- 'postroomlaw.LetterParses', WHERE WHAT IT READS IS OF BULK AT MOST 1048576: true; the input reads as it did. -/
def letterParsesUptoRow : OpenClaim := { program := "ytddiolgeaefieaadoor", sum := "15166cabb43945798342a42be0239b141d80af6009bf171041bac6bb3b1c8e68", func := "postroom/postroomlaw.LetterParses", spec := "letterParses", inPlace := ["internal/bytealg.IndexByteString", "internal/bytealg.IndexString"], named := ["internal/bytealg.MaxLen", "unicode/utf8.first", "unicode/utf8.acceptRanges"], apart := false, laid := [("unicode/utf8.acceptRanges", laid_unicode_utf8_acceptRanges), ("unicode/utf8.first", laid_unicode_utf8_first)], narrowed := true }
def LetterParsesUptoSaid : Prop := letterParsesUptoRow.holds Tryd.pinned (OpenSpec.upto letterParsesSpec)

/-- 'postroomlaw.LetterChecks', WHERE WHAT IT READS IS OF BULK AT MOST 1048576: true; the input reads as it did. -/
def letterChecksUptoRow : OpenClaim := { program := "ytddiolgeaefieaadoor", sum := "15166cabb43945798342a42be0239b141d80af6009bf171041bac6bb3b1c8e68", func := "postroom/postroomlaw.LetterChecks", spec := "letterChecks", inPlace := ["internal/bytealg.IndexByteString", "internal/bytealg.IndexString", "internal/abi.NoEscape"], named := ["internal/bytealg.MaxLen", "unicode/utf8.first", "unicode/utf8.acceptRanges"], apart := false, laid := [("unicode/utf8.acceptRanges", laid_unicode_utf8_acceptRanges), ("unicode/utf8.first", laid_unicode_utf8_first)], narrowed := true }
def LetterChecksUptoSaid : Prop := letterChecksUptoRow.holds Tryd.pinned (OpenSpec.upto letterChecksSpec)

/-- 'postroomlaw.BookChecks', WHERE WHAT IT READS IS OF BULK AT MOST 1048576: true; the input reads as it did. -/
def bookChecksUptoRow : OpenClaim := { program := "ytddiolgeaefieaadoor", sum := "15166cabb43945798342a42be0239b141d80af6009bf171041bac6bb3b1c8e68", func := "postroom/postroomlaw.BookChecks", spec := "bookChecks", inPlace := ["internal/bytealg.IndexByteString", "internal/bytealg.CountString", "internal/bytealg.IndexString"], unfollowed := true, recurses := true, named := ["unicode/utf8.first", "unicode/utf8.acceptRanges", "internal/bytealg.MaxLen"], apart := false, laid := [("unicode/utf8.acceptRanges", laid_unicode_utf8_acceptRanges), ("unicode/utf8.first", laid_unicode_utf8_first)], narrowed := true }
def BookChecksUptoSaid : Prop := bookChecksUptoRow.holds Tryd.pinned (OpenSpec.upto bookChecksSpec)

/-- 'postroomlaw.LetterShows', WHERE WHAT IT READS IS OF BULK AT MOST 1048576: true; the input reads as it did. -/
def letterShowsUptoRow : OpenClaim := { program := "ytddiolgeaefieaadoor", sum := "15166cabb43945798342a42be0239b141d80af6009bf171041bac6bb3b1c8e68", func := "postroom/postroomlaw.LetterShows", spec := "letterShows", inPlace := ["internal/bytealg.IndexByteString", "internal/bytealg.IndexString", "internal/abi.NoEscape"], named := ["internal/bytealg.MaxLen", "unicode/utf8.first", "unicode/utf8.acceptRanges"], apart := false, laid := [("unicode/utf8.acceptRanges", laid_unicode_utf8_acceptRanges), ("unicode/utf8.first", laid_unicode_utf8_first)], narrowed := true }
def LetterShowsUptoSaid : Prop := letterShowsUptoRow.holds Tryd.pinned (OpenSpec.upto letterShowsSpec)

/-- 'postroomlaw.BookEncodes', WHERE WHAT IT READS IS OF BULK AT MOST 1048576: true; the input reads as it did. -/
def bookEncodesUptoRow : OpenClaim := { program := "ytddiolgeaefieaadoor", sum := "15166cabb43945798342a42be0239b141d80af6009bf171041bac6bb3b1c8e68", func := "postroom/postroomlaw.BookEncodes", spec := "bookEncodes", inPlace := ["internal/bytealg.IndexByteString", "internal/bytealg.CountString", "internal/bytealg.IndexString"], unfollowed := true, recurses := true, named := ["unicode/utf8.first", "unicode/utf8.acceptRanges", "internal/bytealg.MaxLen"], apart := false, laid := [("unicode/utf8.acceptRanges", laid_unicode_utf8_acceptRanges), ("unicode/utf8.first", laid_unicode_utf8_first)], narrowed := true }
def BookEncodesUptoSaid : Prop := bookEncodesUptoRow.holds Tryd.pinned (OpenSpec.upto bookEncodesSpec)

/-- 'postroomlaw.BoxChecks', WHERE WHAT IT READS IS OF BULK AT MOST 1048576: true; the input reads as it did. -/
def boxChecksUptoRow : OpenClaim := { program := "ytddiolgeaefieaadoor", sum := "15166cabb43945798342a42be0239b141d80af6009bf171041bac6bb3b1c8e68", func := "postroom/postroomlaw.BoxChecks", spec := "boxChecks", inPlace := ["internal/bytealg.IndexByteString", "internal/bytealg.CountString", "internal/bytealg.IndexString"], unfollowed := true, recurses := true, named := ["unicode/utf8.first", "unicode/utf8.acceptRanges", "internal/bytealg.MaxLen"], apart := false, laid := [("unicode/utf8.acceptRanges", laid_unicode_utf8_acceptRanges), ("unicode/utf8.first", laid_unicode_utf8_first)], narrowed := true }
def BoxChecksUptoSaid : Prop := boxChecksUptoRow.holds Tryd.pinned (OpenSpec.upto boxChecksSpec)

/-- 'postroomlaw.BookDecodes', WHERE WHAT IT READS IS OF BULK AT MOST 1048576: true; the input reads as it did. -/
def bookDecodesUptoRow : OpenClaim := { program := "ytddiolgeaefieaadoor", sum := "15166cabb43945798342a42be0239b141d80af6009bf171041bac6bb3b1c8e68", func := "postroom/postroomlaw.BookDecodes", spec := "bookDecodes", inPlace := ["internal/bytealg.IndexByteString", "internal/bytealg.CountString", "internal/bytealg.IndexString"], unfollowed := true, recurses := true, named := ["unicode/utf8.first", "unicode/utf8.acceptRanges", "internal/bytealg.MaxLen"], apart := false, laid := [("unicode/utf8.acceptRanges", laid_unicode_utf8_acceptRanges), ("unicode/utf8.first", laid_unicode_utf8_first)], narrowed := true }
def BookDecodesUptoSaid : Prop := bookDecodesUptoRow.holds Tryd.pinned (OpenSpec.upto bookDecodesSpec)

end Rows
end Go.Proofs.YtddiolgeaefieaaDoor
