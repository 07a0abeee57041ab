/-
  NARROWER THAN 'FOR EVERY INPUT', by the rows' own cells (each row's printed sentence says how): BoxSizes: laid · BookAppends: laid · BookRecovers: laid · BoxAlls: laid · BoxApplies: laid · BookFolds: laid · LetterParses: laid · LetterChecks: laid · LetterShows: laid · LetterValues: laid · JudgeChecks: laid · BookDecodes: laid.
  DERIVED. THE GIVEN ROWS OF THIS SEAT. 12 by the template 'for every input the law returns true; each argument reads behind the call as it read before'; 0 by the template 'total and deterministic' (their statements: YthhfbolhlbgbgaaDoorTotals.lean).
  GIVEN WITH THE SEED: the statements are not yours to turn. If you find one false, say at which input.
  Laid BY PROGRAM, IN A SANDBOX (cutbox-rows.mjs): the forced cells as the released guide's own fill.sh prints them over the translation fdee5297b08a7d6a… (all of the seat's roots in one cut). By AI agents, Wed Nov 11 2026. No macro, syntax, notation, axiom, sorry.
-/
import Derived.Test.YthhfbolhlbgbgaaDoorChecked
import GoSem.PinnedTables
import GoSem.Claim
import GoSem.ClaimJoined
import GoSem.ClaimMapViews
import Derived.JoinedTies
import Derived.KernelRfl
namespace Go.Proofs.YthhfbolhlbgbgaaDoor
/- THE CELL 'sum', in the pinned program and in every row, IS THE sha256 OF THE DUMP (.gsa) THAT YthhfbolhlbgbgaaDoorProg.lean LOADS. Nothing in Lean hashes anything: it is a label: what it is worth is what the hold of that sum in a sandbox is worth. -/
noncomputable def Tryd.pinned : Pinned := { name := "ythhfbolhlbgbgaadoor", sum := "fdee5297b08a7d6afc3a26b02a227c06a7242178be2755b819ad0f2b6f0dcc5e", checked := Tryd.checked }
namespace Rows
def none {H : Type} : Left H := { results := [], args := [] }

/- WHAT THE LISTED PACKAGE-LEVEL VARIABLES READ AS WHEN THE CALL BEGINS. Each datum BY PROGRAM (the guide's laid-datum.mjs) off the statement by which the dump's own 'gosem.cut.vars' lays the variable. In a bare row this is a premise. The card (YthhfbolhlbgbgaaDoorCards.lean) ties it to the program's text. -/
def laid_unicode_utf8_acceptRanges {H : Type} : DataW H := .agg [.agg [.lit (.int .u8 128), .lit (.int .u8 191)], .agg [.lit (.int .u8 160), .lit (.int .u8 191)], .agg [.lit (.int .u8 128), .lit (.int .u8 159)], .agg [.lit (.int .u8 144), .lit (.int .u8 191)], .agg [.lit (.int .u8 128), .lit (.int .u8 143)], .agg [.lit (.int .u8 0), .lit (.int .u8 0)], .agg [.lit (.int .u8 0), .lit (.int .u8 0)], .agg [.lit (.int .u8 0), .lit (.int .u8 0)], .agg [.lit (.int .u8 0), .lit (.int .u8 0)], .agg [.lit (.int .u8 0), .lit (.int .u8 0)], .agg [.lit (.int .u8 0), .lit (.int .u8 0)], .agg [.lit (.int .u8 0), .lit (.int .u8 0)], .agg [.lit (.int .u8 0), .lit (.int .u8 0)], .agg [.lit (.int .u8 0), .lit (.int .u8 0)], .agg [.lit (.int .u8 0), .lit (.int .u8 0)], .agg [.lit (.int .u8 0), .lit (.int .u8 0)]]
/-- One of Go's own tables, pinned by name: the form's constant. -/
def laid_unicode_utf8_first : DataW Unit := Go.Pinned.utf8First

/-- 'postroomlaw.BoxSizes': WHATEVER THE INPUT: true; the input reads as it did. -/
def boxSizesSpec : ChangeSpec := { name := "boxSizes", fn := fun _ => fun
  | [d] => { results := [.lit (.bool true)], args := [d] }
  | _ => none }
def boxSizesRow : OpenClaim := { program := "ythhfbolhlbgbgaadoor", sum := "fdee5297b08a7d6afc3a26b02a227c06a7242178be2755b819ad0f2b6f0dcc5e", func := "postroom/postroomlaw.BoxSizes", spec := "boxSizes", inPlace := ["internal/bytealg.IndexByteString", "internal/bytealg.CountString", "internal/bytealg.IndexString"], unfollowed := true, recurses := true, named := ["unicode/utf8.first", "unicode/utf8.acceptRanges", "internal/bytealg.MaxLen"], apart := false, laid := [("unicode/utf8.acceptRanges", laid_unicode_utf8_acceptRanges), ("unicode/utf8.first", laid_unicode_utf8_first)] }
def BoxSizesSaid : Prop := boxSizesRow.holds Tryd.pinned (OpenSpec.ofChange boxSizesSpec)

/-- ITS FALSE NEIGHBOUR: 'it returns false'. Refute it at one input. -/
def boxSizesWrong : ChangeSpec := { name := "boxSizes", fn := fun _ => fun
  | [d] => { results := [.lit (.bool false)], args := [d] }
  | _ => none }
def BoxSizesWrongFalsely : Prop := boxSizesRow.holds Tryd.pinned (OpenSpec.ofChange boxSizesWrong)

/-- 'postroomlaw.BookAppends': WHATEVER THE INPUT: true; the input reads as it did. -/
def bookAppendsSpec : ChangeSpec := { name := "bookAppends", fn := fun _ => fun
  | [d1, d2] => { results := [.lit (.bool true)], args := [d1, d2] }
  | _ => none }
def bookAppendsRow : OpenClaim := { program := "ythhfbolhlbgbgaadoor", sum := "fdee5297b08a7d6afc3a26b02a227c06a7242178be2755b819ad0f2b6f0dcc5e", func := "postroom/postroomlaw.BookAppends", spec := "bookAppends", inPlace := ["internal/bytealg.IndexByteString", "internal/bytealg.CountString", "internal/bytealg.IndexString"], unfollowed := true, recurses := true, named := ["unicode/utf8.first", "unicode/utf8.acceptRanges", "internal/bytealg.MaxLen"], apart := false, laid := [("unicode/utf8.acceptRanges", laid_unicode_utf8_acceptRanges), ("unicode/utf8.first", laid_unicode_utf8_first)] }
def BookAppendsSaid : Prop := bookAppendsRow.holds Tryd.pinned (OpenSpec.ofChange bookAppendsSpec)

/-- ITS FALSE NEIGHBOUR: 'it returns false'. Refute it at one input. -/
def bookAppendsWrong : ChangeSpec := { name := "bookAppends", fn := fun _ => fun
  | [d1, d2] => { results := [.lit (.bool false)], args := [d1, d2] }
  | _ => none }
def BookAppendsWrongFalsely : Prop := bookAppendsRow.holds Tryd.pinned (OpenSpec.ofChange bookAppendsWrong)

/-- 'postroomlaw.BookRecovers': WHATEVER THE INPUT: true; the input reads as it did. -/
def bookRecoversSpec : ChangeSpec := { name := "bookRecovers", fn := fun _ => fun
  | [d] => { results := [.lit (.bool true)], args := [d] }
  | _ => none }
def bookRecoversRow : OpenClaim := { program := "ythhfbolhlbgbgaadoor", sum := "fdee5297b08a7d6afc3a26b02a227c06a7242178be2755b819ad0f2b6f0dcc5e", func := "postroom/postroomlaw.BookRecovers", spec := "bookRecovers", inPlace := ["internal/bytealg.IndexByteString", "internal/bytealg.CountString", "internal/bytealg.IndexString"], unfollowed := true, recurses := true, named := ["unicode/utf8.first", "unicode/utf8.acceptRanges", "internal/bytealg.MaxLen"], apart := false, laid := [("unicode/utf8.acceptRanges", laid_unicode_utf8_acceptRanges), ("unicode/utf8.first", laid_unicode_utf8_first)] }
def BookRecoversSaid : Prop := bookRecoversRow.holds Tryd.pinned (OpenSpec.ofChange bookRecoversSpec)

/-- ITS FALSE NEIGHBOUR: 'it returns false'. Refute it at one input. -/
def bookRecoversWrong : ChangeSpec := { name := "bookRecovers", fn := fun _ => fun
  | [d] => { results := [.lit (.bool false)], args := [d] }
  | _ => none }
def BookRecoversWrongFalsely : Prop := bookRecoversRow.holds Tryd.pinned (OpenSpec.ofChange bookRecoversWrong)

/-- 'postroomlaw.BoxAlls': WHATEVER THE INPUT: true; the input reads as it did. -/
def boxAllsSpec : ChangeSpec := { name := "boxAlls", fn := fun _ => fun
  | [d1, d2] => { results := [.lit (.bool true)], args := [d1, d2] }
  | _ => none }
def boxAllsRow : OpenClaim := { program := "ythhfbolhlbgbgaadoor", sum := "fdee5297b08a7d6afc3a26b02a227c06a7242178be2755b819ad0f2b6f0dcc5e", func := "postroom/postroomlaw.BoxAlls", spec := "boxAlls", inPlace := ["internal/bytealg.IndexByteString", "internal/bytealg.CountString", "internal/bytealg.IndexString"], unfollowed := true, recurses := true, named := ["unicode/utf8.first", "unicode/utf8.acceptRanges", "internal/bytealg.MaxLen"], apart := false, laid := [("unicode/utf8.acceptRanges", laid_unicode_utf8_acceptRanges), ("unicode/utf8.first", laid_unicode_utf8_first)] }
def BoxAllsSaid : Prop := boxAllsRow.holds Tryd.pinned (OpenSpec.ofChange boxAllsSpec)

/-- ITS FALSE NEIGHBOUR: 'it returns false'. Refute it at one input. -/
def boxAllsWrong : ChangeSpec := { name := "boxAlls", fn := fun _ => fun
  | [d1, d2] => { results := [.lit (.bool false)], args := [d1, d2] }
  | _ => none }
def BoxAllsWrongFalsely : Prop := boxAllsRow.holds Tryd.pinned (OpenSpec.ofChange boxAllsWrong)

/-- 'postroomlaw.BoxApplies': WHATEVER THE INPUT: true; the input reads as it did. -/
def boxAppliesSpec : ChangeSpec := { name := "boxApplies", fn := fun _ => fun
  | [d1, d2] => { results := [.lit (.bool true)], args := [d1, d2] }
  | _ => none }
def boxAppliesRow : OpenClaim := { program := "ythhfbolhlbgbgaadoor", sum := "fdee5297b08a7d6afc3a26b02a227c06a7242178be2755b819ad0f2b6f0dcc5e", func := "postroom/postroomlaw.BoxApplies", spec := "boxApplies", inPlace := ["internal/bytealg.IndexByteString", "internal/bytealg.CountString", "internal/bytealg.IndexString"], unfollowed := true, recurses := true, named := ["unicode/utf8.first", "unicode/utf8.acceptRanges", "internal/bytealg.MaxLen"], apart := false, laid := [("unicode/utf8.acceptRanges", laid_unicode_utf8_acceptRanges), ("unicode/utf8.first", laid_unicode_utf8_first)] }
def BoxAppliesSaid : Prop := boxAppliesRow.holds Tryd.pinned (OpenSpec.ofChange boxAppliesSpec)

/-- ITS FALSE NEIGHBOUR: 'it returns false'. Refute it at one input. -/
def boxAppliesWrong : ChangeSpec := { name := "boxApplies", fn := fun _ => fun
  | [d1, d2] => { results := [.lit (.bool false)], args := [d1, d2] }
  | _ => none }
def BoxAppliesWrongFalsely : Prop := boxAppliesRow.holds Tryd.pinned (OpenSpec.ofChange boxAppliesWrong)

/-- 'postroomlaw.BookFolds': WHATEVER THE INPUT: true; the input reads as it did. -/
def bookFoldsSpec : ChangeSpec := { name := "bookFolds", fn := fun _ => fun
  | [d1, d2] => { results := [.lit (.bool true)], args := [d1, d2] }
  | _ => none }
def bookFoldsRow : OpenClaim := { program := "ythhfbolhlbgbgaadoor", sum := "fdee5297b08a7d6afc3a26b02a227c06a7242178be2755b819ad0f2b6f0dcc5e", func := "postroom/postroomlaw.BookFolds", spec := "bookFolds", inPlace := ["internal/bytealg.IndexByteString", "internal/bytealg.CountString", "internal/bytealg.IndexString"], unfollowed := true, recurses := true, named := ["unicode/utf8.first", "unicode/utf8.acceptRanges", "internal/bytealg.MaxLen"], apart := false, laid := [("unicode/utf8.acceptRanges", laid_unicode_utf8_acceptRanges), ("unicode/utf8.first", laid_unicode_utf8_first)] }
def BookFoldsSaid : Prop := bookFoldsRow.holds Tryd.pinned (OpenSpec.ofChange bookFoldsSpec)

/-- ITS FALSE NEIGHBOUR: 'it returns false'. Refute it at one input. -/
def bookFoldsWrong : ChangeSpec := { name := "bookFolds", fn := fun _ => fun
  | [d1, d2] => { results := [.lit (.bool false)], args := [d1, d2] }
  | _ => none }
def BookFoldsWrongFalsely : Prop := bookFoldsRow.holds Tryd.pinned (OpenSpec.ofChange bookFoldsWrong)

/-- 'postroomlaw.LetterParses': WHATEVER THE INPUT: true; the input reads as it did. -/
def letterParsesSpec : ChangeSpec := { name := "letterParses", fn := fun _ => fun
  | [d] => { results := [.lit (.bool true)], args := [d] }
  | _ => none }
def letterParsesRow : OpenClaim := { program := "ythhfbolhlbgbgaadoor", sum := "fdee5297b08a7d6afc3a26b02a227c06a7242178be2755b819ad0f2b6f0dcc5e", func := "postroom/postroomlaw.LetterParses", spec := "letterParses", inPlace := ["internal/bytealg.IndexByteString", "internal/bytealg.IndexString"], named := ["internal/bytealg.MaxLen", "unicode/utf8.first", "unicode/utf8.acceptRanges"], apart := false, laid := [("unicode/utf8.acceptRanges", laid_unicode_utf8_acceptRanges), ("unicode/utf8.first", laid_unicode_utf8_first)] }
def LetterParsesSaid : Prop := letterParsesRow.holds Tryd.pinned (OpenSpec.ofChange letterParsesSpec)

/-- ITS FALSE NEIGHBOUR: 'it returns false'. Refute it at one input. -/
def letterParsesWrong : ChangeSpec := { name := "letterParses", fn := fun _ => fun
  | [d] => { results := [.lit (.bool false)], args := [d] }
  | _ => none }
def LetterParsesWrongFalsely : Prop := letterParsesRow.holds Tryd.pinned (OpenSpec.ofChange letterParsesWrong)

/-- 'postroomlaw.LetterChecks': WHATEVER THE INPUT: true; the input reads as it did. -/
def letterChecksSpec : ChangeSpec := { name := "letterChecks", fn := fun _ => fun
  | [d] => { results := [.lit (.bool true)], args := [d] }
  | _ => none }
def letterChecksRow : OpenClaim := { program := "ythhfbolhlbgbgaadoor", sum := "fdee5297b08a7d6afc3a26b02a227c06a7242178be2755b819ad0f2b6f0dcc5e", func := "postroom/postroomlaw.LetterChecks", spec := "letterChecks", inPlace := ["internal/bytealg.IndexByteString", "internal/bytealg.IndexString", "internal/abi.NoEscape"], named := ["internal/bytealg.MaxLen", "unicode/utf8.first", "unicode/utf8.acceptRanges"], apart := false, laid := [("unicode/utf8.acceptRanges", laid_unicode_utf8_acceptRanges), ("unicode/utf8.first", laid_unicode_utf8_first)] }
def LetterChecksSaid : Prop := letterChecksRow.holds Tryd.pinned (OpenSpec.ofChange letterChecksSpec)

/-- ITS FALSE NEIGHBOUR: 'it returns false'. Refute it at one input. -/
def letterChecksWrong : ChangeSpec := { name := "letterChecks", fn := fun _ => fun
  | [d] => { results := [.lit (.bool false)], args := [d] }
  | _ => none }
def LetterChecksWrongFalsely : Prop := letterChecksRow.holds Tryd.pinned (OpenSpec.ofChange letterChecksWrong)

/-- 'postroomlaw.LetterShows': WHATEVER THE INPUT: true; the input reads as it did. -/
def letterShowsSpec : ChangeSpec := { name := "letterShows", fn := fun _ => fun
  | [d] => { results := [.lit (.bool true)], args := [d] }
  | _ => none }
def letterShowsRow : OpenClaim := { program := "ythhfbolhlbgbgaadoor", sum := "fdee5297b08a7d6afc3a26b02a227c06a7242178be2755b819ad0f2b6f0dcc5e", func := "postroom/postroomlaw.LetterShows", spec := "letterShows", inPlace := ["internal/bytealg.IndexByteString", "internal/bytealg.IndexString", "internal/abi.NoEscape"], named := ["internal/bytealg.MaxLen", "unicode/utf8.first", "unicode/utf8.acceptRanges"], apart := false, laid := [("unicode/utf8.acceptRanges", laid_unicode_utf8_acceptRanges), ("unicode/utf8.first", laid_unicode_utf8_first)] }
def LetterShowsSaid : Prop := letterShowsRow.holds Tryd.pinned (OpenSpec.ofChange letterShowsSpec)

/-- ITS FALSE NEIGHBOUR: 'it returns false'. Refute it at one input. -/
def letterShowsWrong : ChangeSpec := { name := "letterShows", fn := fun _ => fun
  | [d] => { results := [.lit (.bool false)], args := [d] }
  | _ => none }
def LetterShowsWrongFalsely : Prop := letterShowsRow.holds Tryd.pinned (OpenSpec.ofChange letterShowsWrong)

/-- 'postroomlaw.LetterValues': WHATEVER THE INPUT: true; the input reads as it did. -/
def letterValuesSpec : ChangeSpec := { name := "letterValues", fn := fun _ => fun
  | [d1, d2] => { results := [.lit (.bool true)], args := [d1, d2] }
  | _ => none }
def letterValuesRow : OpenClaim := { program := "ythhfbolhlbgbgaadoor", sum := "fdee5297b08a7d6afc3a26b02a227c06a7242178be2755b819ad0f2b6f0dcc5e", func := "postroom/postroomlaw.LetterValues", spec := "letterValues", inPlace := ["internal/bytealg.IndexByteString", "internal/bytealg.IndexString", "internal/abi.NoEscape"], unfollowed := true, recurses := true, named := ["internal/bytealg.MaxLen", "unicode/utf8.first", "unicode/utf8.acceptRanges"], apart := false, laid := [("unicode/utf8.acceptRanges", laid_unicode_utf8_acceptRanges), ("unicode/utf8.first", laid_unicode_utf8_first)] }
def LetterValuesSaid : Prop := letterValuesRow.holds Tryd.pinned (OpenSpec.ofChange letterValuesSpec)

/-- ITS FALSE NEIGHBOUR: 'it returns false'. Refute it at one input. -/
def letterValuesWrong : ChangeSpec := { name := "letterValues", fn := fun _ => fun
  | [d1, d2] => { results := [.lit (.bool false)], args := [d1, d2] }
  | _ => none }
def LetterValuesWrongFalsely : Prop := letterValuesRow.holds Tryd.pinned (OpenSpec.ofChange letterValuesWrong)

/-- 'postroomlaw.JudgeChecks': WHATEVER THE INPUT: true; the input reads as it did. -/
def judgeChecksSpec : ChangeSpec := { name := "judgeChecks", fn := fun _ => fun
  | [d] => { results := [.lit (.bool true)], args := [d] }
  | _ => none }
def judgeChecksRow : OpenClaim := { program := "ythhfbolhlbgbgaadoor", sum := "fdee5297b08a7d6afc3a26b02a227c06a7242178be2755b819ad0f2b6f0dcc5e", func := "postroom/postroomlaw.JudgeChecks", spec := "judgeChecks", inPlace := ["internal/bytealg.CountString", "internal/bytealg.IndexByteString", "internal/bytealg.IndexString"], named := ["unicode/utf8.first", "unicode/utf8.acceptRanges", "internal/bytealg.MaxLen"], apart := false, laid := [("unicode/utf8.acceptRanges", laid_unicode_utf8_acceptRanges), ("unicode/utf8.first", laid_unicode_utf8_first)] }
def JudgeChecksSaid : Prop := judgeChecksRow.holds Tryd.pinned (OpenSpec.ofChange judgeChecksSpec)

/-- ITS FALSE NEIGHBOUR: 'it returns false'. Refute it at one input. -/
def judgeChecksWrong : ChangeSpec := { name := "judgeChecks", fn := fun _ => fun
  | [d] => { results := [.lit (.bool false)], args := [d] }
  | _ => none }
def JudgeChecksWrongFalsely : Prop := judgeChecksRow.holds Tryd.pinned (OpenSpec.ofChange judgeChecksWrong)

/-- 'postroomlaw.BookDecodes': WHATEVER THE INPUT: true; the input reads as it did. -/
def bookDecodesSpec : ChangeSpec := { name := "bookDecodes", fn := fun _ => fun
  | [d] => { results := [.lit (.bool true)], args := [d] }
  | _ => none }
def bookDecodesRow : OpenClaim := { program := "ythhfbolhlbgbgaadoor", sum := "fdee5297b08a7d6afc3a26b02a227c06a7242178be2755b819ad0f2b6f0dcc5e", func := "postroom/postroomlaw.BookDecodes", spec := "bookDecodes", inPlace := ["internal/bytealg.IndexByteString", "internal/bytealg.CountString", "internal/bytealg.IndexString"], unfollowed := true, recurses := true, named := ["unicode/utf8.first", "unicode/utf8.acceptRanges", "internal/bytealg.MaxLen"], apart := false, laid := [("unicode/utf8.acceptRanges", laid_unicode_utf8_acceptRanges), ("unicode/utf8.first", laid_unicode_utf8_first)] }
def BookDecodesSaid : Prop := bookDecodesRow.holds Tryd.pinned (OpenSpec.ofChange bookDecodesSpec)

/-- ITS FALSE NEIGHBOUR: 'it returns false'. Refute it at one input. -/
def bookDecodesWrong : ChangeSpec := { name := "bookDecodes", fn := fun _ => fun
  | [d] => { results := [.lit (.bool false)], args := [d] }
  | _ => none }
def BookDecodesWrongFalsely : Prop := bookDecodesRow.holds Tryd.pinned (OpenSpec.ofChange bookDecodesWrong)

/- THE SECOND FORM. 'bulk': how many values and letters a reading holds, each counted each time it is reached (what is shared counts as often as it is met; a slice's spare places count too). A statement '..UptoSaid' is the law's where the arguments, and the package variables that the reading takes, are together of bulk at most 1048576: NARROWER than '..Said'. Prove '..Said' where nothing that the law and all that it calls make is longer than what came in: it says more and counts as full. Else prove '..UptoSaid'. A law counts once. -/
mutual
def uptoBulk {H : Type} : DataW H → Nat
  | .lit (.string bytes) => bytes.length + 1
  | .lit _ => 1
  | .nil => 1
  | .ptr d => uptoBulk d + 1
  | .slice elems spare => uptoBulkAll elems + uptoBulkAll spare + 1
  | .agg parts => uptoBulkAll parts + 1
  | .iface _ d => uptoBulk d + 1
  | .map entries => uptoBulkEntries entries + 1
  | .held _ => 1
def uptoBulkAll {H : Type} : List (DataW H) → Nat
  | [] => 0
  | d :: r => uptoBulk d + uptoBulkAll r
def uptoBulkEntries {H : Type} : List (Lit × DataW H) → Nat
  | [] => 0
  | x :: r => uptoBulkEntry x + uptoBulkEntries r
def uptoBulkEntry {H : Type} : Lit × DataW H → Nat
  | (.string bytes, d) => bytes.length + uptoBulk d + 1
  | (_, d) => uptoBulk d + 1
 end
def uptoSmall : (H : Type) → List (DataW H) → Bool := fun _ ds => decide (uptoBulkAll ds ≤ 1048576)
def OpenSpec.upto (s : _root_.Go.ChangeSpec) : _root_.Go.OpenSpec := { _root_.Go.OpenSpec.ofChange s with cond := some uptoSmall }

/-- 'postroomlaw.BoxSizes', WHERE WHAT IT READS IS OF BULK AT MOST 1048576: true; the input reads as it did. -/
def boxSizesUptoRow : OpenClaim := { program := "ythhfbolhlbgbgaadoor", sum := "fdee5297b08a7d6afc3a26b02a227c06a7242178be2755b819ad0f2b6f0dcc5e", func := "postroom/postroomlaw.BoxSizes", spec := "boxSizes", inPlace := ["internal/bytealg.IndexByteString", "internal/bytealg.CountString", "internal/bytealg.IndexString"], unfollowed := true, recurses := true, named := ["unicode/utf8.first", "unicode/utf8.acceptRanges", "internal/bytealg.MaxLen"], apart := false, laid := [("unicode/utf8.acceptRanges", laid_unicode_utf8_acceptRanges), ("unicode/utf8.first", laid_unicode_utf8_first)], narrowed := true }
def BoxSizesUptoSaid : Prop := boxSizesUptoRow.holds Tryd.pinned (OpenSpec.upto boxSizesSpec)

/-- 'postroomlaw.BookAppends', WHERE WHAT IT READS IS OF BULK AT MOST 1048576: true; the input reads as it did. -/
def bookAppendsUptoRow : OpenClaim := { program := "ythhfbolhlbgbgaadoor", sum := "fdee5297b08a7d6afc3a26b02a227c06a7242178be2755b819ad0f2b6f0dcc5e", func := "postroom/postroomlaw.BookAppends", spec := "bookAppends", inPlace := ["internal/bytealg.IndexByteString", "internal/bytealg.CountString", "internal/bytealg.IndexString"], unfollowed := true, recurses := true, named := ["unicode/utf8.first", "unicode/utf8.acceptRanges", "internal/bytealg.MaxLen"], apart := false, laid := [("unicode/utf8.acceptRanges", laid_unicode_utf8_acceptRanges), ("unicode/utf8.first", laid_unicode_utf8_first)], narrowed := true }
def BookAppendsUptoSaid : Prop := bookAppendsUptoRow.holds Tryd.pinned (OpenSpec.upto bookAppendsSpec)

/-- 'postroomlaw.BookRecovers', WHERE WHAT IT READS IS OF BULK AT MOST 1048576: true; the input reads as it did. -/
def bookRecoversUptoRow : OpenClaim := { program := "ythhfbolhlbgbgaadoor", sum := "fdee5297b08a7d6afc3a26b02a227c06a7242178be2755b819ad0f2b6f0dcc5e", func := "postroom/postroomlaw.BookRecovers", spec := "bookRecovers", inPlace := ["internal/bytealg.IndexByteString", "internal/bytealg.CountString", "internal/bytealg.IndexString"], unfollowed := true, recurses := true, named := ["unicode/utf8.first", "unicode/utf8.acceptRanges", "internal/bytealg.MaxLen"], apart := false, laid := [("unicode/utf8.acceptRanges", laid_unicode_utf8_acceptRanges), ("unicode/utf8.first", laid_unicode_utf8_first)], narrowed := true }
def BookRecoversUptoSaid : Prop := bookRecoversUptoRow.holds Tryd.pinned (OpenSpec.upto bookRecoversSpec)

/-- 'postroomlaw.BoxAlls', WHERE WHAT IT READS IS OF BULK AT MOST 1048576: true; the input reads as it did. -/
def boxAllsUptoRow : OpenClaim := { program := "ythhfbolhlbgbgaadoor", sum := "fdee5297b08a7d6afc3a26b02a227c06a7242178be2755b819ad0f2b6f0dcc5e", func := "postroom/postroomlaw.BoxAlls", spec := "boxAlls", inPlace := ["internal/bytealg.IndexByteString", "internal/bytealg.CountString", "internal/bytealg.IndexString"], unfollowed := true, recurses := true, named := ["unicode/utf8.first", "unicode/utf8.acceptRanges", "internal/bytealg.MaxLen"], apart := false, laid := [("unicode/utf8.acceptRanges", laid_unicode_utf8_acceptRanges), ("unicode/utf8.first", laid_unicode_utf8_first)], narrowed := true }
def BoxAllsUptoSaid : Prop := boxAllsUptoRow.holds Tryd.pinned (OpenSpec.upto boxAllsSpec)

/-- 'postroomlaw.BoxApplies', WHERE WHAT IT READS IS OF BULK AT MOST 1048576: true; the input reads as it did. -/
def boxAppliesUptoRow : OpenClaim := { program := "ythhfbolhlbgbgaadoor", sum := "fdee5297b08a7d6afc3a26b02a227c06a7242178be2755b819ad0f2b6f0dcc5e", func := "postroom/postroomlaw.BoxApplies", spec := "boxApplies", inPlace := ["internal/bytealg.IndexByteString", "internal/bytealg.CountString", "internal/bytealg.IndexString"], unfollowed := true, recurses := true, named := ["unicode/utf8.first", "unicode/utf8.acceptRanges", "internal/bytealg.MaxLen"], apart := false, laid := [("unicode/utf8.acceptRanges", laid_unicode_utf8_acceptRanges), ("unicode/utf8.first", laid_unicode_utf8_first)], narrowed := true }
def BoxAppliesUptoSaid : Prop := boxAppliesUptoRow.holds Tryd.pinned (OpenSpec.upto boxAppliesSpec)

/-- 'postroomlaw.BookFolds', WHERE WHAT IT READS IS OF BULK AT MOST 1048576: true; the input reads as it did. -/
def bookFoldsUptoRow : OpenClaim := { program := "ythhfbolhlbgbgaadoor", sum := "fdee5297b08a7d6afc3a26b02a227c06a7242178be2755b819ad0f2b6f0dcc5e", func := "postroom/postroomlaw.BookFolds", spec := "bookFolds", inPlace := ["internal/bytealg.IndexByteString", "internal/bytealg.CountString", "internal/bytealg.IndexString"], unfollowed := true, recurses := true, named := ["unicode/utf8.first", "unicode/utf8.acceptRanges", "internal/bytealg.MaxLen"], apart := false, laid := [("unicode/utf8.acceptRanges", laid_unicode_utf8_acceptRanges), ("unicode/utf8.first", laid_unicode_utf8_first)], narrowed := true }
def BookFoldsUptoSaid : Prop := bookFoldsUptoRow.holds Tryd.pinned (OpenSpec.upto bookFoldsSpec)

/-- 'postroomlaw.LetterParses', WHERE WHAT IT READS IS OF BULK AT MOST 1048576: true; the input reads as it did. -/
def letterParsesUptoRow : OpenClaim := { program := "ythhfbolhlbgbgaadoor", sum := "fdee5297b08a7d6afc3a26b02a227c06a7242178be2755b819ad0f2b6f0dcc5e", func := "postroom/postroomlaw.LetterParses", spec := "letterParses", inPlace := ["internal/bytealg.IndexByteString", "internal/bytealg.IndexString"], named := ["internal/bytealg.MaxLen", "unicode/utf8.first", "unicode/utf8.acceptRanges"], apart := false, laid := [("unicode/utf8.acceptRanges", laid_unicode_utf8_acceptRanges), ("unicode/utf8.first", laid_unicode_utf8_first)], narrowed := true }
def LetterParsesUptoSaid : Prop := letterParsesUptoRow.holds Tryd.pinned (OpenSpec.upto letterParsesSpec)

/-- 'postroomlaw.LetterChecks', WHERE WHAT IT READS IS OF BULK AT MOST 1048576: true; the input reads as it did. -/
def letterChecksUptoRow : OpenClaim := { program := "ythhfbolhlbgbgaadoor", sum := "fdee5297b08a7d6afc3a26b02a227c06a7242178be2755b819ad0f2b6f0dcc5e", func := "postroom/postroomlaw.LetterChecks", spec := "letterChecks", inPlace := ["internal/bytealg.IndexByteString", "internal/bytealg.IndexString", "internal/abi.NoEscape"], named := ["internal/bytealg.MaxLen", "unicode/utf8.first", "unicode/utf8.acceptRanges"], apart := false, laid := [("unicode/utf8.acceptRanges", laid_unicode_utf8_acceptRanges), ("unicode/utf8.first", laid_unicode_utf8_first)], narrowed := true }
def LetterChecksUptoSaid : Prop := letterChecksUptoRow.holds Tryd.pinned (OpenSpec.upto letterChecksSpec)

/-- 'postroomlaw.LetterShows', WHERE WHAT IT READS IS OF BULK AT MOST 1048576: true; the input reads as it did. -/
def letterShowsUptoRow : OpenClaim := { program := "ythhfbolhlbgbgaadoor", sum := "fdee5297b08a7d6afc3a26b02a227c06a7242178be2755b819ad0f2b6f0dcc5e", func := "postroom/postroomlaw.LetterShows", spec := "letterShows", inPlace := ["internal/bytealg.IndexByteString", "internal/bytealg.IndexString", "internal/abi.NoEscape"], named := ["internal/bytealg.MaxLen", "unicode/utf8.first", "unicode/utf8.acceptRanges"], apart := false, laid := [("unicode/utf8.acceptRanges", laid_unicode_utf8_acceptRanges), ("unicode/utf8.first", laid_unicode_utf8_first)], narrowed := true }
def LetterShowsUptoSaid : Prop := letterShowsUptoRow.holds Tryd.pinned (OpenSpec.upto letterShowsSpec)

/-- 'postroomlaw.LetterValues', WHERE WHAT IT READS IS OF BULK AT MOST 1048576: true; the input reads as it did. -/
def letterValuesUptoRow : OpenClaim := { program := "ythhfbolhlbgbgaadoor", sum := "fdee5297b08a7d6afc3a26b02a227c06a7242178be2755b819ad0f2b6f0dcc5e", func := "postroom/postroomlaw.LetterValues", spec := "letterValues", inPlace := ["internal/bytealg.IndexByteString", "internal/bytealg.IndexString", "internal/abi.NoEscape"], unfollowed := true, recurses := true, named := ["internal/bytealg.MaxLen", "unicode/utf8.first", "unicode/utf8.acceptRanges"], apart := false, laid := [("unicode/utf8.acceptRanges", laid_unicode_utf8_acceptRanges), ("unicode/utf8.first", laid_unicode_utf8_first)], narrowed := true }
def LetterValuesUptoSaid : Prop := letterValuesUptoRow.holds Tryd.pinned (OpenSpec.upto letterValuesSpec)

/-- 'postroomlaw.JudgeChecks', WHERE WHAT IT READS IS OF BULK AT MOST 1048576: true; the input reads as it did. -/
def judgeChecksUptoRow : OpenClaim := { program := "ythhfbolhlbgbgaadoor", sum := "fdee5297b08a7d6afc3a26b02a227c06a7242178be2755b819ad0f2b6f0dcc5e", func := "postroom/postroomlaw.JudgeChecks", spec := "judgeChecks", inPlace := ["internal/bytealg.CountString", "internal/bytealg.IndexByteString", "internal/bytealg.IndexString"], named := ["unicode/utf8.first", "unicode/utf8.acceptRanges", "internal/bytealg.MaxLen"], apart := false, laid := [("unicode/utf8.acceptRanges", laid_unicode_utf8_acceptRanges), ("unicode/utf8.first", laid_unicode_utf8_first)], narrowed := true }
def JudgeChecksUptoSaid : Prop := judgeChecksUptoRow.holds Tryd.pinned (OpenSpec.upto judgeChecksSpec)

/-- 'postroomlaw.BookDecodes', WHERE WHAT IT READS IS OF BULK AT MOST 1048576: true; the input reads as it did. -/
def bookDecodesUptoRow : OpenClaim := { program := "ythhfbolhlbgbgaadoor", sum := "fdee5297b08a7d6afc3a26b02a227c06a7242178be2755b819ad0f2b6f0dcc5e", func := "postroom/postroomlaw.BookDecodes", spec := "bookDecodes", inPlace := ["internal/bytealg.IndexByteString", "internal/bytealg.CountString", "internal/bytealg.IndexString"], unfollowed := true, recurses := true, named := ["unicode/utf8.first", "unicode/utf8.acceptRanges", "internal/bytealg.MaxLen"], apart := false, laid := [("unicode/utf8.acceptRanges", laid_unicode_utf8_acceptRanges), ("unicode/utf8.first", laid_unicode_utf8_first)], narrowed := true }
def BookDecodesUptoSaid : Prop := bookDecodesUptoRow.holds Tryd.pinned (OpenSpec.upto bookDecodesSpec)

end Rows
end Go.Proofs.YthhfbolhlbgbgaaDoor
