/-
  NARROWER THAN 'FOR EVERY INPUT', by the rows' own cells (each row's printed sentence says how): ScriptChecks: loops, laid · ScriptShows: loops, laid · ScriptParses: laid · BoxSizes: laid · BookAppends: laid · BookRecovers: laid · LetterValues: laid · JudgeChecks: laid · TokenJoins: laid · BoxAlls: laid · BoxApplies: laid · BookFolds: laid.
  DERIVED. THE GIVEN ROWS OF THIS SEAT. 12 by the template 'for every input the law returns true; each argument reads behind the call as it read before'; 0 by the template 'total and deterministic' (their statements: YtnoboapafndnlaaDoorTotals.lean).
  GIVEN WITH THE SEED: the statements are not yours to turn. If you find one false, say at which input.
  Laid BY PROGRAM, IN A SANDBOX (cutbox-rows.mjs): the forced cells as the released guide's own fill.sh prints them over the translation 4889355fb0961ab4… (all of the seat's roots in one cut). By AI agents, Wed Nov 11 2026. No macro, syntax, notation, axiom, sorry.
-/
import Derived.Test.YtnoboapafndnlaaDoorChecked
import GoSem.PinnedTables
import GoSem.Claim
import GoSem.ClaimJoined
import GoSem.ClaimMapViews
import Derived.JoinedTies
import Derived.KernelRfl
namespace Go.Proofs.YtnoboapafndnlaaDoor
/- THE CELL 'sum', in the pinned program and in every row, IS THE sha256 OF THE DUMP (.gsa) THAT YtnoboapafndnlaaDoorProg.lean LOADS. Nothing in Lean hashes anything: it is a label: what it is worth is what the hold of that sum in a sandbox is worth. -/
noncomputable def Tryd.pinned : Pinned := { name := "ytnoboapafndnlaadoor", sum := "4889355fb0961ab453f4d8d1dcfb61b233d5c0c94badf629c6391ed64ae1cb01", checked := Tryd.checked }
namespace Rows
def none {H : Type} : Left H := { results := [], args := [] }

/- WHAT THE LISTED PACKAGE-LEVEL VARIABLES READ AS WHEN THE CALL BEGINS. Each datum BY PROGRAM (the guide's laid-datum.mjs) off the statement by which the dump's own 'gosem.cut.vars' lays the variable. In a bare row this is a premise. The card (YtnoboapafndnlaaDoorCards.lean) ties it to the program's text. -/
def laid_postroom_script_commands {H : Type} : DataW H := .agg [.lit (.string []), .lit (.string [114, 101, 113, 117, 105, 114, 101]), .lit (.string [105, 102]), .lit (.string [107, 101, 101, 112]), .lit (.string [100, 105, 115, 99, 97, 114, 100]), .lit (.string [102, 105, 108, 101, 105, 110, 116, 111]), .lit (.string [114, 101, 100, 105, 114, 101, 99, 116]), .lit (.string [114, 101, 106, 101, 99, 116]), .lit (.string [115, 101, 116, 102, 108, 97, 103]), .lit (.string [97, 100, 100, 102, 108, 97, 103]), .lit (.string [115, 116, 111, 112])]
def laid_postroom_script_tests {H : Type} : DataW H := .agg [.lit (.string []), .lit (.string [116, 114, 117, 101]), .lit (.string [102, 97, 108, 115, 101]), .lit (.string [110, 111, 116]), .lit (.string [97, 108, 108, 111, 102]), .lit (.string [97, 110, 121, 111, 102]), .lit (.string [104, 101, 97, 100, 101, 114]), .lit (.string [97, 100, 100, 114, 101, 115, 115]), .lit (.string [101, 110, 118, 101, 108, 111, 112, 101]), .lit (.string [101, 120, 105, 115, 116, 115]), .lit (.string [115, 105, 122, 101])]
def laid_postroom_script_matches {H : Type} : DataW H := .agg [.lit (.string []), .lit (.string [105, 115]), .lit (.string [99, 111, 110, 116, 97, 105, 110, 115]), .lit (.string [109, 97, 116, 99, 104, 101, 115])]
def laid_postroom_script_parts {H : Type} : DataW H := .agg [.lit (.string []), .lit (.string [97, 108, 108]), .lit (.string [108, 111, 99, 97, 108, 112, 97, 114, 116]), .lit (.string [100, 111, 109, 97, 105, 110])]
def laid_unicode_utf8_acceptRanges {H : Type} : DataW H := .agg [.agg [.lit (.int .u8 128), .lit (.int .u8 191)], .agg [.lit (.int .u8 160), .lit (.int .u8 191)], .agg [.lit (.int .u8 128), .lit (.int .u8 159)], .agg [.lit (.int .u8 144), .lit (.int .u8 191)], .agg [.lit (.int .u8 128), .lit (.int .u8 143)], .agg [.lit (.int .u8 0), .lit (.int .u8 0)], .agg [.lit (.int .u8 0), .lit (.int .u8 0)], .agg [.lit (.int .u8 0), .lit (.int .u8 0)], .agg [.lit (.int .u8 0), .lit (.int .u8 0)], .agg [.lit (.int .u8 0), .lit (.int .u8 0)], .agg [.lit (.int .u8 0), .lit (.int .u8 0)], .agg [.lit (.int .u8 0), .lit (.int .u8 0)], .agg [.lit (.int .u8 0), .lit (.int .u8 0)], .agg [.lit (.int .u8 0), .lit (.int .u8 0)], .agg [.lit (.int .u8 0), .lit (.int .u8 0)], .agg [.lit (.int .u8 0), .lit (.int .u8 0)]]
/-- One of Go's own tables, pinned by name: the form's constant. -/
def laid_unicode_utf8_first : DataW Unit := Go.Pinned.utf8First
def laid_math_bits_deBruijn32tab {H : Type} : DataW H := .agg [.lit (.int .u8 0), .lit (.int .u8 1), .lit (.int .u8 28), .lit (.int .u8 2), .lit (.int .u8 29), .lit (.int .u8 14), .lit (.int .u8 24), .lit (.int .u8 3), .lit (.int .u8 30), .lit (.int .u8 22), .lit (.int .u8 20), .lit (.int .u8 15), .lit (.int .u8 25), .lit (.int .u8 17), .lit (.int .u8 4), .lit (.int .u8 8), .lit (.int .u8 31), .lit (.int .u8 27), .lit (.int .u8 13), .lit (.int .u8 23), .lit (.int .u8 21), .lit (.int .u8 19), .lit (.int .u8 16), .lit (.int .u8 7), .lit (.int .u8 26), .lit (.int .u8 12), .lit (.int .u8 18), .lit (.int .u8 6), .lit (.int .u8 11), .lit (.int .u8 5), .lit (.int .u8 10), .lit (.int .u8 9)]
def laid_math_bits_deBruijn64tab {H : Type} : DataW H := .agg [.lit (.int .u8 0), .lit (.int .u8 1), .lit (.int .u8 56), .lit (.int .u8 2), .lit (.int .u8 57), .lit (.int .u8 49), .lit (.int .u8 28), .lit (.int .u8 3), .lit (.int .u8 61), .lit (.int .u8 58), .lit (.int .u8 42), .lit (.int .u8 50), .lit (.int .u8 38), .lit (.int .u8 29), .lit (.int .u8 17), .lit (.int .u8 4), .lit (.int .u8 62), .lit (.int .u8 47), .lit (.int .u8 59), .lit (.int .u8 36), .lit (.int .u8 45), .lit (.int .u8 43), .lit (.int .u8 51), .lit (.int .u8 22), .lit (.int .u8 53), .lit (.int .u8 39), .lit (.int .u8 33), .lit (.int .u8 30), .lit (.int .u8 24), .lit (.int .u8 18), .lit (.int .u8 12), .lit (.int .u8 5), .lit (.int .u8 63), .lit (.int .u8 55), .lit (.int .u8 48), .lit (.int .u8 27), .lit (.int .u8 60), .lit (.int .u8 41), .lit (.int .u8 37), .lit (.int .u8 16), .lit (.int .u8 46), .lit (.int .u8 35), .lit (.int .u8 44), .lit (.int .u8 21), .lit (.int .u8 52), .lit (.int .u8 32), .lit (.int .u8 23), .lit (.int .u8 11), .lit (.int .u8 54), .lit (.int .u8 26), .lit (.int .u8 40), .lit (.int .u8 15), .lit (.int .u8 34), .lit (.int .u8 20), .lit (.int .u8 31), .lit (.int .u8 10), .lit (.int .u8 25), .lit (.int .u8 14), .lit (.int .u8 19), .lit (.int .u8 9), .lit (.int .u8 13), .lit (.int .u8 8), .lit (.int .u8 7), .lit (.int .u8 6)]
def laid_internal_strconv_uint64pow10 {H : Type} : DataW H := .agg [.lit (.int .u64 1), .lit (.int .u64 10), .lit (.int .u64 100), .lit (.int .u64 1000), .lit (.int .u64 10000), .lit (.int .u64 100000), .lit (.int .u64 1000000), .lit (.int .u64 10000000), .lit (.int .u64 100000000), .lit (.int .u64 1000000000), .lit (.int .u64 10000000000), .lit (.int .u64 100000000000), .lit (.int .u64 1000000000000), .lit (.int .u64 10000000000000), .lit (.int .u64 100000000000000), .lit (.int .u64 1000000000000000), .lit (.int .u64 10000000000000000), .lit (.int .u64 100000000000000000), .lit (.int .u64 1000000000000000000), .lit (.int .u64 10000000000000000000)]

/-- 'postroomlaw.ScriptChecks': WHATEVER THE INPUT: true; the input reads as it did. -/
def scriptChecksSpec : ChangeSpec := { name := "scriptChecks", fn := fun _ => fun
  | [d] => { results := [.lit (.bool true)], args := [d] }
  | _ => none }
def scriptChecksRow : OpenClaim := { program := "ytnoboapafndnlaadoor", sum := "4889355fb0961ab453f4d8d1dcfb61b233d5c0c94badf629c6391ed64ae1cb01", func := "postroom/postroomlaw.ScriptChecks", spec := "scriptChecks", recurses := true, named := ["postroom/script.commands", "postroom/script.tests", "postroom/script.parts", "postroom/script.matches"], loops := true, apart := false, laid := [("postroom/script.commands", laid_postroom_script_commands), ("postroom/script.tests", laid_postroom_script_tests), ("postroom/script.matches", laid_postroom_script_matches), ("postroom/script.parts", laid_postroom_script_parts)] }
def ScriptChecksSaid : Prop := scriptChecksRow.holds Tryd.pinned (OpenSpec.ofChange scriptChecksSpec)

/-- ITS FALSE NEIGHBOUR: 'it returns false'. Refute it at one input. -/
def scriptChecksWrong : ChangeSpec := { name := "scriptChecks", fn := fun _ => fun
  | [d] => { results := [.lit (.bool false)], args := [d] }
  | _ => none }
def ScriptChecksWrongFalsely : Prop := scriptChecksRow.holds Tryd.pinned (OpenSpec.ofChange scriptChecksWrong)

/-- 'postroomlaw.ScriptShows': WHATEVER THE INPUT: true; the input reads as it did. -/
def scriptShowsSpec : ChangeSpec := { name := "scriptShows", fn := fun _ => fun
  | [d] => { results := [.lit (.bool true)], args := [d] }
  | _ => none }
def scriptShowsRow : OpenClaim := { program := "ytnoboapafndnlaadoor", sum := "4889355fb0961ab453f4d8d1dcfb61b233d5c0c94badf629c6391ed64ae1cb01", func := "postroom/postroomlaw.ScriptShows", spec := "scriptShows", recurses := true, named := ["postroom/script.commands", "postroom/script.tests", "postroom/script.parts", "postroom/script.matches"], loops := true, apart := false, laid := [("postroom/script.commands", laid_postroom_script_commands), ("postroom/script.tests", laid_postroom_script_tests), ("postroom/script.matches", laid_postroom_script_matches), ("postroom/script.parts", laid_postroom_script_parts)] }
def ScriptShowsSaid : Prop := scriptShowsRow.holds Tryd.pinned (OpenSpec.ofChange scriptShowsSpec)

/-- ITS FALSE NEIGHBOUR: 'it returns false'. Refute it at one input. -/
def scriptShowsWrong : ChangeSpec := { name := "scriptShows", fn := fun _ => fun
  | [d] => { results := [.lit (.bool false)], args := [d] }
  | _ => none }
def ScriptShowsWrongFalsely : Prop := scriptShowsRow.holds Tryd.pinned (OpenSpec.ofChange scriptShowsWrong)

/-- 'postroomlaw.ScriptParses': WHATEVER THE INPUT: true; the input reads as it did. -/
def scriptParsesSpec : ChangeSpec := { name := "scriptParses", fn := fun _ => fun
  | [d] => { results := [.lit (.bool true)], args := [d] }
  | _ => none }
def scriptParsesRow : OpenClaim := { program := "ytnoboapafndnlaadoor", sum := "4889355fb0961ab453f4d8d1dcfb61b233d5c0c94badf629c6391ed64ae1cb01", func := "postroom/postroomlaw.ScriptParses", spec := "scriptParses", inPlace := ["internal/bytealg.IndexByteString", "internal/bytealg.IndexString"], unfollowed := true, recurses := true, named := ["internal/bytealg.MaxLen", "postroom/script.commands", "postroom/script.tests", "postroom/script.matches", "postroom/script.parts"], apart := false, laid := [("postroom/script.commands", laid_postroom_script_commands), ("postroom/script.tests", laid_postroom_script_tests), ("postroom/script.matches", laid_postroom_script_matches), ("postroom/script.parts", laid_postroom_script_parts)] }
def ScriptParsesSaid : Prop := scriptParsesRow.holds Tryd.pinned (OpenSpec.ofChange scriptParsesSpec)

/-- ITS FALSE NEIGHBOUR: 'it returns false'. Refute it at one input. -/
def scriptParsesWrong : ChangeSpec := { name := "scriptParses", fn := fun _ => fun
  | [d] => { results := [.lit (.bool false)], args := [d] }
  | _ => none }
def ScriptParsesWrongFalsely : Prop := scriptParsesRow.holds Tryd.pinned (OpenSpec.ofChange scriptParsesWrong)

/-- 'postroomlaw.BoxSizes': WHATEVER THE INPUT: true; the input reads as it did. -/
def boxSizesSpec : ChangeSpec := { name := "boxSizes", fn := fun _ => fun
  | [d] => { results := [.lit (.bool true)], args := [d] }
  | _ => none }
def boxSizesRow : OpenClaim := { program := "ytnoboapafndnlaadoor", sum := "4889355fb0961ab453f4d8d1dcfb61b233d5c0c94badf629c6391ed64ae1cb01", func := "postroom/postroomlaw.BoxSizes", spec := "boxSizes", inPlace := ["internal/bytealg.IndexByteString", "internal/bytealg.CountString", "internal/bytealg.IndexString"], unfollowed := true, recurses := true, named := ["unicode/utf8.first", "unicode/utf8.acceptRanges", "internal/bytealg.MaxLen"], apart := false, laid := [("unicode/utf8.acceptRanges", laid_unicode_utf8_acceptRanges), ("unicode/utf8.first", laid_unicode_utf8_first)] }
def BoxSizesSaid : Prop := boxSizesRow.holds Tryd.pinned (OpenSpec.ofChange boxSizesSpec)

/-- ITS FALSE NEIGHBOUR: 'it returns false'. Refute it at one input. -/
def boxSizesWrong : ChangeSpec := { name := "boxSizes", fn := fun _ => fun
  | [d] => { results := [.lit (.bool false)], args := [d] }
  | _ => none }
def BoxSizesWrongFalsely : Prop := boxSizesRow.holds Tryd.pinned (OpenSpec.ofChange boxSizesWrong)

/-- 'postroomlaw.BookAppends': WHATEVER THE INPUT: true; the input reads as it did. -/
def bookAppendsSpec : ChangeSpec := { name := "bookAppends", fn := fun _ => fun
  | [d1, d2] => { results := [.lit (.bool true)], args := [d1, d2] }
  | _ => none }
def bookAppendsRow : OpenClaim := { program := "ytnoboapafndnlaadoor", sum := "4889355fb0961ab453f4d8d1dcfb61b233d5c0c94badf629c6391ed64ae1cb01", func := "postroom/postroomlaw.BookAppends", spec := "bookAppends", inPlace := ["internal/bytealg.IndexByteString", "internal/bytealg.CountString", "internal/bytealg.IndexString"], unfollowed := true, recurses := true, named := ["unicode/utf8.first", "unicode/utf8.acceptRanges", "internal/bytealg.MaxLen"], apart := false, laid := [("unicode/utf8.acceptRanges", laid_unicode_utf8_acceptRanges), ("unicode/utf8.first", laid_unicode_utf8_first)] }
def BookAppendsSaid : Prop := bookAppendsRow.holds Tryd.pinned (OpenSpec.ofChange bookAppendsSpec)

/-- ITS FALSE NEIGHBOUR: 'it returns false'. Refute it at one input. -/
def bookAppendsWrong : ChangeSpec := { name := "bookAppends", fn := fun _ => fun
  | [d1, d2] => { results := [.lit (.bool false)], args := [d1, d2] }
  | _ => none }
def BookAppendsWrongFalsely : Prop := bookAppendsRow.holds Tryd.pinned (OpenSpec.ofChange bookAppendsWrong)

/-- 'postroomlaw.BookRecovers': WHATEVER THE INPUT: true; the input reads as it did. -/
def bookRecoversSpec : ChangeSpec := { name := "bookRecovers", fn := fun _ => fun
  | [d] => { results := [.lit (.bool true)], args := [d] }
  | _ => none }
def bookRecoversRow : OpenClaim := { program := "ytnoboapafndnlaadoor", sum := "4889355fb0961ab453f4d8d1dcfb61b233d5c0c94badf629c6391ed64ae1cb01", func := "postroom/postroomlaw.BookRecovers", spec := "bookRecovers", inPlace := ["internal/bytealg.IndexByteString", "internal/bytealg.CountString", "internal/bytealg.IndexString"], unfollowed := true, recurses := true, named := ["unicode/utf8.first", "unicode/utf8.acceptRanges", "internal/bytealg.MaxLen"], apart := false, laid := [("unicode/utf8.acceptRanges", laid_unicode_utf8_acceptRanges), ("unicode/utf8.first", laid_unicode_utf8_first)] }
def BookRecoversSaid : Prop := bookRecoversRow.holds Tryd.pinned (OpenSpec.ofChange bookRecoversSpec)

/-- ITS FALSE NEIGHBOUR: 'it returns false'. Refute it at one input. -/
def bookRecoversWrong : ChangeSpec := { name := "bookRecovers", fn := fun _ => fun
  | [d] => { results := [.lit (.bool false)], args := [d] }
  | _ => none }
def BookRecoversWrongFalsely : Prop := bookRecoversRow.holds Tryd.pinned (OpenSpec.ofChange bookRecoversWrong)

/-- 'postroomlaw.LetterValues': WHATEVER THE INPUT: true; the input reads as it did. -/
def letterValuesSpec : ChangeSpec := { name := "letterValues", fn := fun _ => fun
  | [d1, d2] => { results := [.lit (.bool true)], args := [d1, d2] }
  | _ => none }
def letterValuesRow : OpenClaim := { program := "ytnoboapafndnlaadoor", sum := "4889355fb0961ab453f4d8d1dcfb61b233d5c0c94badf629c6391ed64ae1cb01", func := "postroom/postroomlaw.LetterValues", spec := "letterValues", inPlace := ["internal/bytealg.IndexByteString", "internal/bytealg.IndexString", "internal/abi.NoEscape"], unfollowed := true, recurses := true, named := ["internal/bytealg.MaxLen", "unicode/utf8.first", "unicode/utf8.acceptRanges"], apart := false, laid := [("unicode/utf8.acceptRanges", laid_unicode_utf8_acceptRanges), ("unicode/utf8.first", laid_unicode_utf8_first)] }
def LetterValuesSaid : Prop := letterValuesRow.holds Tryd.pinned (OpenSpec.ofChange letterValuesSpec)

/-- ITS FALSE NEIGHBOUR: 'it returns false'. Refute it at one input. -/
def letterValuesWrong : ChangeSpec := { name := "letterValues", fn := fun _ => fun
  | [d1, d2] => { results := [.lit (.bool false)], args := [d1, d2] }
  | _ => none }
def LetterValuesWrongFalsely : Prop := letterValuesRow.holds Tryd.pinned (OpenSpec.ofChange letterValuesWrong)

/-- 'postroomlaw.JudgeChecks': WHATEVER THE INPUT: true; the input reads as it did. -/
def judgeChecksSpec : ChangeSpec := { name := "judgeChecks", fn := fun _ => fun
  | [d] => { results := [.lit (.bool true)], args := [d] }
  | _ => none }
def judgeChecksRow : OpenClaim := { program := "ytnoboapafndnlaadoor", sum := "4889355fb0961ab453f4d8d1dcfb61b233d5c0c94badf629c6391ed64ae1cb01", func := "postroom/postroomlaw.JudgeChecks", spec := "judgeChecks", inPlace := ["internal/bytealg.CountString", "internal/bytealg.IndexByteString", "internal/bytealg.IndexString"], named := ["unicode/utf8.first", "unicode/utf8.acceptRanges", "internal/bytealg.MaxLen"], apart := false, laid := [("unicode/utf8.acceptRanges", laid_unicode_utf8_acceptRanges), ("unicode/utf8.first", laid_unicode_utf8_first)] }
def JudgeChecksSaid : Prop := judgeChecksRow.holds Tryd.pinned (OpenSpec.ofChange judgeChecksSpec)

/-- ITS FALSE NEIGHBOUR: 'it returns false'. Refute it at one input. -/
def judgeChecksWrong : ChangeSpec := { name := "judgeChecks", fn := fun _ => fun
  | [d] => { results := [.lit (.bool false)], args := [d] }
  | _ => none }
def JudgeChecksWrongFalsely : Prop := judgeChecksRow.holds Tryd.pinned (OpenSpec.ofChange judgeChecksWrong)

/-- 'postroomlaw.TokenJoins': WHATEVER THE INPUT: true; the input reads as it did. -/
def tokenJoinsSpec : ChangeSpec := { name := "tokenJoins", fn := fun _ => fun
  | [d] => { results := [.lit (.bool true)], args := [d] }
  | _ => none }
def tokenJoinsRow : OpenClaim := { program := "ytnoboapafndnlaadoor", sum := "4889355fb0961ab453f4d8d1dcfb61b233d5c0c94badf629c6391ed64ae1cb01", func := "postroom/postroomlaw.TokenJoins", spec := "tokenJoins", inPlace := ["internal/bytealg.IndexByteString", "internal/bytealg.IndexString", "internal/abi.NoEscape", "internal/bytealg.CountString", "internal/bytealg.MakeNoZero"], unfollowed := true, recurses := true, named := ["internal/bytealg.MaxLen", "internal/strconv.uint64pow10", "math/bits.deBruijn32tab", "math/bits.deBruijn64tab", "unicode/utf8.first", "unicode/utf8.acceptRanges"], apart := false, laid := [("math/bits.deBruijn32tab", laid_math_bits_deBruijn32tab), ("math/bits.deBruijn64tab", laid_math_bits_deBruijn64tab), ("internal/strconv.uint64pow10", laid_internal_strconv_uint64pow10), ("unicode/utf8.acceptRanges", laid_unicode_utf8_acceptRanges), ("unicode/utf8.first", laid_unicode_utf8_first)] }
def TokenJoinsSaid : Prop := tokenJoinsRow.holds Tryd.pinned (OpenSpec.ofChange tokenJoinsSpec)

/-- ITS FALSE NEIGHBOUR: 'it returns false'. Refute it at one input. -/
def tokenJoinsWrong : ChangeSpec := { name := "tokenJoins", fn := fun _ => fun
  | [d] => { results := [.lit (.bool false)], args := [d] }
  | _ => none }
def TokenJoinsWrongFalsely : Prop := tokenJoinsRow.holds Tryd.pinned (OpenSpec.ofChange tokenJoinsWrong)

/-- 'postroomlaw.BoxAlls': WHATEVER THE INPUT: true; the input reads as it did. -/
def boxAllsSpec : ChangeSpec := { name := "boxAlls", fn := fun _ => fun
  | [d1, d2] => { results := [.lit (.bool true)], args := [d1, d2] }
  | _ => none }
def boxAllsRow : OpenClaim := { program := "ytnoboapafndnlaadoor", sum := "4889355fb0961ab453f4d8d1dcfb61b233d5c0c94badf629c6391ed64ae1cb01", func := "postroom/postroomlaw.BoxAlls", spec := "boxAlls", inPlace := ["internal/bytealg.IndexByteString", "internal/bytealg.CountString", "internal/bytealg.IndexString"], unfollowed := true, recurses := true, named := ["unicode/utf8.first", "unicode/utf8.acceptRanges", "internal/bytealg.MaxLen"], apart := false, laid := [("unicode/utf8.acceptRanges", laid_unicode_utf8_acceptRanges), ("unicode/utf8.first", laid_unicode_utf8_first)] }
def BoxAllsSaid : Prop := boxAllsRow.holds Tryd.pinned (OpenSpec.ofChange boxAllsSpec)

/-- ITS FALSE NEIGHBOUR: 'it returns false'. Refute it at one input. -/
def boxAllsWrong : ChangeSpec := { name := "boxAlls", fn := fun _ => fun
  | [d1, d2] => { results := [.lit (.bool false)], args := [d1, d2] }
  | _ => none }
def BoxAllsWrongFalsely : Prop := boxAllsRow.holds Tryd.pinned (OpenSpec.ofChange boxAllsWrong)

/-- 'postroomlaw.BoxApplies': WHATEVER THE INPUT: true; the input reads as it did. -/
def boxAppliesSpec : ChangeSpec := { name := "boxApplies", fn := fun _ => fun
  | [d1, d2] => { results := [.lit (.bool true)], args := [d1, d2] }
  | _ => none }
def boxAppliesRow : OpenClaim := { program := "ytnoboapafndnlaadoor", sum := "4889355fb0961ab453f4d8d1dcfb61b233d5c0c94badf629c6391ed64ae1cb01", func := "postroom/postroomlaw.BoxApplies", spec := "boxApplies", inPlace := ["internal/bytealg.IndexByteString", "internal/bytealg.CountString", "internal/bytealg.IndexString"], unfollowed := true, recurses := true, named := ["unicode/utf8.first", "unicode/utf8.acceptRanges", "internal/bytealg.MaxLen"], apart := false, laid := [("unicode/utf8.acceptRanges", laid_unicode_utf8_acceptRanges), ("unicode/utf8.first", laid_unicode_utf8_first)] }
def BoxAppliesSaid : Prop := boxAppliesRow.holds Tryd.pinned (OpenSpec.ofChange boxAppliesSpec)

/-- ITS FALSE NEIGHBOUR: 'it returns false'. Refute it at one input. -/
def boxAppliesWrong : ChangeSpec := { name := "boxApplies", fn := fun _ => fun
  | [d1, d2] => { results := [.lit (.bool false)], args := [d1, d2] }
  | _ => none }
def BoxAppliesWrongFalsely : Prop := boxAppliesRow.holds Tryd.pinned (OpenSpec.ofChange boxAppliesWrong)

/-- 'postroomlaw.BookFolds': WHATEVER THE INPUT: true; the input reads as it did. -/
def bookFoldsSpec : ChangeSpec := { name := "bookFolds", fn := fun _ => fun
  | [d1, d2] => { results := [.lit (.bool true)], args := [d1, d2] }
  | _ => none }
def bookFoldsRow : OpenClaim := { program := "ytnoboapafndnlaadoor", sum := "4889355fb0961ab453f4d8d1dcfb61b233d5c0c94badf629c6391ed64ae1cb01", func := "postroom/postroomlaw.BookFolds", spec := "bookFolds", inPlace := ["internal/bytealg.IndexByteString", "internal/bytealg.CountString", "internal/bytealg.IndexString"], unfollowed := true, recurses := true, named := ["unicode/utf8.first", "unicode/utf8.acceptRanges", "internal/bytealg.MaxLen"], apart := false, laid := [("unicode/utf8.acceptRanges", laid_unicode_utf8_acceptRanges), ("unicode/utf8.first", laid_unicode_utf8_first)] }
def BookFoldsSaid : Prop := bookFoldsRow.holds Tryd.pinned (OpenSpec.ofChange bookFoldsSpec)

/-- ITS FALSE NEIGHBOUR: 'it returns false'. Refute it at one input. -/
def bookFoldsWrong : ChangeSpec := { name := "bookFolds", fn := fun _ => fun
  | [d1, d2] => { results := [.lit (.bool false)], args := [d1, d2] }
  | _ => none }
def BookFoldsWrongFalsely : Prop := bookFoldsRow.holds Tryd.pinned (OpenSpec.ofChange bookFoldsWrong)

/- THE SECOND FORM. 'bulk': how many values and letters a reading holds, each counted each time it is reached (what is shared counts as often as it is met; a slice's spare places count too). A statement '..UptoSaid' is the law's where the arguments, and the package variables that the reading takes, are together of bulk at most 1048576: NARROWER than '..Said'. Prove '..Said' where nothing that the law and all that it calls make is longer than what came in: it says more and counts as full. Else prove '..UptoSaid'. A law counts once. -/
mutual
def uptoBulk {H : Type} : DataW H → Nat
  | .lit (.string bytes) => bytes.length + 1
  | .lit _ => 1
  | .nil => 1
  | .ptr d => uptoBulk d + 1
  | .slice elems spare => uptoBulkAll elems + uptoBulkAll spare + 1
  | .agg parts => uptoBulkAll parts + 1
  | .iface _ d => uptoBulk d + 1
  | .map entries => uptoBulkEntries entries + 1
  | .held _ => 1
def uptoBulkAll {H : Type} : List (DataW H) → Nat
  | [] => 0
  | d :: r => uptoBulk d + uptoBulkAll r
def uptoBulkEntries {H : Type} : List (Lit × DataW H) → Nat
  | [] => 0
  | x :: r => uptoBulkEntry x + uptoBulkEntries r
def uptoBulkEntry {H : Type} : Lit × DataW H → Nat
  | (.string bytes, d) => bytes.length + uptoBulk d + 1
  | (_, d) => uptoBulk d + 1
 end
def uptoSmall : (H : Type) → List (DataW H) → Bool := fun _ ds => decide (uptoBulkAll ds ≤ 1048576)
def OpenSpec.upto (s : _root_.Go.ChangeSpec) : _root_.Go.OpenSpec := { _root_.Go.OpenSpec.ofChange s with cond := some uptoSmall }

/-- 'postroomlaw.ScriptChecks', WHERE WHAT IT READS IS OF BULK AT MOST 1048576: true; the input reads as it did. -/
def scriptChecksUptoRow : OpenClaim := { program := "ytnoboapafndnlaadoor", sum := "4889355fb0961ab453f4d8d1dcfb61b233d5c0c94badf629c6391ed64ae1cb01", func := "postroom/postroomlaw.ScriptChecks", spec := "scriptChecks", recurses := true, named := ["postroom/script.commands", "postroom/script.tests", "postroom/script.parts", "postroom/script.matches"], loops := true, apart := false, laid := [("postroom/script.commands", laid_postroom_script_commands), ("postroom/script.tests", laid_postroom_script_tests), ("postroom/script.matches", laid_postroom_script_matches), ("postroom/script.parts", laid_postroom_script_parts)], narrowed := true }
def ScriptChecksUptoSaid : Prop := scriptChecksUptoRow.holds Tryd.pinned (OpenSpec.upto scriptChecksSpec)

/-- 'postroomlaw.ScriptShows', WHERE WHAT IT READS IS OF BULK AT MOST 1048576: true; the input reads as it did. -/
def scriptShowsUptoRow : OpenClaim := { program := "ytnoboapafndnlaadoor", sum := "4889355fb0961ab453f4d8d1dcfb61b233d5c0c94badf629c6391ed64ae1cb01", func := "postroom/postroomlaw.ScriptShows", spec := "scriptShows", recurses := true, named := ["postroom/script.commands", "postroom/script.tests", "postroom/script.parts", "postroom/script.matches"], loops := true, apart := false, laid := [("postroom/script.commands", laid_postroom_script_commands), ("postroom/script.tests", laid_postroom_script_tests), ("postroom/script.matches", laid_postroom_script_matches), ("postroom/script.parts", laid_postroom_script_parts)], narrowed := true }
def ScriptShowsUptoSaid : Prop := scriptShowsUptoRow.holds Tryd.pinned (OpenSpec.upto scriptShowsSpec)

/-- 'postroomlaw.ScriptParses', WHERE WHAT IT READS IS OF BULK AT MOST 1048576: true; the input reads as it did. -/
def scriptParsesUptoRow : OpenClaim := { program := "ytnoboapafndnlaadoor", sum := "4889355fb0961ab453f4d8d1dcfb61b233d5c0c94badf629c6391ed64ae1cb01", func := "postroom/postroomlaw.ScriptParses", spec := "scriptParses", inPlace := ["internal/bytealg.IndexByteString", "internal/bytealg.IndexString"], unfollowed := true, recurses := true, named := ["internal/bytealg.MaxLen", "postroom/script.commands", "postroom/script.tests", "postroom/script.matches", "postroom/script.parts"], apart := false, laid := [("postroom/script.commands", laid_postroom_script_commands), ("postroom/script.tests", laid_postroom_script_tests), ("postroom/script.matches", laid_postroom_script_matches), ("postroom/script.parts", laid_postroom_script_parts)], narrowed := true }
def ScriptParsesUptoSaid : Prop := scriptParsesUptoRow.holds Tryd.pinned (OpenSpec.upto scriptParsesSpec)

/-- 'postroomlaw.BoxSizes', WHERE WHAT IT READS IS OF BULK AT MOST 1048576: true; the input reads as it did. -/
def boxSizesUptoRow : OpenClaim := { program := "ytnoboapafndnlaadoor", sum := "4889355fb0961ab453f4d8d1dcfb61b233d5c0c94badf629c6391ed64ae1cb01", func := "postroom/postroomlaw.BoxSizes", spec := "boxSizes", inPlace := ["internal/bytealg.IndexByteString", "internal/bytealg.CountString", "internal/bytealg.IndexString"], unfollowed := true, recurses := true, named := ["unicode/utf8.first", "unicode/utf8.acceptRanges", "internal/bytealg.MaxLen"], apart := false, laid := [("unicode/utf8.acceptRanges", laid_unicode_utf8_acceptRanges), ("unicode/utf8.first", laid_unicode_utf8_first)], narrowed := true }
def BoxSizesUptoSaid : Prop := boxSizesUptoRow.holds Tryd.pinned (OpenSpec.upto boxSizesSpec)

/-- 'postroomlaw.BookAppends', WHERE WHAT IT READS IS OF BULK AT MOST 1048576: true; the input reads as it did. -/
def bookAppendsUptoRow : OpenClaim := { program := "ytnoboapafndnlaadoor", sum := "4889355fb0961ab453f4d8d1dcfb61b233d5c0c94badf629c6391ed64ae1cb01", func := "postroom/postroomlaw.BookAppends", spec := "bookAppends", inPlace := ["internal/bytealg.IndexByteString", "internal/bytealg.CountString", "internal/bytealg.IndexString"], unfollowed := true, recurses := true, named := ["unicode/utf8.first", "unicode/utf8.acceptRanges", "internal/bytealg.MaxLen"], apart := false, laid := [("unicode/utf8.acceptRanges", laid_unicode_utf8_acceptRanges), ("unicode/utf8.first", laid_unicode_utf8_first)], narrowed := true }
def BookAppendsUptoSaid : Prop := bookAppendsUptoRow.holds Tryd.pinned (OpenSpec.upto bookAppendsSpec)

/-- 'postroomlaw.BookRecovers', WHERE WHAT IT READS IS OF BULK AT MOST 1048576: true; the input reads as it did. -/
def bookRecoversUptoRow : OpenClaim := { program := "ytnoboapafndnlaadoor", sum := "4889355fb0961ab453f4d8d1dcfb61b233d5c0c94badf629c6391ed64ae1cb01", func := "postroom/postroomlaw.BookRecovers", spec := "bookRecovers", inPlace := ["internal/bytealg.IndexByteString", "internal/bytealg.CountString", "internal/bytealg.IndexString"], unfollowed := true, recurses := true, named := ["unicode/utf8.first", "unicode/utf8.acceptRanges", "internal/bytealg.MaxLen"], apart := false, laid := [("unicode/utf8.acceptRanges", laid_unicode_utf8_acceptRanges), ("unicode/utf8.first", laid_unicode_utf8_first)], narrowed := true }
def BookRecoversUptoSaid : Prop := bookRecoversUptoRow.holds Tryd.pinned (OpenSpec.upto bookRecoversSpec)

/-- 'postroomlaw.LetterValues', WHERE WHAT IT READS IS OF BULK AT MOST 1048576: true; the input reads as it did. -/
def letterValuesUptoRow : OpenClaim := { program := "ytnoboapafndnlaadoor", sum := "4889355fb0961ab453f4d8d1dcfb61b233d5c0c94badf629c6391ed64ae1cb01", func := "postroom/postroomlaw.LetterValues", spec := "letterValues", inPlace := ["internal/bytealg.IndexByteString", "internal/bytealg.IndexString", "internal/abi.NoEscape"], unfollowed := true, recurses := true, named := ["internal/bytealg.MaxLen", "unicode/utf8.first", "unicode/utf8.acceptRanges"], apart := false, laid := [("unicode/utf8.acceptRanges", laid_unicode_utf8_acceptRanges), ("unicode/utf8.first", laid_unicode_utf8_first)], narrowed := true }
def LetterValuesUptoSaid : Prop := letterValuesUptoRow.holds Tryd.pinned (OpenSpec.upto letterValuesSpec)

/-- 'postroomlaw.JudgeChecks', WHERE WHAT IT READS IS OF BULK AT MOST 1048576: true; the input reads as it did. -/
def judgeChecksUptoRow : OpenClaim := { program := "ytnoboapafndnlaadoor", sum := "4889355fb0961ab453f4d8d1dcfb61b233d5c0c94badf629c6391ed64ae1cb01", func := "postroom/postroomlaw.JudgeChecks", spec := "judgeChecks", inPlace := ["internal/bytealg.CountString", "internal/bytealg.IndexByteString", "internal/bytealg.IndexString"], named := ["unicode/utf8.first", "unicode/utf8.acceptRanges", "internal/bytealg.MaxLen"], apart := false, laid := [("unicode/utf8.acceptRanges", laid_unicode_utf8_acceptRanges), ("unicode/utf8.first", laid_unicode_utf8_first)], narrowed := true }
def JudgeChecksUptoSaid : Prop := judgeChecksUptoRow.holds Tryd.pinned (OpenSpec.upto judgeChecksSpec)

/-- 'postroomlaw.TokenJoins', WHERE WHAT IT READS IS OF BULK AT MOST 1048576: true; the input reads as it did. -/
def tokenJoinsUptoRow : OpenClaim := { program := "ytnoboapafndnlaadoor", sum := "4889355fb0961ab453f4d8d1dcfb61b233d5c0c94badf629c6391ed64ae1cb01", func := "postroom/postroomlaw.TokenJoins", spec := "tokenJoins", inPlace := ["internal/bytealg.IndexByteString", "internal/bytealg.IndexString", "internal/abi.NoEscape", "internal/bytealg.CountString", "internal/bytealg.MakeNoZero"], unfollowed := true, recurses := true, named := ["internal/bytealg.MaxLen", "internal/strconv.uint64pow10", "math/bits.deBruijn32tab", "math/bits.deBruijn64tab", "unicode/utf8.first", "unicode/utf8.acceptRanges"], apart := false, laid := [("math/bits.deBruijn32tab", laid_math_bits_deBruijn32tab), ("math/bits.deBruijn64tab", laid_math_bits_deBruijn64tab), ("internal/strconv.uint64pow10", laid_internal_strconv_uint64pow10), ("unicode/utf8.acceptRanges", laid_unicode_utf8_acceptRanges), ("unicode/utf8.first", laid_unicode_utf8_first)], narrowed := true }
def TokenJoinsUptoSaid : Prop := tokenJoinsUptoRow.holds Tryd.pinned (OpenSpec.upto tokenJoinsSpec)

/-- 'postroomlaw.BoxAlls', WHERE WHAT IT READS IS OF BULK AT MOST 1048576: true; the input reads as it did. -/
def boxAllsUptoRow : OpenClaim := { program := "ytnoboapafndnlaadoor", sum := "4889355fb0961ab453f4d8d1dcfb61b233d5c0c94badf629c6391ed64ae1cb01", func := "postroom/postroomlaw.BoxAlls", spec := "boxAlls", inPlace := ["internal/bytealg.IndexByteString", "internal/bytealg.CountString", "internal/bytealg.IndexString"], unfollowed := true, recurses := true, named := ["unicode/utf8.first", "unicode/utf8.acceptRanges", "internal/bytealg.MaxLen"], apart := false, laid := [("unicode/utf8.acceptRanges", laid_unicode_utf8_acceptRanges), ("unicode/utf8.first", laid_unicode_utf8_first)], narrowed := true }
def BoxAllsUptoSaid : Prop := boxAllsUptoRow.holds Tryd.pinned (OpenSpec.upto boxAllsSpec)

/-- 'postroomlaw.BoxApplies', WHERE WHAT IT READS IS OF BULK AT MOST 1048576: true; the input reads as it did. -/
def boxAppliesUptoRow : OpenClaim := { program := "ytnoboapafndnlaadoor", sum := "4889355fb0961ab453f4d8d1dcfb61b233d5c0c94badf629c6391ed64ae1cb01", func := "postroom/postroomlaw.BoxApplies", spec := "boxApplies", inPlace := ["internal/bytealg.IndexByteString", "internal/bytealg.CountString", "internal/bytealg.IndexString"], unfollowed := true, recurses := true, named := ["unicode/utf8.first", "unicode/utf8.acceptRanges", "internal/bytealg.MaxLen"], apart := false, laid := [("unicode/utf8.acceptRanges", laid_unicode_utf8_acceptRanges), ("unicode/utf8.first", laid_unicode_utf8_first)], narrowed := true }
def BoxAppliesUptoSaid : Prop := boxAppliesUptoRow.holds Tryd.pinned (OpenSpec.upto boxAppliesSpec)

/-- 'postroomlaw.BookFolds', WHERE WHAT IT READS IS OF BULK AT MOST 1048576: true; the input reads as it did. -/
def bookFoldsUptoRow : OpenClaim := { program := "ytnoboapafndnlaadoor", sum := "4889355fb0961ab453f4d8d1dcfb61b233d5c0c94badf629c6391ed64ae1cb01", func := "postroom/postroomlaw.BookFolds", spec := "bookFolds", inPlace := ["internal/bytealg.IndexByteString", "internal/bytealg.CountString", "internal/bytealg.IndexString"], unfollowed := true, recurses := true, named := ["unicode/utf8.first", "unicode/utf8.acceptRanges", "internal/bytealg.MaxLen"], apart := false, laid := [("unicode/utf8.acceptRanges", laid_unicode_utf8_acceptRanges), ("unicode/utf8.first", laid_unicode_utf8_first)], narrowed := true }
def BookFoldsUptoSaid : Prop := bookFoldsUptoRow.holds Tryd.pinned (OpenSpec.upto bookFoldsSpec)

end Rows
end Go.Proofs.YtnoboapafndnlaaDoor
