/-
  NARROWER THAN 'FOR EVERY INPUT', by the rows' own cells (each row's printed sentence says how): CodeCompiles: loops, laid · JudgeAsks: loops, laid · JudgeJudges: loops, laid · DeliverDelivers: loops, laid · RuleReads: laid.
  DERIVED. THE GIVEN ROWS OF THIS SEAT. 5 by the template 'for every input the law returns true; each argument reads behind the call as it read before'; 0 by the template 'total and deterministic' (their statements: YtidldcfpmehpiaaGreatDoorTotals.lean).
  GIVEN WITH THE SEED: the statements are not yours to turn. If you find one false, say at which input.
  Laid BY PROGRAM, IN A SANDBOX (cutbox-rows.mjs): the forced cells as the released guide's own fill.sh prints them over the translation d053c7b42f5870a5… (all of the seat's roots in one cut). By AI agents, Wed Nov 11 2026. No macro, syntax, notation, axiom, sorry.
-/
import Derived.Test.YtidldcfpmehpiaaGreatDoorChecked
import GoSem.PinnedTables
import GoSem.Claim
import GoSem.ClaimJoined
import GoSem.ClaimMapViews
import Derived.JoinedTies
import Derived.KernelRfl
namespace Go.Proofs.YtidldcfpmehpiaaGreatDoor
/- THE CELL 'sum', in the pinned program and in every row, IS THE sha256 OF THE DUMP (.gsa) THAT YtidldcfpmehpiaaGreatDoorProg.lean LOADS. Nothing in Lean hashes anything: it is a label: what it is worth is what the hold of that sum in a sandbox is worth. -/
noncomputable def Tryz.pinned : Pinned := { name := "ytidldcfpmehpiaagreatdoor", sum := "d053c7b42f5870a558610c79a8f0045b9106e36b3ec8022e3b74c914e5f47945", checked := Tryz.checked }
namespace Rows
def none {H : Type} : Left H := { results := [], args := [] }

/- WHAT THE LISTED PACKAGE-LEVEL VARIABLES READ AS WHEN THE CALL BEGINS. Each datum BY PROGRAM (the guide's laid-datum.mjs) off the statement by which the dump's own 'gosem.cut.vars' lays the variable. In a bare row this is a premise. The card (YtidldcfpmehpiaaGreatDoorCards.lean) ties it to the program's text. -/
def laid_unicode_utf8_acceptRanges {H : Type} : DataW H := .agg [.agg [.lit (.int .u8 128), .lit (.int .u8 191)], .agg [.lit (.int .u8 160), .lit (.int .u8 191)], .agg [.lit (.int .u8 128), .lit (.int .u8 159)], .agg [.lit (.int .u8 144), .lit (.int .u8 191)], .agg [.lit (.int .u8 128), .lit (.int .u8 143)], .agg [.lit (.int .u8 0), .lit (.int .u8 0)], .agg [.lit (.int .u8 0), .lit (.int .u8 0)], .agg [.lit (.int .u8 0), .lit (.int .u8 0)], .agg [.lit (.int .u8 0), .lit (.int .u8 0)], .agg [.lit (.int .u8 0), .lit (.int .u8 0)], .agg [.lit (.int .u8 0), .lit (.int .u8 0)], .agg [.lit (.int .u8 0), .lit (.int .u8 0)], .agg [.lit (.int .u8 0), .lit (.int .u8 0)], .agg [.lit (.int .u8 0), .lit (.int .u8 0)], .agg [.lit (.int .u8 0), .lit (.int .u8 0)], .agg [.lit (.int .u8 0), .lit (.int .u8 0)]]
def laid_postroom_script_commands {H : Type} : DataW H := .agg [.lit (.string []), .lit (.string [114, 101, 113, 117, 105, 114, 101]), .lit (.string [105, 102]), .lit (.string [107, 101, 101, 112]), .lit (.string [100, 105, 115, 99, 97, 114, 100]), .lit (.string [102, 105, 108, 101, 105, 110, 116, 111]), .lit (.string [114, 101, 100, 105, 114, 101, 99, 116]), .lit (.string [114, 101, 106, 101, 99, 116]), .lit (.string [115, 101, 116, 102, 108, 97, 103]), .lit (.string [97, 100, 100, 102, 108, 97, 103]), .lit (.string [115, 116, 111, 112])]
def laid_postroom_script_tests {H : Type} : DataW H := .agg [.lit (.string []), .lit (.string [116, 114, 117, 101]), .lit (.string [102, 97, 108, 115, 101]), .lit (.string [110, 111, 116]), .lit (.string [97, 108, 108, 111, 102]), .lit (.string [97, 110, 121, 111, 102]), .lit (.string [104, 101, 97, 100, 101, 114]), .lit (.string [97, 100, 100, 114, 101, 115, 115]), .lit (.string [101, 110, 118, 101, 108, 111, 112, 101]), .lit (.string [101, 120, 105, 115, 116, 115]), .lit (.string [115, 105, 122, 101])]
def laid_postroom_script_matches {H : Type} : DataW H := .agg [.lit (.string []), .lit (.string [105, 115]), .lit (.string [99, 111, 110, 116, 97, 105, 110, 115]), .lit (.string [109, 97, 116, 99, 104, 101, 115])]
def laid_postroom_script_parts {H : Type} : DataW H := .agg [.lit (.string []), .lit (.string [97, 108, 108]), .lit (.string [108, 111, 99, 97, 108, 112, 97, 114, 116]), .lit (.string [100, 111, 109, 97, 105, 110])]
def laid_postroom_rule_extensions {H : Type} : DataW H := .agg [.lit (.string [102, 105, 108, 101, 105, 110, 116, 111]), .lit (.string [114, 101, 106, 101, 99, 116]), .lit (.string [101, 110, 118, 101, 108, 111, 112, 101]), .lit (.string [105, 109, 97, 112, 52, 102, 108, 97, 103, 115])]
def laid_postroom_rule_names {H : Type} : DataW H := .agg [.lit (.string [92, 83, 101, 101, 110]), .lit (.string [92, 65, 110, 115, 119, 101, 114, 101, 100]), .lit (.string [92, 70, 108, 97, 103, 103, 101, 100]), .lit (.string [92, 68, 101, 108, 101, 116, 101, 100]), .lit (.string [92, 68, 114, 97, 102, 116])]
/-- One of Go's own tables, pinned by name: the form's constant. -/
def laid_unicode_utf8_first : DataW Unit := Go.Pinned.utf8First
def laid_math_bits_deBruijn32tab {H : Type} : DataW H := .agg [.lit (.int .u8 0), .lit (.int .u8 1), .lit (.int .u8 28), .lit (.int .u8 2), .lit (.int .u8 29), .lit (.int .u8 14), .lit (.int .u8 24), .lit (.int .u8 3), .lit (.int .u8 30), .lit (.int .u8 22), .lit (.int .u8 20), .lit (.int .u8 15), .lit (.int .u8 25), .lit (.int .u8 17), .lit (.int .u8 4), .lit (.int .u8 8), .lit (.int .u8 31), .lit (.int .u8 27), .lit (.int .u8 13), .lit (.int .u8 23), .lit (.int .u8 21), .lit (.int .u8 19), .lit (.int .u8 16), .lit (.int .u8 7), .lit (.int .u8 26), .lit (.int .u8 12), .lit (.int .u8 18), .lit (.int .u8 6), .lit (.int .u8 11), .lit (.int .u8 5), .lit (.int .u8 10), .lit (.int .u8 9)]
def laid_math_bits_deBruijn64tab {H : Type} : DataW H := .agg [.lit (.int .u8 0), .lit (.int .u8 1), .lit (.int .u8 56), .lit (.int .u8 2), .lit (.int .u8 57), .lit (.int .u8 49), .lit (.int .u8 28), .lit (.int .u8 3), .lit (.int .u8 61), .lit (.int .u8 58), .lit (.int .u8 42), .lit (.int .u8 50), .lit (.int .u8 38), .lit (.int .u8 29), .lit (.int .u8 17), .lit (.int .u8 4), .lit (.int .u8 62), .lit (.int .u8 47), .lit (.int .u8 59), .lit (.int .u8 36), .lit (.int .u8 45), .lit (.int .u8 43), .lit (.int .u8 51), .lit (.int .u8 22), .lit (.int .u8 53), .lit (.int .u8 39), .lit (.int .u8 33), .lit (.int .u8 30), .lit (.int .u8 24), .lit (.int .u8 18), .lit (.int .u8 12), .lit (.int .u8 5), .lit (.int .u8 63), .lit (.int .u8 55), .lit (.int .u8 48), .lit (.int .u8 27), .lit (.int .u8 60), .lit (.int .u8 41), .lit (.int .u8 37), .lit (.int .u8 16), .lit (.int .u8 46), .lit (.int .u8 35), .lit (.int .u8 44), .lit (.int .u8 21), .lit (.int .u8 52), .lit (.int .u8 32), .lit (.int .u8 23), .lit (.int .u8 11), .lit (.int .u8 54), .lit (.int .u8 26), .lit (.int .u8 40), .lit (.int .u8 15), .lit (.int .u8 34), .lit (.int .u8 20), .lit (.int .u8 31), .lit (.int .u8 10), .lit (.int .u8 25), .lit (.int .u8 14), .lit (.int .u8 19), .lit (.int .u8 9), .lit (.int .u8 13), .lit (.int .u8 8), .lit (.int .u8 7), .lit (.int .u8 6)]
def laid_internal_strconv_uint64pow10 {H : Type} : DataW H := .agg [.lit (.int .u64 1), .lit (.int .u64 10), .lit (.int .u64 100), .lit (.int .u64 1000), .lit (.int .u64 10000), .lit (.int .u64 100000), .lit (.int .u64 1000000), .lit (.int .u64 10000000), .lit (.int .u64 100000000), .lit (.int .u64 1000000000), .lit (.int .u64 10000000000), .lit (.int .u64 100000000000), .lit (.int .u64 1000000000000), .lit (.int .u64 10000000000000), .lit (.int .u64 100000000000000), .lit (.int .u64 1000000000000000), .lit (.int .u64 10000000000000000), .lit (.int .u64 100000000000000000), .lit (.int .u64 1000000000000000000), .lit (.int .u64 10000000000000000000)]
def laid_strconv_ErrRange {H : Type} : DataW H := .iface "*errors.errorString" (.ptr (.agg [.lit (.string [118, 97, 108, 117, 101, 32, 111, 117, 116, 32, 111, 102, 32, 114, 97, 110, 103, 101])]))
def laid_strconv_ErrSyntax {H : Type} : DataW H := .iface "*errors.errorString" (.ptr (.agg [.lit (.string [105, 110, 118, 97, 108, 105, 100, 32, 115, 121, 110, 116, 97, 120])]))

/-- 'postroomlaw.CodeCompiles': WHATEVER THE INPUT: true; the input reads as it did. -/
def codeCompilesSpec : ChangeSpec := { name := "codeCompiles", fn := fun _ => fun
  | [d] => { results := [.lit (.bool true)], args := [d] }
  | _ => none }
def codeCompilesRow : OpenClaim := { program := "ytidldcfpmehpiaagreatdoor", sum := "d053c7b42f5870a558610c79a8f0045b9106e36b3ec8022e3b74c914e5f47945", func := "postroom/postroomlaw.CodeCompiles", spec := "codeCompiles", inPlace := ["internal/bytealg.IndexByteString", "internal/bytealg.CountString", "internal/bytealg.IndexString"], unfollowed := true, recurses := true, named := ["postroom/rule.extensions", "postroom/script.commands", "postroom/script.tests", "postroom/script.parts", "postroom/script.matches", "postroom/rule.names", "unicode/utf8.first", "unicode/utf8.acceptRanges", "internal/bytealg.MaxLen"], loops := true, apart := false, laid := [("unicode/utf8.acceptRanges", laid_unicode_utf8_acceptRanges), ("postroom/script.commands", laid_postroom_script_commands), ("postroom/script.tests", laid_postroom_script_tests), ("postroom/script.matches", laid_postroom_script_matches), ("postroom/script.parts", laid_postroom_script_parts), ("postroom/rule.extensions", laid_postroom_rule_extensions), ("postroom/rule.names", laid_postroom_rule_names), ("unicode/utf8.first", laid_unicode_utf8_first)] }
def CodeCompilesSaid : Prop := codeCompilesRow.holds Tryz.pinned (OpenSpec.ofChange codeCompilesSpec)

/-- ITS FALSE NEIGHBOUR: 'it returns false'. Refute it at one input. -/
def codeCompilesWrong : ChangeSpec := { name := "codeCompiles", fn := fun _ => fun
  | [d] => { results := [.lit (.bool false)], args := [d] }
  | _ => none }
def CodeCompilesWrongFalsely : Prop := codeCompilesRow.holds Tryz.pinned (OpenSpec.ofChange codeCompilesWrong)

/-- 'postroomlaw.JudgeAsks': WHATEVER THE INPUT: true; the input reads as it did. -/
def judgeAsksSpec : ChangeSpec := { name := "judgeAsks", fn := fun _ => fun
  | [d1, d2] => { results := [.lit (.bool true)], args := [d1, d2] }
  | _ => none }
def judgeAsksRow : OpenClaim := { program := "ytidldcfpmehpiaagreatdoor", sum := "d053c7b42f5870a558610c79a8f0045b9106e36b3ec8022e3b74c914e5f47945", func := "postroom/postroomlaw.JudgeAsks", spec := "judgeAsks", inPlace := ["internal/bytealg.IndexByteString", "internal/bytealg.CountString", "internal/bytealg.IndexString"], unfollowed := true, recurses := true, named := ["postroom/rule.extensions", "postroom/script.commands", "postroom/script.tests", "postroom/script.parts", "postroom/script.matches", "postroom/rule.names", "unicode/utf8.first", "unicode/utf8.acceptRanges", "internal/bytealg.MaxLen"], loops := true, apart := false, laid := [("unicode/utf8.acceptRanges", laid_unicode_utf8_acceptRanges), ("postroom/script.commands", laid_postroom_script_commands), ("postroom/script.tests", laid_postroom_script_tests), ("postroom/script.matches", laid_postroom_script_matches), ("postroom/script.parts", laid_postroom_script_parts), ("postroom/rule.extensions", laid_postroom_rule_extensions), ("postroom/rule.names", laid_postroom_rule_names), ("unicode/utf8.first", laid_unicode_utf8_first)] }
def JudgeAsksSaid : Prop := judgeAsksRow.holds Tryz.pinned (OpenSpec.ofChange judgeAsksSpec)

/-- ITS FALSE NEIGHBOUR: 'it returns false'. Refute it at one input. -/
def judgeAsksWrong : ChangeSpec := { name := "judgeAsks", fn := fun _ => fun
  | [d1, d2] => { results := [.lit (.bool false)], args := [d1, d2] }
  | _ => none }
def JudgeAsksWrongFalsely : Prop := judgeAsksRow.holds Tryz.pinned (OpenSpec.ofChange judgeAsksWrong)

/-- 'postroomlaw.JudgeJudges': WHATEVER THE INPUT: true; the input reads as it did. -/
def judgeJudgesSpec : ChangeSpec := { name := "judgeJudges", fn := fun _ => fun
  | [d1, d2] => { results := [.lit (.bool true)], args := [d1, d2] }
  | _ => none }
def judgeJudgesRow : OpenClaim := { program := "ytidldcfpmehpiaagreatdoor", sum := "d053c7b42f5870a558610c79a8f0045b9106e36b3ec8022e3b74c914e5f47945", func := "postroom/postroomlaw.JudgeJudges", spec := "judgeJudges", inPlace := ["internal/bytealg.IndexByteString", "internal/bytealg.CountString", "internal/bytealg.IndexString"], unfollowed := true, recurses := true, named := ["postroom/rule.extensions", "postroom/script.commands", "postroom/script.tests", "postroom/script.parts", "postroom/script.matches", "postroom/rule.names", "unicode/utf8.first", "unicode/utf8.acceptRanges", "internal/bytealg.MaxLen"], loops := true, apart := false, laid := [("unicode/utf8.acceptRanges", laid_unicode_utf8_acceptRanges), ("postroom/script.commands", laid_postroom_script_commands), ("postroom/script.tests", laid_postroom_script_tests), ("postroom/script.matches", laid_postroom_script_matches), ("postroom/script.parts", laid_postroom_script_parts), ("postroom/rule.extensions", laid_postroom_rule_extensions), ("postroom/rule.names", laid_postroom_rule_names), ("unicode/utf8.first", laid_unicode_utf8_first)] }
def JudgeJudgesSaid : Prop := judgeJudgesRow.holds Tryz.pinned (OpenSpec.ofChange judgeJudgesSpec)

/-- ITS FALSE NEIGHBOUR: 'it returns false'. Refute it at one input. -/
def judgeJudgesWrong : ChangeSpec := { name := "judgeJudges", fn := fun _ => fun
  | [d1, d2] => { results := [.lit (.bool false)], args := [d1, d2] }
  | _ => none }
def JudgeJudgesWrongFalsely : Prop := judgeJudgesRow.holds Tryz.pinned (OpenSpec.ofChange judgeJudgesWrong)

/-- 'postroomlaw.DeliverDelivers': WHATEVER THE INPUT: true; the input reads as it did. -/
def deliverDeliversSpec : ChangeSpec := { name := "deliverDelivers", fn := fun _ => fun
  | [d1, d2, d3] => { results := [.lit (.bool true)], args := [d1, d2, d3] }
  | _ => none }
def deliverDeliversRow : OpenClaim := { program := "ytidldcfpmehpiaagreatdoor", sum := "d053c7b42f5870a558610c79a8f0045b9106e36b3ec8022e3b74c914e5f47945", func := "postroom/postroomlaw.DeliverDelivers", spec := "deliverDelivers", inPlace := ["internal/bytealg.IndexByteString", "internal/bytealg.CountString", "internal/bytealg.IndexString"], unfollowed := true, recurses := true, named := ["unicode/utf8.first", "unicode/utf8.acceptRanges", "internal/bytealg.MaxLen", "postroom/rule.extensions", "postroom/script.commands", "postroom/script.tests", "postroom/script.parts", "postroom/script.matches", "postroom/rule.names"], loops := true, apart := false, laid := [("unicode/utf8.acceptRanges", laid_unicode_utf8_acceptRanges), ("postroom/script.commands", laid_postroom_script_commands), ("postroom/script.tests", laid_postroom_script_tests), ("postroom/script.matches", laid_postroom_script_matches), ("postroom/script.parts", laid_postroom_script_parts), ("postroom/rule.extensions", laid_postroom_rule_extensions), ("postroom/rule.names", laid_postroom_rule_names), ("unicode/utf8.first", laid_unicode_utf8_first)] }
def DeliverDeliversSaid : Prop := deliverDeliversRow.holds Tryz.pinned (OpenSpec.ofChange deliverDeliversSpec)

/-- ITS FALSE NEIGHBOUR: 'it returns false'. Refute it at one input. -/
def deliverDeliversWrong : ChangeSpec := { name := "deliverDelivers", fn := fun _ => fun
  | [d1, d2, d3] => { results := [.lit (.bool false)], args := [d1, d2, d3] }
  | _ => none }
def DeliverDeliversWrongFalsely : Prop := deliverDeliversRow.holds Tryz.pinned (OpenSpec.ofChange deliverDeliversWrong)

/-- 'postroomlaw.RuleReads': WHATEVER THE INPUT: true; the input reads as it did. -/
def ruleReadsSpec : ChangeSpec := { name := "ruleReads", fn := fun _ => fun
  | [d] => { results := [.lit (.bool true)], args := [d] }
  | _ => none }
def ruleReadsRow : OpenClaim := { program := "ytidldcfpmehpiaagreatdoor", sum := "d053c7b42f5870a558610c79a8f0045b9106e36b3ec8022e3b74c914e5f47945", func := "postroom/postroomlaw.RuleReads", spec := "ruleReads", inPlace := ["internal/bytealg.IndexByteString", "internal/bytealg.IndexString", "internal/bytealg.CountString"], unfollowed := true, recurses := true, named := ["internal/bytealg.MaxLen", "strconv.ErrSyntax", "strconv.ErrRange", "internal/strconv.uint64pow10", "math/bits.deBruijn32tab", "math/bits.deBruijn64tab", "postroom/script.commands", "postroom/script.tests", "postroom/script.matches", "postroom/script.parts", "postroom/rule.extensions", "postroom/rule.names", "unicode/utf8.first", "unicode/utf8.acceptRanges"], apart := false, laid := [("math/bits.deBruijn32tab", laid_math_bits_deBruijn32tab), ("math/bits.deBruijn64tab", laid_math_bits_deBruijn64tab), ("internal/strconv.uint64pow10", laid_internal_strconv_uint64pow10), ("unicode/utf8.acceptRanges", laid_unicode_utf8_acceptRanges), ("strconv.ErrRange", laid_strconv_ErrRange), ("strconv.ErrSyntax", laid_strconv_ErrSyntax), ("postroom/script.commands", laid_postroom_script_commands), ("postroom/script.tests", laid_postroom_script_tests), ("postroom/script.matches", laid_postroom_script_matches), ("postroom/script.parts", laid_postroom_script_parts), ("postroom/rule.extensions", laid_postroom_rule_extensions), ("postroom/rule.names", laid_postroom_rule_names), ("unicode/utf8.first", laid_unicode_utf8_first)] }
def RuleReadsSaid : Prop := ruleReadsRow.holds Tryz.pinned (OpenSpec.ofChange ruleReadsSpec)

/-- ITS FALSE NEIGHBOUR: 'it returns false'. Refute it at one input. -/
def ruleReadsWrong : ChangeSpec := { name := "ruleReads", fn := fun _ => fun
  | [d] => { results := [.lit (.bool false)], args := [d] }
  | _ => none }
def RuleReadsWrongFalsely : Prop := ruleReadsRow.holds Tryz.pinned (OpenSpec.ofChange ruleReadsWrong)

/- THE SECOND FORM. 'bulk': how many values and letters a reading holds, each counted each time it is reached (what is shared counts as often as it is met; a slice's spare places count too). A statement '..UptoSaid' is the law's where the arguments, and the package variables that the reading takes, are together of bulk at most 1048576: NARROWER than '..Said'. Prove '..Said' where nothing that the law and all that it calls make is longer than what came in: it says more and counts as full. Else prove '..UptoSaid'. A law counts once. -/
mutual
def uptoBulk {H : Type} : DataW H → Nat
  | .lit (.string bytes) => bytes.length + 1
  | .lit _ => 1
  | .nil => 1
  | .ptr d => uptoBulk d + 1
  | .slice elems spare => uptoBulkAll elems + uptoBulkAll spare + 1
  | .agg parts => uptoBulkAll parts + 1
  | .iface _ d => uptoBulk d + 1
  | .map entries => uptoBulkEntries entries + 1
  | .held _ => 1
def uptoBulkAll {H : Type} : List (DataW H) → Nat
  | [] => 0
  | d :: r => uptoBulk d + uptoBulkAll r
def uptoBulkEntries {H : Type} : List (Lit × DataW H) → Nat
  | [] => 0
  | x :: r => uptoBulkEntry x + uptoBulkEntries r
def uptoBulkEntry {H : Type} : Lit × DataW H → Nat
  | (.string bytes, d) => bytes.length + uptoBulk d + 1
  | (_, d) => uptoBulk d + 1
 end
def uptoSmall : (H : Type) → List (DataW H) → Bool := fun _ ds => decide (uptoBulkAll ds ≤ 1048576)
def OpenSpec.upto (s : _root_.Go.ChangeSpec) : _root_.Go.OpenSpec := { _root_.Go.OpenSpec.ofChange s with cond := some uptoSmall }

/-- 'postroomlaw.CodeCompiles', WHERE WHAT IT READS IS OF BULK AT MOST 1048576: true; the input reads as it did. -/
def codeCompilesUptoRow : OpenClaim := { program := "ytidldcfpmehpiaagreatdoor", sum := "d053c7b42f5870a558610c79a8f0045b9106e36b3ec8022e3b74c914e5f47945", func := "postroom/postroomlaw.CodeCompiles", spec := "codeCompiles", inPlace := ["internal/bytealg.IndexByteString", "internal/bytealg.CountString", "internal/bytealg.IndexString"], unfollowed := true, recurses := true, named := ["postroom/rule.extensions", "postroom/script.commands", "postroom/script.tests", "postroom/script.parts", "postroom/script.matches", "postroom/rule.names", "unicode/utf8.first", "unicode/utf8.acceptRanges", "internal/bytealg.MaxLen"], loops := true, apart := false, laid := [("unicode/utf8.acceptRanges", laid_unicode_utf8_acceptRanges), ("postroom/script.commands", laid_postroom_script_commands), ("postroom/script.tests", laid_postroom_script_tests), ("postroom/script.matches", laid_postroom_script_matches), ("postroom/script.parts", laid_postroom_script_parts), ("postroom/rule.extensions", laid_postroom_rule_extensions), ("postroom/rule.names", laid_postroom_rule_names), ("unicode/utf8.first", laid_unicode_utf8_first)], narrowed := true }
def CodeCompilesUptoSaid : Prop := codeCompilesUptoRow.holds Tryz.pinned (OpenSpec.upto codeCompilesSpec)

/-- 'postroomlaw.JudgeAsks', WHERE WHAT IT READS IS OF BULK AT MOST 1048576: true; the input reads as it did. -/
def judgeAsksUptoRow : OpenClaim := { program := "ytidldcfpmehpiaagreatdoor", sum := "d053c7b42f5870a558610c79a8f0045b9106e36b3ec8022e3b74c914e5f47945", func := "postroom/postroomlaw.JudgeAsks", spec := "judgeAsks", inPlace := ["internal/bytealg.IndexByteString", "internal/bytealg.CountString", "internal/bytealg.IndexString"], unfollowed := true, recurses := true, named := ["postroom/rule.extensions", "postroom/script.commands", "postroom/script.tests", "postroom/script.parts", "postroom/script.matches", "postroom/rule.names", "unicode/utf8.first", "unicode/utf8.acceptRanges", "internal/bytealg.MaxLen"], loops := true, apart := false, laid := [("unicode/utf8.acceptRanges", laid_unicode_utf8_acceptRanges), ("postroom/script.commands", laid_postroom_script_commands), ("postroom/script.tests", laid_postroom_script_tests), ("postroom/script.matches", laid_postroom_script_matches), ("postroom/script.parts", laid_postroom_script_parts), ("postroom/rule.extensions", laid_postroom_rule_extensions), ("postroom/rule.names", laid_postroom_rule_names), ("unicode/utf8.first", laid_unicode_utf8_first)], narrowed := true }
def JudgeAsksUptoSaid : Prop := judgeAsksUptoRow.holds Tryz.pinned (OpenSpec.upto judgeAsksSpec)

/-- 'postroomlaw.JudgeJudges', WHERE WHAT IT READS IS OF BULK AT MOST 1048576: true; the input reads as it did. -/
def judgeJudgesUptoRow : OpenClaim := { program := "ytidldcfpmehpiaagreatdoor", sum := "d053c7b42f5870a558610c79a8f0045b9106e36b3ec8022e3b74c914e5f47945", func := "postroom/postroomlaw.JudgeJudges", spec := "judgeJudges", inPlace := ["internal/bytealg.IndexByteString", "internal/bytealg.CountString", "internal/bytealg.IndexString"], unfollowed := true, recurses := true, named := ["postroom/rule.extensions", "postroom/script.commands", "postroom/script.tests", "postroom/script.parts", "postroom/script.matches", "postroom/rule.names", "unicode/utf8.first", "unicode/utf8.acceptRanges", "internal/bytealg.MaxLen"], loops := true, apart := false, laid := [("unicode/utf8.acceptRanges", laid_unicode_utf8_acceptRanges), ("postroom/script.commands", laid_postroom_script_commands), ("postroom/script.tests", laid_postroom_script_tests), ("postroom/script.matches", laid_postroom_script_matches), ("postroom/script.parts", laid_postroom_script_parts), ("postroom/rule.extensions", laid_postroom_rule_extensions), ("postroom/rule.names", laid_postroom_rule_names), ("unicode/utf8.first", laid_unicode_utf8_first)], narrowed := true }
def JudgeJudgesUptoSaid : Prop := judgeJudgesUptoRow.holds Tryz.pinned (OpenSpec.upto judgeJudgesSpec)

/-- 'postroomlaw.DeliverDelivers', WHERE WHAT IT READS IS OF BULK AT MOST 1048576: true; the input reads as it did. -/
def deliverDeliversUptoRow : OpenClaim := { program := "ytidldcfpmehpiaagreatdoor", sum := "d053c7b42f5870a558610c79a8f0045b9106e36b3ec8022e3b74c914e5f47945", func := "postroom/postroomlaw.DeliverDelivers", spec := "deliverDelivers", inPlace := ["internal/bytealg.IndexByteString", "internal/bytealg.CountString", "internal/bytealg.IndexString"], unfollowed := true, recurses := true, named := ["unicode/utf8.first", "unicode/utf8.acceptRanges", "internal/bytealg.MaxLen", "postroom/rule.extensions", "postroom/script.commands", "postroom/script.tests", "postroom/script.parts", "postroom/script.matches", "postroom/rule.names"], loops := true, apart := false, laid := [("unicode/utf8.acceptRanges", laid_unicode_utf8_acceptRanges), ("postroom/script.commands", laid_postroom_script_commands), ("postroom/script.tests", laid_postroom_script_tests), ("postroom/script.matches", laid_postroom_script_matches), ("postroom/script.parts", laid_postroom_script_parts), ("postroom/rule.extensions", laid_postroom_rule_extensions), ("postroom/rule.names", laid_postroom_rule_names), ("unicode/utf8.first", laid_unicode_utf8_first)], narrowed := true }
def DeliverDeliversUptoSaid : Prop := deliverDeliversUptoRow.holds Tryz.pinned (OpenSpec.upto deliverDeliversSpec)

/-- 'postroomlaw.RuleReads', WHERE WHAT IT READS IS OF BULK AT MOST 1048576: true; the input reads as it did. -/
def ruleReadsUptoRow : OpenClaim := { program := "ytidldcfpmehpiaagreatdoor", sum := "d053c7b42f5870a558610c79a8f0045b9106e36b3ec8022e3b74c914e5f47945", func := "postroom/postroomlaw.RuleReads", spec := "ruleReads", inPlace := ["internal/bytealg.IndexByteString", "internal/bytealg.IndexString", "internal/bytealg.CountString"], unfollowed := true, recurses := true, named := ["internal/bytealg.MaxLen", "strconv.ErrSyntax", "strconv.ErrRange", "internal/strconv.uint64pow10", "math/bits.deBruijn32tab", "math/bits.deBruijn64tab", "postroom/script.commands", "postroom/script.tests", "postroom/script.matches", "postroom/script.parts", "postroom/rule.extensions", "postroom/rule.names", "unicode/utf8.first", "unicode/utf8.acceptRanges"], apart := false, laid := [("math/bits.deBruijn32tab", laid_math_bits_deBruijn32tab), ("math/bits.deBruijn64tab", laid_math_bits_deBruijn64tab), ("internal/strconv.uint64pow10", laid_internal_strconv_uint64pow10), ("unicode/utf8.acceptRanges", laid_unicode_utf8_acceptRanges), ("strconv.ErrRange", laid_strconv_ErrRange), ("strconv.ErrSyntax", laid_strconv_ErrSyntax), ("postroom/script.commands", laid_postroom_script_commands), ("postroom/script.tests", laid_postroom_script_tests), ("postroom/script.matches", laid_postroom_script_matches), ("postroom/script.parts", laid_postroom_script_parts), ("postroom/rule.extensions", laid_postroom_rule_extensions), ("postroom/rule.names", laid_postroom_rule_names), ("unicode/utf8.first", laid_unicode_utf8_first)], narrowed := true }
def RuleReadsUptoSaid : Prop := ruleReadsUptoRow.holds Tryz.pinned (OpenSpec.upto ruleReadsSpec)

end Rows
end Go.Proofs.YtidldcfpmehpiaaGreatDoor
