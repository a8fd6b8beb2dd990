/-
  NARROWER THAN 'FOR EVERY INPUT', by the rows' own cells (each row's printed sentence says how): TermsChecks: laid · TermsParses: laid · TermsRuns: laid · TermsPrints: laid · TermsBlanks: laid · TermsSound: laid · TermsKept: laid · TermsFuel: laid · TermsTurned: laid.
  DERIVED. THE GIVEN ROWS OF THIS SEAT. 9 by the template 'for every input the law returns true; each argument reads behind the call as it read before'; 0 by the template 'total and deterministic' (their statements: YtocbblafgjpbeaaDoorTotals.lean).
  GIVEN WITH THE SEED: the statements are not yours to turn. If you find one false, say at which input.
  Laid BY PROGRAM, IN A SANDBOX (cutbox-rows.mjs): the forced cells as the released guide's own fill.sh prints them over the translation 8fe0cc9feff225cf… (all of the seat's roots in one cut). By AI agents, Wed Nov 11 2026. No macro, syntax, notation, axiom, sorry.
-/
import Derived.Test.YtocbblafgjpbeaaDoorChecked
import GoSem.Claim
import GoSem.ClaimJoined
import GoSem.ClaimMapViews
import Derived.JoinedTies
import Derived.KernelRfl
namespace Go.Proofs.YtocbblafgjpbeaaDoor
/- THE CELL 'sum', in the pinned program and in every row, IS THE sha256 OF THE DUMP (.gsa) THAT YtocbblafgjpbeaaDoorProg.lean LOADS. Nothing in Lean hashes anything: it is a label: what it is worth is what the hold of that sum in a sandbox is worth. -/
noncomputable def Tryd.pinned : Pinned := { name := "ytocbblafgjpbeaadoor", sum := "8fe0cc9feff225cfac574427db800bcc0ae65ece6042e2a1277cc163c3beac05", checked := Tryd.checked }
namespace Rows
def none {H : Type} : Left H := { results := [], args := [] }

/- WHAT THE LISTED PACKAGE-LEVEL VARIABLES READ AS WHEN THE CALL BEGINS. Each datum BY PROGRAM (the guide's laid-datum.mjs) off the statement by which the dump's own 'gosem.cut.vars' lays the variable. In a bare row this is a premise. The card (YtocbblafgjpbeaaDoorCards.lean) ties it to the program's text. -/
def laid_quorum_quorumref3_keywords {H : Type} : DataW H := .agg [.lit (.string [111, 110]), .lit (.string [102, 117, 110, 100]), .lit (.string [114, 101, 108, 101, 97, 115, 101]), .lit (.string [100, 105, 115, 112, 117, 116, 101]), .lit (.string [97, 114, 98, 105, 116, 114, 97, 116, 101]), .lit (.string [114, 101, 102, 117, 110, 100]), .lit (.string [101, 120, 112, 105, 114, 101]), .lit (.string [108, 101, 116]), .lit (.string [115, 101, 116]), .lit (.string [105, 102]), .lit (.string [101, 108, 115, 101]), .lit (.string [119, 104, 105, 108, 101]), .lit (.string [98, 114, 101, 97, 107]), .lit (.string [99, 111, 110, 116, 105, 110, 117, 101]), .lit (.string [114, 101, 113, 117, 105, 114, 101]), .lit (.string [112, 97, 121]), .lit (.string [116, 111]), .lit (.string [102, 97, 105, 108]), .lit (.string [100, 111, 110, 101]), .lit (.string [116, 114, 117, 101]), .lit (.string [102, 97, 108, 115, 101]), .lit (.string [110, 111, 116]), .lit (.string [97, 110, 100]), .lit (.string [111, 114]), .lit (.string [109, 105, 110]), .lit (.string [109, 97, 120]), .lit (.string [115, 104, 97, 114, 101]), .lit (.string [])]
def laid_quorum_terms_keywords {H : Type} : DataW H := .agg [.lit (.string [111, 110]), .lit (.string [102, 117, 110, 100]), .lit (.string [114, 101, 108, 101, 97, 115, 101]), .lit (.string [100, 105, 115, 112, 117, 116, 101]), .lit (.string [97, 114, 98, 105, 116, 114, 97, 116, 101]), .lit (.string [114, 101, 102, 117, 110, 100]), .lit (.string [101, 120, 112, 105, 114, 101]), .lit (.string [108, 101, 116]), .lit (.string [115, 101, 116]), .lit (.string [105, 102]), .lit (.string [101, 108, 115, 101]), .lit (.string [119, 104, 105, 108, 101]), .lit (.string [98, 114, 101, 97, 107]), .lit (.string [99, 111, 110, 116, 105, 110, 117, 101]), .lit (.string [114, 101, 113, 117, 105, 114, 101]), .lit (.string [112, 97, 121]), .lit (.string [116, 111]), .lit (.string [102, 97, 105, 108]), .lit (.string [100, 111, 110, 101]), .lit (.string [116, 114, 117, 101]), .lit (.string [102, 97, 108, 115, 101]), .lit (.string [110, 111, 116]), .lit (.string [97, 110, 100]), .lit (.string [111, 114]), .lit (.string [109, 105, 110]), .lit (.string [109, 97, 120]), .lit (.string [115, 104, 97, 114, 101])]
def laid_quorum_terms_shapes {H : Type} : DataW H := .agg [.agg [.lit (.int .i64 0), .lit (.int .u64 0), .lit (.int .u64 0), .lit (.int .i64 0)], .agg [.lit (.int .i64 0), .lit (.int .u64 1), .lit (.int .u64 18446744073709551615), .lit (.int .i64 0)], .agg [.lit (.int .i64 1), .lit (.int .u64 0), .lit (.int .u64 5), .lit (.int .i64 0)], .agg [.lit (.int .i64 2), .lit (.int .u64 0), .lit (.int .u64 18446744073709551615), .lit (.int .i64 0)], .agg [.lit (.int .i64 3), .lit (.int .u64 0), .lit (.int .u64 0), .lit (.int .i64 1)], .agg [.lit (.int .i64 3), .lit (.int .u64 0), .lit (.int .u64 0), .lit (.int .i64 1)], .agg [.lit (.int .i64 3), .lit (.int .u64 0), .lit (.int .u64 0), .lit (.int .i64 0)], .agg [.lit (.int .i64 3), .lit (.int .u64 0), .lit (.int .u64 0), .lit (.int .i64 2)], .agg [.lit (.int .i64 3), .lit (.int .u64 0), .lit (.int .u64 0), .lit (.int .i64 2)], .agg [.lit (.int .i64 3), .lit (.int .u64 0), .lit (.int .u64 0), .lit (.int .i64 2)], .agg [.lit (.int .i64 3), .lit (.int .u64 1), .lit (.int .u64 999), .lit (.int .i64 0)], .agg [.lit (.int .i64 3), .lit (.int .u64 0), .lit (.int .u64 0), .lit (.int .i64 0)], .agg [.lit (.int .i64 3), .lit (.int .u64 1), .lit (.int .u64 999), .lit (.int .i64 0)], .agg [.lit (.int .i64 3), .lit (.int .u64 0), .lit (.int .u64 0), .lit (.int .i64 0)], .agg [.lit (.int .i64 4), .lit (.int .u64 0), .lit (.int .u64 18446744073709551615), .lit (.int .i64 0)], .agg [.lit (.int .i64 4), .lit (.int .u64 0), .lit (.int .u64 0), .lit (.int .i64 0)], .agg [.lit (.int .i64 4), .lit (.int .u64 0), .lit (.int .u64 0), .lit (.int .i64 0)], .agg [.lit (.int .i64 4), .lit (.int .u64 0), .lit (.int .u64 0), .lit (.int .i64 1)], .agg [.lit (.int .i64 4), .lit (.int .u64 0), .lit (.int .u64 0), .lit (.int .i64 0)], .agg [.lit (.int .i64 4), .lit (.int .u64 0), .lit (.int .u64 12), .lit (.int .i64 0)], .agg [.lit (.int .i64 4), .lit (.int .u64 0), .lit (.int .u64 2), .lit (.int .i64 0)]]
def laid_quorum_quorumref3_Events {H : Type} : DataW H := .agg [.lit (.string [102, 117, 110, 100]), .lit (.string [114, 101, 108, 101, 97, 115, 101]), .lit (.string [100, 105, 115, 112, 117, 116, 101]), .lit (.string [97, 114, 98, 105, 116, 114, 97, 116, 101]), .lit (.string [114, 101, 102, 117, 110, 100]), .lit (.string [101, 120, 112, 105, 114, 101])]
def laid_quorum_quorumref3_Operators {H : Type} : DataW H := .agg [.lit (.string [111, 114]), .lit (.string [97, 110, 100]), .lit (.string [61, 61]), .lit (.string [33, 61]), .lit (.string [60]), .lit (.string [60, 61]), .lit (.string [62]), .lit (.string [62, 61]), .lit (.string [43]), .lit (.string [45]), .lit (.string [42]), .lit (.string [47]), .lit (.string [37])]
def laid_quorum_quorumref3_binds {H : Type} : DataW H := .agg [.lit (.int .i64 1), .lit (.int .i64 2), .lit (.int .i64 4), .lit (.int .i64 4), .lit (.int .i64 4), .lit (.int .i64 4), .lit (.int .i64 4), .lit (.int .i64 4), .lit (.int .i64 5), .lit (.int .i64 5), .lit (.int .i64 6), .lit (.int .i64 6), .lit (.int .i64 6)]
def laid_quorum_quorumref3_Functions {H : Type} : DataW H := .agg [.lit (.string [109, 105, 110]), .lit (.string [109, 97, 120]), .lit (.string [115, 104, 97, 114, 101])]
def laid_quorum_quorumref3_marks {H : Type} : DataW H := .agg [.lit (.string [61, 61]), .lit (.string [33, 61]), .lit (.string [60, 61]), .lit (.string [62, 61]), .lit (.string [123]), .lit (.string [125]), .lit (.string [40]), .lit (.string [41]), .lit (.string [44]), .lit (.string [59]), .lit (.string [58]), .lit (.string [61]), .lit (.string [60]), .lit (.string [62]), .lit (.string [43]), .lit (.string [45]), .lit (.string [42]), .lit (.string [47]), .lit (.string [37])]
def laid_quorum_terms_marks {H : Type} : DataW H := .agg [.lit (.string [61, 61]), .lit (.string [33, 61]), .lit (.string [60, 61]), .lit (.string [62, 61]), .lit (.string [123]), .lit (.string [125]), .lit (.string [40]), .lit (.string [41]), .lit (.string [44]), .lit (.string [59]), .lit (.string [58]), .lit (.string [61]), .lit (.string [60]), .lit (.string [62]), .lit (.string [43]), .lit (.string [45]), .lit (.string [42]), .lit (.string [47]), .lit (.string [37])]
def laid_quorum_terms_binds {H : Type} : DataW H := .agg [.agg [.lit (.string [111, 114]), .lit (.int .i64 1), .lit (.int .u64 0)], .agg [.lit (.string [97, 110, 100]), .lit (.int .i64 2), .lit (.int .u64 1)], .agg [.lit (.string [61, 61]), .lit (.int .i64 4), .lit (.int .u64 2)], .agg [.lit (.string [33, 61]), .lit (.int .i64 4), .lit (.int .u64 3)], .agg [.lit (.string [60]), .lit (.int .i64 4), .lit (.int .u64 4)], .agg [.lit (.string [60, 61]), .lit (.int .i64 4), .lit (.int .u64 5)], .agg [.lit (.string [62]), .lit (.int .i64 4), .lit (.int .u64 6)], .agg [.lit (.string [62, 61]), .lit (.int .i64 4), .lit (.int .u64 7)], .agg [.lit (.string [43]), .lit (.int .i64 5), .lit (.int .u64 8)], .agg [.lit (.string [45]), .lit (.int .i64 5), .lit (.int .u64 9)], .agg [.lit (.string [42]), .lit (.int .i64 6), .lit (.int .u64 10)], .agg [.lit (.string [47]), .lit (.int .i64 6), .lit (.int .u64 11)], .agg [.lit (.string [37]), .lit (.int .i64 6), .lit (.int .u64 12)]]
def laid_math_bits_deBruijn32tab {H : Type} : DataW H := .agg [.lit (.int .u8 0), .lit (.int .u8 1), .lit (.int .u8 28), .lit (.int .u8 2), .lit (.int .u8 29), .lit (.int .u8 14), .lit (.int .u8 24), .lit (.int .u8 3), .lit (.int .u8 30), .lit (.int .u8 22), .lit (.int .u8 20), .lit (.int .u8 15), .lit (.int .u8 25), .lit (.int .u8 17), .lit (.int .u8 4), .lit (.int .u8 8), .lit (.int .u8 31), .lit (.int .u8 27), .lit (.int .u8 13), .lit (.int .u8 23), .lit (.int .u8 21), .lit (.int .u8 19), .lit (.int .u8 16), .lit (.int .u8 7), .lit (.int .u8 26), .lit (.int .u8 12), .lit (.int .u8 18), .lit (.int .u8 6), .lit (.int .u8 11), .lit (.int .u8 5), .lit (.int .u8 10), .lit (.int .u8 9)]
def laid_math_bits_deBruijn64tab {H : Type} : DataW H := .agg [.lit (.int .u8 0), .lit (.int .u8 1), .lit (.int .u8 56), .lit (.int .u8 2), .lit (.int .u8 57), .lit (.int .u8 49), .lit (.int .u8 28), .lit (.int .u8 3), .lit (.int .u8 61), .lit (.int .u8 58), .lit (.int .u8 42), .lit (.int .u8 50), .lit (.int .u8 38), .lit (.int .u8 29), .lit (.int .u8 17), .lit (.int .u8 4), .lit (.int .u8 62), .lit (.int .u8 47), .lit (.int .u8 59), .lit (.int .u8 36), .lit (.int .u8 45), .lit (.int .u8 43), .lit (.int .u8 51), .lit (.int .u8 22), .lit (.int .u8 53), .lit (.int .u8 39), .lit (.int .u8 33), .lit (.int .u8 30), .lit (.int .u8 24), .lit (.int .u8 18), .lit (.int .u8 12), .lit (.int .u8 5), .lit (.int .u8 63), .lit (.int .u8 55), .lit (.int .u8 48), .lit (.int .u8 27), .lit (.int .u8 60), .lit (.int .u8 41), .lit (.int .u8 37), .lit (.int .u8 16), .lit (.int .u8 46), .lit (.int .u8 35), .lit (.int .u8 44), .lit (.int .u8 21), .lit (.int .u8 52), .lit (.int .u8 32), .lit (.int .u8 23), .lit (.int .u8 11), .lit (.int .u8 54), .lit (.int .u8 26), .lit (.int .u8 40), .lit (.int .u8 15), .lit (.int .u8 34), .lit (.int .u8 20), .lit (.int .u8 31), .lit (.int .u8 10), .lit (.int .u8 25), .lit (.int .u8 14), .lit (.int .u8 19), .lit (.int .u8 9), .lit (.int .u8 13), .lit (.int .u8 8), .lit (.int .u8 7), .lit (.int .u8 6)]
def laid_internal_strconv_uint64pow10 {H : Type} : DataW H := .agg [.lit (.int .u64 1), .lit (.int .u64 10), .lit (.int .u64 100), .lit (.int .u64 1000), .lit (.int .u64 10000), .lit (.int .u64 100000), .lit (.int .u64 1000000), .lit (.int .u64 10000000), .lit (.int .u64 100000000), .lit (.int .u64 1000000000), .lit (.int .u64 10000000000), .lit (.int .u64 100000000000), .lit (.int .u64 1000000000000), .lit (.int .u64 10000000000000), .lit (.int .u64 100000000000000), .lit (.int .u64 1000000000000000), .lit (.int .u64 10000000000000000), .lit (.int .u64 100000000000000000), .lit (.int .u64 1000000000000000000), .lit (.int .u64 10000000000000000000)]
def laid_quorum_terms_events {H : Type} : DataW H := .agg [.lit (.string [102, 117, 110, 100]), .lit (.string [114, 101, 108, 101, 97, 115, 101]), .lit (.string [100, 105, 115, 112, 117, 116, 101]), .lit (.string [97, 114, 98, 105, 116, 114, 97, 116, 101]), .lit (.string [114, 101, 102, 117, 110, 100]), .lit (.string [101, 120, 112, 105, 114, 101])]
def laid_quorum_quorumlaw3_gaps {H : Type} : DataW H := .agg [.lit (.string [32]), .lit (.string [10]), .lit (.string [9]), .lit (.string [13, 10]), .lit (.string [32, 32]), .lit (.string [32, 35, 32, 120, 59, 32, 125, 10]), .lit (.string [10, 35, 10]), .lit (.string [35, 111, 110, 32, 102, 117, 110, 100, 32, 123, 10, 9])]

/-- 'quorumlaw3.TermsChecks': WHATEVER THE INPUT: true; the input reads as it did. -/
def termsChecksSpec : ChangeSpec := { name := "termsChecks", fn := fun _ => fun
  | [d] => { results := [.lit (.bool true)], args := [d] }
  | _ => none }
def termsChecksRow : OpenClaim := { program := "ytocbblafgjpbeaadoor", sum := "8fe0cc9feff225cfac574427db800bcc0ae65ece6042e2a1277cc163c3beac05", func := "quorum/quorumlaw3.TermsChecks", spec := "termsChecks", unfollowed := true, recurses := true, named := ["quorum/terms.shapes", "quorum/terms.keywords", "quorum/quorumref3.keywords"], apart := false, laid := [("quorum/quorumref3.keywords", laid_quorum_quorumref3_keywords), ("quorum/terms.keywords", laid_quorum_terms_keywords), ("quorum/terms.shapes", laid_quorum_terms_shapes)] }
def TermsChecksSaid : Prop := termsChecksRow.holds Tryd.pinned (OpenSpec.ofChange termsChecksSpec)

/-- ITS FALSE NEIGHBOUR: 'it returns false'. Refute it at one input. -/
def termsChecksWrong : ChangeSpec := { name := "termsChecks", fn := fun _ => fun
  | [d] => { results := [.lit (.bool false)], args := [d] }
  | _ => none }
def TermsChecksWrongFalsely : Prop := termsChecksRow.holds Tryd.pinned (OpenSpec.ofChange termsChecksWrong)

/-- 'quorumlaw3.TermsParses': WHATEVER THE INPUT: true; the input reads as it did. -/
def termsParsesSpec : ChangeSpec := { name := "termsParses", fn := fun _ => fun
  | [d1, d2] => { results := [.lit (.bool true)], args := [d1, d2] }
  | _ => none }
def termsParsesRow : OpenClaim := { program := "ytocbblafgjpbeaadoor", sum := "8fe0cc9feff225cfac574427db800bcc0ae65ece6042e2a1277cc163c3beac05", func := "quorum/quorumlaw3.TermsParses", spec := "termsParses", inPlace := ["math/bits.Add64"], unfollowed := true, recurses := true, named := ["quorum/terms.marks", "quorum/terms.keywords", "quorum/terms.binds", "quorum/quorumref3.keywords", "quorum/quorumref3.marks", "quorum/quorumref3.Events", "quorum/quorumref3.Functions", "quorum/quorumref3.Operators", "quorum/quorumref3.binds"], apart := false, laid := [("quorum/quorumref3.Events", laid_quorum_quorumref3_Events), ("quorum/quorumref3.Operators", laid_quorum_quorumref3_Operators), ("quorum/quorumref3.binds", laid_quorum_quorumref3_binds), ("quorum/quorumref3.Functions", laid_quorum_quorumref3_Functions), ("quorum/quorumref3.keywords", laid_quorum_quorumref3_keywords), ("quorum/quorumref3.marks", laid_quorum_quorumref3_marks), ("quorum/terms.keywords", laid_quorum_terms_keywords), ("quorum/terms.marks", laid_quorum_terms_marks), ("quorum/terms.binds", laid_quorum_terms_binds)] }
def TermsParsesSaid : Prop := termsParsesRow.holds Tryd.pinned (OpenSpec.ofChange termsParsesSpec)

/-- ITS FALSE NEIGHBOUR: 'it returns false'. Refute it at one input. -/
def termsParsesWrong : ChangeSpec := { name := "termsParses", fn := fun _ => fun
  | [d1, d2] => { results := [.lit (.bool false)], args := [d1, d2] }
  | _ => none }
def TermsParsesWrongFalsely : Prop := termsParsesRow.holds Tryd.pinned (OpenSpec.ofChange termsParsesWrong)

/-- 'quorumlaw3.TermsRuns': WHATEVER THE INPUT: true; the input reads as it did. -/
def termsRunsSpec : ChangeSpec := { name := "termsRuns", fn := fun _ => fun
  | [d1, d2, d3, d4] => { results := [.lit (.bool true)], args := [d1, d2, d3, d4] }
  | _ => none }
def termsRunsRow : OpenClaim := { program := "ytocbblafgjpbeaadoor", sum := "8fe0cc9feff225cfac574427db800bcc0ae65ece6042e2a1277cc163c3beac05", func := "quorum/quorumlaw3.TermsRuns", spec := "termsRuns", inPlace := ["math/bits.Add64", "math/bits.Sub64"], unfollowed := true, recurses := true, named := ["quorum/terms.shapes", "quorum/terms.keywords", "math/bits.divideError", "math/bits.overflowError", "quorum/quorumref3.keywords"], apart := false, laid := [("quorum/quorumref3.keywords", laid_quorum_quorumref3_keywords), ("quorum/terms.keywords", laid_quorum_terms_keywords), ("quorum/terms.shapes", laid_quorum_terms_shapes)] }
def TermsRunsSaid : Prop := termsRunsRow.holds Tryd.pinned (OpenSpec.ofChange termsRunsSpec)

/-- ITS FALSE NEIGHBOUR: 'it returns false'. Refute it at one input. -/
def termsRunsWrong : ChangeSpec := { name := "termsRuns", fn := fun _ => fun
  | [d1, d2, d3, d4] => { results := [.lit (.bool false)], args := [d1, d2, d3, d4] }
  | _ => none }
def TermsRunsWrongFalsely : Prop := termsRunsRow.holds Tryd.pinned (OpenSpec.ofChange termsRunsWrong)

/-- 'quorumlaw3.TermsPrints': WHATEVER THE INPUT: true; the input reads as it did. -/
def termsPrintsSpec : ChangeSpec := { name := "termsPrints", fn := fun _ => fun
  | [d] => { results := [.lit (.bool true)], args := [d] }
  | _ => none }
def termsPrintsRow : OpenClaim := { program := "ytocbblafgjpbeaadoor", sum := "8fe0cc9feff225cfac574427db800bcc0ae65ece6042e2a1277cc163c3beac05", func := "quorum/quorumlaw3.TermsPrints", spec := "termsPrints", inPlace := ["internal/abi.NoEscape", "internal/bytealg.MakeNoZero"], unfollowed := true, recurses := true, named := ["quorum/terms.events", "quorum/terms.shapes", "quorum/terms.keywords", "quorum/terms.binds", "internal/strconv.uint64pow10", "math/bits.deBruijn32tab", "math/bits.deBruijn64tab", "quorum/quorumref3.Events", "quorum/quorumref3.keywords", "quorum/quorumref3.binds", "quorum/quorumref3.Operators", "quorum/quorumref3.Functions"], apart := false, laid := [("math/bits.deBruijn32tab", laid_math_bits_deBruijn32tab), ("math/bits.deBruijn64tab", laid_math_bits_deBruijn64tab), ("internal/strconv.uint64pow10", laid_internal_strconv_uint64pow10), ("quorum/quorumref3.Events", laid_quorum_quorumref3_Events), ("quorum/quorumref3.Operators", laid_quorum_quorumref3_Operators), ("quorum/quorumref3.binds", laid_quorum_quorumref3_binds), ("quorum/quorumref3.Functions", laid_quorum_quorumref3_Functions), ("quorum/quorumref3.keywords", laid_quorum_quorumref3_keywords), ("quorum/terms.keywords", laid_quorum_terms_keywords), ("quorum/terms.binds", laid_quorum_terms_binds), ("quorum/terms.shapes", laid_quorum_terms_shapes), ("quorum/terms.events", laid_quorum_terms_events)] }
def TermsPrintsSaid : Prop := termsPrintsRow.holds Tryd.pinned (OpenSpec.ofChange termsPrintsSpec)

/-- ITS FALSE NEIGHBOUR: 'it returns false'. Refute it at one input. -/
def termsPrintsWrong : ChangeSpec := { name := "termsPrints", fn := fun _ => fun
  | [d] => { results := [.lit (.bool false)], args := [d] }
  | _ => none }
def TermsPrintsWrongFalsely : Prop := termsPrintsRow.holds Tryd.pinned (OpenSpec.ofChange termsPrintsWrong)

/-- 'quorumlaw3.TermsBlanks': WHATEVER THE INPUT: true; the input reads as it did. -/
def termsBlanksSpec : ChangeSpec := { name := "termsBlanks", fn := fun _ => fun
  | [d1, d2] => { results := [.lit (.bool true)], args := [d1, d2] }
  | _ => none }
def termsBlanksRow : OpenClaim := { program := "ytocbblafgjpbeaadoor", sum := "8fe0cc9feff225cfac574427db800bcc0ae65ece6042e2a1277cc163c3beac05", func := "quorum/quorumlaw3.TermsBlanks", spec := "termsBlanks", inPlace := ["math/bits.Add64", "math/bits.Sub64"], unfollowed := true, recurses := true, named := ["quorum/terms.marks", "quorum/terms.keywords", "quorum/terms.binds", "quorum/terms.shapes", "math/bits.divideError", "math/bits.overflowError", "quorum/quorumref3.keywords", "quorum/quorumref3.marks", "quorum/quorumlaw3.gaps"], apart := false, laid := [("quorum/quorumref3.keywords", laid_quorum_quorumref3_keywords), ("quorum/quorumref3.marks", laid_quorum_quorumref3_marks), ("quorum/terms.keywords", laid_quorum_terms_keywords), ("quorum/terms.marks", laid_quorum_terms_marks), ("quorum/terms.binds", laid_quorum_terms_binds), ("quorum/terms.shapes", laid_quorum_terms_shapes), ("quorum/quorumlaw3.gaps", laid_quorum_quorumlaw3_gaps)] }
def TermsBlanksSaid : Prop := termsBlanksRow.holds Tryd.pinned (OpenSpec.ofChange termsBlanksSpec)

/-- ITS FALSE NEIGHBOUR: 'it returns false'. Refute it at one input. -/
def termsBlanksWrong : ChangeSpec := { name := "termsBlanks", fn := fun _ => fun
  | [d1, d2] => { results := [.lit (.bool false)], args := [d1, d2] }
  | _ => none }
def TermsBlanksWrongFalsely : Prop := termsBlanksRow.holds Tryd.pinned (OpenSpec.ofChange termsBlanksWrong)

/-- 'quorumlaw3.TermsSound': WHATEVER THE INPUT: true; the input reads as it did. -/
def termsSoundSpec : ChangeSpec := { name := "termsSound", fn := fun _ => fun
  | [d1, d2, d3, d4] => { results := [.lit (.bool true)], args := [d1, d2, d3, d4] }
  | _ => none }
def termsSoundRow : OpenClaim := { program := "ytocbblafgjpbeaadoor", sum := "8fe0cc9feff225cfac574427db800bcc0ae65ece6042e2a1277cc163c3beac05", func := "quorum/quorumlaw3.TermsSound", spec := "termsSound", inPlace := ["math/bits.Add64", "math/bits.Sub64"], unfollowed := true, recurses := true, named := ["quorum/terms.marks", "quorum/terms.keywords", "quorum/terms.binds", "quorum/terms.shapes", "math/bits.divideError", "math/bits.overflowError"], apart := false, laid := [("quorum/terms.keywords", laid_quorum_terms_keywords), ("quorum/terms.marks", laid_quorum_terms_marks), ("quorum/terms.binds", laid_quorum_terms_binds), ("quorum/terms.shapes", laid_quorum_terms_shapes)] }
def TermsSoundSaid : Prop := termsSoundRow.holds Tryd.pinned (OpenSpec.ofChange termsSoundSpec)

/-- ITS FALSE NEIGHBOUR: 'it returns false'. Refute it at one input. -/
def termsSoundWrong : ChangeSpec := { name := "termsSound", fn := fun _ => fun
  | [d1, d2, d3, d4] => { results := [.lit (.bool false)], args := [d1, d2, d3, d4] }
  | _ => none }
def TermsSoundWrongFalsely : Prop := termsSoundRow.holds Tryd.pinned (OpenSpec.ofChange termsSoundWrong)

/-- 'quorumlaw3.TermsKept': WHATEVER THE INPUT: true; the input reads as it did. -/
def termsKeptSpec : ChangeSpec := { name := "termsKept", fn := fun _ => fun
  | [d1, d2, d3, d4] => { results := [.lit (.bool true)], args := [d1, d2, d3, d4] }
  | _ => none }
def termsKeptRow : OpenClaim := { program := "ytocbblafgjpbeaadoor", sum := "8fe0cc9feff225cfac574427db800bcc0ae65ece6042e2a1277cc163c3beac05", func := "quorum/quorumlaw3.TermsKept", spec := "termsKept", inPlace := ["math/bits.Add64", "math/bits.Sub64"], unfollowed := true, recurses := true, named := ["quorum/terms.marks", "quorum/terms.keywords", "quorum/terms.binds", "quorum/terms.shapes", "math/bits.divideError", "math/bits.overflowError"], apart := false, laid := [("quorum/terms.keywords", laid_quorum_terms_keywords), ("quorum/terms.marks", laid_quorum_terms_marks), ("quorum/terms.binds", laid_quorum_terms_binds), ("quorum/terms.shapes", laid_quorum_terms_shapes)] }
def TermsKeptSaid : Prop := termsKeptRow.holds Tryd.pinned (OpenSpec.ofChange termsKeptSpec)

/-- ITS FALSE NEIGHBOUR: 'it returns false'. Refute it at one input. -/
def termsKeptWrong : ChangeSpec := { name := "termsKept", fn := fun _ => fun
  | [d1, d2, d3, d4] => { results := [.lit (.bool false)], args := [d1, d2, d3, d4] }
  | _ => none }
def TermsKeptWrongFalsely : Prop := termsKeptRow.holds Tryd.pinned (OpenSpec.ofChange termsKeptWrong)

/-- 'quorumlaw3.TermsFuel': WHATEVER THE INPUT: true; the input reads as it did. -/
def termsFuelSpec : ChangeSpec := { name := "termsFuel", fn := fun _ => fun
  | [d1, d2, d3, d4, d5] => { results := [.lit (.bool true)], args := [d1, d2, d3, d4, d5] }
  | _ => none }
def termsFuelRow : OpenClaim := { program := "ytocbblafgjpbeaadoor", sum := "8fe0cc9feff225cfac574427db800bcc0ae65ece6042e2a1277cc163c3beac05", func := "quorum/quorumlaw3.TermsFuel", spec := "termsFuel", inPlace := ["math/bits.Add64", "math/bits.Sub64"], unfollowed := true, recurses := true, named := ["quorum/terms.marks", "quorum/terms.keywords", "quorum/terms.binds", "quorum/terms.shapes", "math/bits.divideError", "math/bits.overflowError", "quorum/quorumref3.keywords"], apart := false, laid := [("quorum/quorumref3.keywords", laid_quorum_quorumref3_keywords), ("quorum/terms.keywords", laid_quorum_terms_keywords), ("quorum/terms.marks", laid_quorum_terms_marks), ("quorum/terms.binds", laid_quorum_terms_binds), ("quorum/terms.shapes", laid_quorum_terms_shapes)] }
def TermsFuelSaid : Prop := termsFuelRow.holds Tryd.pinned (OpenSpec.ofChange termsFuelSpec)

/-- ITS FALSE NEIGHBOUR: 'it returns false'. Refute it at one input. -/
def termsFuelWrong : ChangeSpec := { name := "termsFuel", fn := fun _ => fun
  | [d1, d2, d3, d4, d5] => { results := [.lit (.bool false)], args := [d1, d2, d3, d4, d5] }
  | _ => none }
def TermsFuelWrongFalsely : Prop := termsFuelRow.holds Tryd.pinned (OpenSpec.ofChange termsFuelWrong)

/-- 'quorumlaw3.TermsTurned': WHATEVER THE INPUT: true; the input reads as it did. -/
def termsTurnedSpec : ChangeSpec := { name := "termsTurned", fn := fun _ => fun
  | [d1, d2, d3, d4] => { results := [.lit (.bool true)], args := [d1, d2, d3, d4] }
  | _ => none }
def termsTurnedRow : OpenClaim := { program := "ytocbblafgjpbeaadoor", sum := "8fe0cc9feff225cfac574427db800bcc0ae65ece6042e2a1277cc163c3beac05", func := "quorum/quorumlaw3.TermsTurned", spec := "termsTurned", inPlace := ["math/bits.Add64", "math/bits.Sub64"], unfollowed := true, recurses := true, named := ["quorum/terms.marks", "quorum/terms.keywords", "quorum/terms.binds", "quorum/terms.shapes", "math/bits.divideError", "math/bits.overflowError", "quorum/quorumref3.keywords"], apart := false, laid := [("quorum/quorumref3.keywords", laid_quorum_quorumref3_keywords), ("quorum/terms.keywords", laid_quorum_terms_keywords), ("quorum/terms.marks", laid_quorum_terms_marks), ("quorum/terms.binds", laid_quorum_terms_binds), ("quorum/terms.shapes", laid_quorum_terms_shapes)] }
def TermsTurnedSaid : Prop := termsTurnedRow.holds Tryd.pinned (OpenSpec.ofChange termsTurnedSpec)

/-- ITS FALSE NEIGHBOUR: 'it returns false'. Refute it at one input. -/
def termsTurnedWrong : ChangeSpec := { name := "termsTurned", fn := fun _ => fun
  | [d1, d2, d3, d4] => { results := [.lit (.bool false)], args := [d1, d2, d3, d4] }
  | _ => none }
def TermsTurnedWrongFalsely : Prop := termsTurnedRow.holds Tryd.pinned (OpenSpec.ofChange termsTurnedWrong)

/- THE SECOND FORM. 'bulk': how many values and letters a reading holds, each counted each time it is reached (what is shared counts as often as it is met; a slice's spare places count too). A statement '..UptoSaid' is the law's where the arguments, and the package variables that the reading takes, are together of bulk at most 1048576: NARROWER than '..Said'. Prove '..Said' where nothing that the law and all that it calls make is longer than what came in: it says more and counts as full. Else prove '..UptoSaid'. A law counts once. -/
mutual
def uptoBulk {H : Type} : DataW H → Nat
  | .lit (.string bytes) => bytes.length + 1
  | .lit _ => 1
  | .nil => 1
  | .ptr d => uptoBulk d + 1
  | .slice elems spare => uptoBulkAll elems + uptoBulkAll spare + 1
  | .agg parts => uptoBulkAll parts + 1
  | .iface _ d => uptoBulk d + 1
  | .map entries => uptoBulkEntries entries + 1
  | .held _ => 1
def uptoBulkAll {H : Type} : List (DataW H) → Nat
  | [] => 0
  | d :: r => uptoBulk d + uptoBulkAll r
def uptoBulkEntries {H : Type} : List (Lit × DataW H) → Nat
  | [] => 0
  | x :: r => uptoBulkEntry x + uptoBulkEntries r
def uptoBulkEntry {H : Type} : Lit × DataW H → Nat
  | (.string bytes, d) => bytes.length + uptoBulk d + 1
  | (_, d) => uptoBulk d + 1
 end
def uptoSmall : (H : Type) → List (DataW H) → Bool := fun _ ds => decide (uptoBulkAll ds ≤ 1048576)
def OpenSpec.upto (s : _root_.Go.ChangeSpec) : _root_.Go.OpenSpec := { _root_.Go.OpenSpec.ofChange s with cond := some uptoSmall }

/-- 'quorumlaw3.TermsChecks', WHERE WHAT IT READS IS OF BULK AT MOST 1048576: true; the input reads as it did. -/
def termsChecksUptoRow : OpenClaim := { program := "ytocbblafgjpbeaadoor", sum := "8fe0cc9feff225cfac574427db800bcc0ae65ece6042e2a1277cc163c3beac05", func := "quorum/quorumlaw3.TermsChecks", spec := "termsChecks", unfollowed := true, recurses := true, named := ["quorum/terms.shapes", "quorum/terms.keywords", "quorum/quorumref3.keywords"], apart := false, laid := [("quorum/quorumref3.keywords", laid_quorum_quorumref3_keywords), ("quorum/terms.keywords", laid_quorum_terms_keywords), ("quorum/terms.shapes", laid_quorum_terms_shapes)], narrowed := true }
def TermsChecksUptoSaid : Prop := termsChecksUptoRow.holds Tryd.pinned (OpenSpec.upto termsChecksSpec)

/-- 'quorumlaw3.TermsParses', WHERE WHAT IT READS IS OF BULK AT MOST 1048576: true; the input reads as it did. -/
def termsParsesUptoRow : OpenClaim := { program := "ytocbblafgjpbeaadoor", sum := "8fe0cc9feff225cfac574427db800bcc0ae65ece6042e2a1277cc163c3beac05", func := "quorum/quorumlaw3.TermsParses", spec := "termsParses", inPlace := ["math/bits.Add64"], unfollowed := true, recurses := true, named := ["quorum/terms.marks", "quorum/terms.keywords", "quorum/terms.binds", "quorum/quorumref3.keywords", "quorum/quorumref3.marks", "quorum/quorumref3.Events", "quorum/quorumref3.Functions", "quorum/quorumref3.Operators", "quorum/quorumref3.binds"], apart := false, laid := [("quorum/quorumref3.Events", laid_quorum_quorumref3_Events), ("quorum/quorumref3.Operators", laid_quorum_quorumref3_Operators), ("quorum/quorumref3.binds", laid_quorum_quorumref3_binds), ("quorum/quorumref3.Functions", laid_quorum_quorumref3_Functions), ("quorum/quorumref3.keywords", laid_quorum_quorumref3_keywords), ("quorum/quorumref3.marks", laid_quorum_quorumref3_marks), ("quorum/terms.keywords", laid_quorum_terms_keywords), ("quorum/terms.marks", laid_quorum_terms_marks), ("quorum/terms.binds", laid_quorum_terms_binds)], narrowed := true }
def TermsParsesUptoSaid : Prop := termsParsesUptoRow.holds Tryd.pinned (OpenSpec.upto termsParsesSpec)

/-- 'quorumlaw3.TermsRuns', WHERE WHAT IT READS IS OF BULK AT MOST 1048576: true; the input reads as it did. -/
def termsRunsUptoRow : OpenClaim := { program := "ytocbblafgjpbeaadoor", sum := "8fe0cc9feff225cfac574427db800bcc0ae65ece6042e2a1277cc163c3beac05", func := "quorum/quorumlaw3.TermsRuns", spec := "termsRuns", inPlace := ["math/bits.Add64", "math/bits.Sub64"], unfollowed := true, recurses := true, named := ["quorum/terms.shapes", "quorum/terms.keywords", "math/bits.divideError", "math/bits.overflowError", "quorum/quorumref3.keywords"], apart := false, laid := [("quorum/quorumref3.keywords", laid_quorum_quorumref3_keywords), ("quorum/terms.keywords", laid_quorum_terms_keywords), ("quorum/terms.shapes", laid_quorum_terms_shapes)], narrowed := true }
def TermsRunsUptoSaid : Prop := termsRunsUptoRow.holds Tryd.pinned (OpenSpec.upto termsRunsSpec)

/-- 'quorumlaw3.TermsPrints', WHERE WHAT IT READS IS OF BULK AT MOST 1048576: true; the input reads as it did. -/
def termsPrintsUptoRow : OpenClaim := { program := "ytocbblafgjpbeaadoor", sum := "8fe0cc9feff225cfac574427db800bcc0ae65ece6042e2a1277cc163c3beac05", func := "quorum/quorumlaw3.TermsPrints", spec := "termsPrints", inPlace := ["internal/abi.NoEscape", "internal/bytealg.MakeNoZero"], unfollowed := true, recurses := true, named := ["quorum/terms.events", "quorum/terms.shapes", "quorum/terms.keywords", "quorum/terms.binds", "internal/strconv.uint64pow10", "math/bits.deBruijn32tab", "math/bits.deBruijn64tab", "quorum/quorumref3.Events", "quorum/quorumref3.keywords", "quorum/quorumref3.binds", "quorum/quorumref3.Operators", "quorum/quorumref3.Functions"], apart := false, laid := [("math/bits.deBruijn32tab", laid_math_bits_deBruijn32tab), ("math/bits.deBruijn64tab", laid_math_bits_deBruijn64tab), ("internal/strconv.uint64pow10", laid_internal_strconv_uint64pow10), ("quorum/quorumref3.Events", laid_quorum_quorumref3_Events), ("quorum/quorumref3.Operators", laid_quorum_quorumref3_Operators), ("quorum/quorumref3.binds", laid_quorum_quorumref3_binds), ("quorum/quorumref3.Functions", laid_quorum_quorumref3_Functions), ("quorum/quorumref3.keywords", laid_quorum_quorumref3_keywords), ("quorum/terms.keywords", laid_quorum_terms_keywords), ("quorum/terms.binds", laid_quorum_terms_binds), ("quorum/terms.shapes", laid_quorum_terms_shapes), ("quorum/terms.events", laid_quorum_terms_events)], narrowed := true }
def TermsPrintsUptoSaid : Prop := termsPrintsUptoRow.holds Tryd.pinned (OpenSpec.upto termsPrintsSpec)

/-- 'quorumlaw3.TermsBlanks', WHERE WHAT IT READS IS OF BULK AT MOST 1048576: true; the input reads as it did. -/
def termsBlanksUptoRow : OpenClaim := { program := "ytocbblafgjpbeaadoor", sum := "8fe0cc9feff225cfac574427db800bcc0ae65ece6042e2a1277cc163c3beac05", func := "quorum/quorumlaw3.TermsBlanks", spec := "termsBlanks", inPlace := ["math/bits.Add64", "math/bits.Sub64"], unfollowed := true, recurses := true, named := ["quorum/terms.marks", "quorum/terms.keywords", "quorum/terms.binds", "quorum/terms.shapes", "math/bits.divideError", "math/bits.overflowError", "quorum/quorumref3.keywords", "quorum/quorumref3.marks", "quorum/quorumlaw3.gaps"], apart := false, laid := [("quorum/quorumref3.keywords", laid_quorum_quorumref3_keywords), ("quorum/quorumref3.marks", laid_quorum_quorumref3_marks), ("quorum/terms.keywords", laid_quorum_terms_keywords), ("quorum/terms.marks", laid_quorum_terms_marks), ("quorum/terms.binds", laid_quorum_terms_binds), ("quorum/terms.shapes", laid_quorum_terms_shapes), ("quorum/quorumlaw3.gaps", laid_quorum_quorumlaw3_gaps)], narrowed := true }
def TermsBlanksUptoSaid : Prop := termsBlanksUptoRow.holds Tryd.pinned (OpenSpec.upto termsBlanksSpec)

/-- 'quorumlaw3.TermsSound', WHERE WHAT IT READS IS OF BULK AT MOST 1048576: true; the input reads as it did. -/
def termsSoundUptoRow : OpenClaim := { program := "ytocbblafgjpbeaadoor", sum := "8fe0cc9feff225cfac574427db800bcc0ae65ece6042e2a1277cc163c3beac05", func := "quorum/quorumlaw3.TermsSound", spec := "termsSound", inPlace := ["math/bits.Add64", "math/bits.Sub64"], unfollowed := true, recurses := true, named := ["quorum/terms.marks", "quorum/terms.keywords", "quorum/terms.binds", "quorum/terms.shapes", "math/bits.divideError", "math/bits.overflowError"], apart := false, laid := [("quorum/terms.keywords", laid_quorum_terms_keywords), ("quorum/terms.marks", laid_quorum_terms_marks), ("quorum/terms.binds", laid_quorum_terms_binds), ("quorum/terms.shapes", laid_quorum_terms_shapes)], narrowed := true }
def TermsSoundUptoSaid : Prop := termsSoundUptoRow.holds Tryd.pinned (OpenSpec.upto termsSoundSpec)

/-- 'quorumlaw3.TermsKept', WHERE WHAT IT READS IS OF BULK AT MOST 1048576: true; the input reads as it did. -/
def termsKeptUptoRow : OpenClaim := { program := "ytocbblafgjpbeaadoor", sum := "8fe0cc9feff225cfac574427db800bcc0ae65ece6042e2a1277cc163c3beac05", func := "quorum/quorumlaw3.TermsKept", spec := "termsKept", inPlace := ["math/bits.Add64", "math/bits.Sub64"], unfollowed := true, recurses := true, named := ["quorum/terms.marks", "quorum/terms.keywords", "quorum/terms.binds", "quorum/terms.shapes", "math/bits.divideError", "math/bits.overflowError"], apart := false, laid := [("quorum/terms.keywords", laid_quorum_terms_keywords), ("quorum/terms.marks", laid_quorum_terms_marks), ("quorum/terms.binds", laid_quorum_terms_binds), ("quorum/terms.shapes", laid_quorum_terms_shapes)], narrowed := true }
def TermsKeptUptoSaid : Prop := termsKeptUptoRow.holds Tryd.pinned (OpenSpec.upto termsKeptSpec)

/-- 'quorumlaw3.TermsFuel', WHERE WHAT IT READS IS OF BULK AT MOST 1048576: true; the input reads as it did. -/
def termsFuelUptoRow : OpenClaim := { program := "ytocbblafgjpbeaadoor", sum := "8fe0cc9feff225cfac574427db800bcc0ae65ece6042e2a1277cc163c3beac05", func := "quorum/quorumlaw3.TermsFuel", spec := "termsFuel", inPlace := ["math/bits.Add64", "math/bits.Sub64"], unfollowed := true, recurses := true, named := ["quorum/terms.marks", "quorum/terms.keywords", "quorum/terms.binds", "quorum/terms.shapes", "math/bits.divideError", "math/bits.overflowError", "quorum/quorumref3.keywords"], apart := false, laid := [("quorum/quorumref3.keywords", laid_quorum_quorumref3_keywords), ("quorum/terms.keywords", laid_quorum_terms_keywords), ("quorum/terms.marks", laid_quorum_terms_marks), ("quorum/terms.binds", laid_quorum_terms_binds), ("quorum/terms.shapes", laid_quorum_terms_shapes)], narrowed := true }
def TermsFuelUptoSaid : Prop := termsFuelUptoRow.holds Tryd.pinned (OpenSpec.upto termsFuelSpec)

/-- 'quorumlaw3.TermsTurned', WHERE WHAT IT READS IS OF BULK AT MOST 1048576: true; the input reads as it did. -/
def termsTurnedUptoRow : OpenClaim := { program := "ytocbblafgjpbeaadoor", sum := "8fe0cc9feff225cfac574427db800bcc0ae65ece6042e2a1277cc163c3beac05", func := "quorum/quorumlaw3.TermsTurned", spec := "termsTurned", inPlace := ["math/bits.Add64", "math/bits.Sub64"], unfollowed := true, recurses := true, named := ["quorum/terms.marks", "quorum/terms.keywords", "quorum/terms.binds", "quorum/terms.shapes", "math/bits.divideError", "math/bits.overflowError", "quorum/quorumref3.keywords"], apart := false, laid := [("quorum/quorumref3.keywords", laid_quorum_quorumref3_keywords), ("quorum/terms.keywords", laid_quorum_terms_keywords), ("quorum/terms.marks", laid_quorum_terms_marks), ("quorum/terms.binds", laid_quorum_terms_binds), ("quorum/terms.shapes", laid_quorum_terms_shapes)], narrowed := true }
def TermsTurnedUptoSaid : Prop := termsTurnedUptoRow.holds Tryd.pinned (OpenSpec.upto termsTurnedSpec)

end Rows
end Go.Proofs.YtocbblafgjpbeaaDoor
