/-
  DERIVED. GIVEN WITH THE SEED: THE PROGRAM's TIES (one call each: nine closed facts by the kernel) AND EACH ROW's TIE, after the 31st guide's Derived/Test/Toyas{Tie, Card}.lean. No idea stands in it: it is a product of the set-up. Laid BY PROGRAM, IN A SANDBOX (cutbox-door.mjs). By AI agents, Wed Nov 11 2026. No macro, syntax, notation, axiom, sorry.
-/
import Derived.Test.YtocbblafgjpbeaaDoorRows
import Derived.LaidByTextLater
import Derived.SevenTiedAt
import Derived.LaidSub
import Derived.LaidOnce
namespace Go.Proofs.YtocbblafgjpbeaaDoor
open Go
set_option maxRecDepth 100000
theorem seatTie1 : Tryd.prog.laidByTextLater [("quorum/quorumref3.Events", Rows.laid_quorum_quorumref3_Events), ("quorum/quorumref3.Operators", Rows.laid_quorum_quorumref3_Operators), ("quorum/quorumref3.binds", Rows.laid_quorum_quorumref3_binds), ("quorum/quorumref3.Functions", Rows.laid_quorum_quorumref3_Functions), ("quorum/quorumref3.keywords", Rows.laid_quorum_quorumref3_keywords), ("quorum/quorumref3.marks", Rows.laid_quorum_quorumref3_marks), ("quorum/terms.keywords", Rows.laid_quorum_terms_keywords), ("quorum/terms.marks", Rows.laid_quorum_terms_marks), ("quorum/terms.binds", Rows.laid_quorum_terms_binds), ("quorum/terms.shapes", Rows.laid_quorum_terms_shapes)] [.data, .data, .data, .data, .data, .data, .data, .data, .data, .data] true :=
  Program.laidByTextLater_by_one 117 8 85 (by kernel_rfl) (by kernel_rfl) (by kernel_rfl) (by kernel_rfl) (by kernel_rfl) (by kernel_rfl) (fun _ _ => by kernel_rfl)
theorem seatTie2 : Tryd.prog.laidByTextLater [("math/bits.deBruijn32tab", Rows.laid_math_bits_deBruijn32tab), ("math/bits.deBruijn64tab", Rows.laid_math_bits_deBruijn64tab), ("internal/strconv.uint64pow10", Rows.laid_internal_strconv_uint64pow10), ("quorum/quorumref3.Events", Rows.laid_quorum_quorumref3_Events), ("quorum/quorumref3.Operators", Rows.laid_quorum_quorumref3_Operators), ("quorum/quorumref3.binds", Rows.laid_quorum_quorumref3_binds), ("quorum/quorumref3.Functions", Rows.laid_quorum_quorumref3_Functions), ("quorum/quorumref3.keywords", Rows.laid_quorum_quorumref3_keywords), ("quorum/terms.keywords", Rows.laid_quorum_terms_keywords), ("quorum/terms.binds", Rows.laid_quorum_terms_binds), ("quorum/terms.shapes", Rows.laid_quorum_terms_shapes), ("quorum/terms.events", Rows.laid_quorum_terms_events)] [.data, .data, .data, .data, .data, .data, .data, .data, .data, .data, .data, .data] true :=
  Program.laidByTextLater_by_one 117 8 85 (by kernel_rfl) (by kernel_rfl) (by kernel_rfl) (by kernel_rfl) (by kernel_rfl) (by kernel_rfl) (fun _ _ => by kernel_rfl)
theorem seatTie3 : Tryd.prog.laidByTextLater [("quorum/quorumref3.keywords", Rows.laid_quorum_quorumref3_keywords), ("quorum/quorumref3.marks", Rows.laid_quorum_quorumref3_marks), ("quorum/terms.keywords", Rows.laid_quorum_terms_keywords), ("quorum/terms.marks", Rows.laid_quorum_terms_marks), ("quorum/terms.binds", Rows.laid_quorum_terms_binds), ("quorum/terms.shapes", Rows.laid_quorum_terms_shapes), ("quorum/quorumlaw3.gaps", Rows.laid_quorum_quorumlaw3_gaps)] [.data, .data, .data, .data, .data, .data, .data] true :=
  Program.laidByTextLater_by_one 117 8 85 (by kernel_rfl) (by kernel_rfl) (by kernel_rfl) (by kernel_rfl) (by kernel_rfl) (by kernel_rfl) (fun _ _ => by kernel_rfl)
theorem noOwnUnsafe : Tryd.pinned.checked.prog.headLifts.contains "ownunsafe" = false := by kernel_rfl
theorem tie : Tryd.prog.laidByTextLater [("quorum/quorumref3.keywords", Rows.laid_quorum_quorumref3_keywords), ("quorum/terms.keywords", Rows.laid_quorum_terms_keywords), ("quorum/terms.shapes", Rows.laid_quorum_terms_shapes)] [.data, .data, .data] true :=
  Program.laidByTextLater.sub seatTie1 ["quorum/quorumref3.keywords", "quorum/terms.keywords", "quorum/terms.shapes"] (by kernel_rfl) (by kernel_rfl)
theorem termsChecks_row_tie : Rows.termsChecksRow.laidByTextAt .later Tryd.pinned [.data, .data, .data] true :=
  OpenClaim.laidByTextAt_later rfl rfl tie noOwnUnsafe
theorem termsRuns_row_tie : Rows.termsRunsRow.laidByTextAt .later Tryd.pinned [.data, .data, .data] true :=
  OpenClaim.laidByTextAt_later rfl rfl tie noOwnUnsafe
theorem tie2 : Tryd.prog.laidByTextLater [("quorum/quorumref3.Events", Rows.laid_quorum_quorumref3_Events), ("quorum/quorumref3.Operators", Rows.laid_quorum_quorumref3_Operators), ("quorum/quorumref3.binds", Rows.laid_quorum_quorumref3_binds), ("quorum/quorumref3.Functions", Rows.laid_quorum_quorumref3_Functions), ("quorum/quorumref3.keywords", Rows.laid_quorum_quorumref3_keywords), ("quorum/quorumref3.marks", Rows.laid_quorum_quorumref3_marks), ("quorum/terms.keywords", Rows.laid_quorum_terms_keywords), ("quorum/terms.marks", Rows.laid_quorum_terms_marks), ("quorum/terms.binds", Rows.laid_quorum_terms_binds)] [.data, .data, .data, .data, .data, .data, .data, .data, .data] true :=
  Program.laidByTextLater.sub seatTie1 ["quorum/quorumref3.Events", "quorum/quorumref3.Operators", "quorum/quorumref3.binds", "quorum/quorumref3.Functions", "quorum/quorumref3.keywords", "quorum/quorumref3.marks", "quorum/terms.keywords", "quorum/terms.marks", "quorum/terms.binds"] (by kernel_rfl) (by kernel_rfl)
theorem termsParses_row_tie : Rows.termsParsesRow.laidByTextAt .later Tryd.pinned [.data, .data, .data, .data, .data, .data, .data, .data, .data] true :=
  OpenClaim.laidByTextAt_later rfl rfl tie2 noOwnUnsafe
theorem tie3 : Tryd.prog.laidByTextLater [("math/bits.deBruijn32tab", Rows.laid_math_bits_deBruijn32tab), ("math/bits.deBruijn64tab", Rows.laid_math_bits_deBruijn64tab), ("internal/strconv.uint64pow10", Rows.laid_internal_strconv_uint64pow10), ("quorum/quorumref3.Events", Rows.laid_quorum_quorumref3_Events), ("quorum/quorumref3.Operators", Rows.laid_quorum_quorumref3_Operators), ("quorum/quorumref3.binds", Rows.laid_quorum_quorumref3_binds), ("quorum/quorumref3.Functions", Rows.laid_quorum_quorumref3_Functions), ("quorum/quorumref3.keywords", Rows.laid_quorum_quorumref3_keywords), ("quorum/terms.keywords", Rows.laid_quorum_terms_keywords), ("quorum/terms.binds", Rows.laid_quorum_terms_binds), ("quorum/terms.shapes", Rows.laid_quorum_terms_shapes), ("quorum/terms.events", Rows.laid_quorum_terms_events)] [.data, .data, .data, .data, .data, .data, .data, .data, .data, .data, .data, .data] true :=
  Program.laidByTextLater.sub seatTie2 ["math/bits.deBruijn32tab", "math/bits.deBruijn64tab", "internal/strconv.uint64pow10", "quorum/quorumref3.Events", "quorum/quorumref3.Operators", "quorum/quorumref3.binds", "quorum/quorumref3.Functions", "quorum/quorumref3.keywords", "quorum/terms.keywords", "quorum/terms.binds", "quorum/terms.shapes", "quorum/terms.events"] (by kernel_rfl) (by kernel_rfl)
theorem termsPrints_row_tie : Rows.termsPrintsRow.laidByTextAt .later Tryd.pinned [.data, .data, .data, .data, .data, .data, .data, .data, .data, .data, .data, .data] true :=
  OpenClaim.laidByTextAt_later rfl rfl tie3 noOwnUnsafe
theorem tie4 : Tryd.prog.laidByTextLater [("quorum/quorumref3.keywords", Rows.laid_quorum_quorumref3_keywords), ("quorum/quorumref3.marks", Rows.laid_quorum_quorumref3_marks), ("quorum/terms.keywords", Rows.laid_quorum_terms_keywords), ("quorum/terms.marks", Rows.laid_quorum_terms_marks), ("quorum/terms.binds", Rows.laid_quorum_terms_binds), ("quorum/terms.shapes", Rows.laid_quorum_terms_shapes), ("quorum/quorumlaw3.gaps", Rows.laid_quorum_quorumlaw3_gaps)] [.data, .data, .data, .data, .data, .data, .data] true :=
  Program.laidByTextLater.sub seatTie3 ["quorum/quorumref3.keywords", "quorum/quorumref3.marks", "quorum/terms.keywords", "quorum/terms.marks", "quorum/terms.binds", "quorum/terms.shapes", "quorum/quorumlaw3.gaps"] (by kernel_rfl) (by kernel_rfl)
theorem termsBlanks_row_tie : Rows.termsBlanksRow.laidByTextAt .later Tryd.pinned [.data, .data, .data, .data, .data, .data, .data] true :=
  OpenClaim.laidByTextAt_later rfl rfl tie4 noOwnUnsafe
theorem tie5 : Tryd.prog.laidByTextLater [("quorum/terms.keywords", Rows.laid_quorum_terms_keywords), ("quorum/terms.marks", Rows.laid_quorum_terms_marks), ("quorum/terms.binds", Rows.laid_quorum_terms_binds), ("quorum/terms.shapes", Rows.laid_quorum_terms_shapes)] [.data, .data, .data, .data] true :=
  Program.laidByTextLater.sub seatTie1 ["quorum/terms.keywords", "quorum/terms.marks", "quorum/terms.binds", "quorum/terms.shapes"] (by kernel_rfl) (by kernel_rfl)
theorem termsSound_row_tie : Rows.termsSoundRow.laidByTextAt .later Tryd.pinned [.data, .data, .data, .data] true :=
  OpenClaim.laidByTextAt_later rfl rfl tie5 noOwnUnsafe
theorem termsKept_row_tie : Rows.termsKeptRow.laidByTextAt .later Tryd.pinned [.data, .data, .data, .data] true :=
  OpenClaim.laidByTextAt_later rfl rfl tie5 noOwnUnsafe
theorem tie6 : Tryd.prog.laidByTextLater [("quorum/quorumref3.keywords", Rows.laid_quorum_quorumref3_keywords), ("quorum/terms.keywords", Rows.laid_quorum_terms_keywords), ("quorum/terms.marks", Rows.laid_quorum_terms_marks), ("quorum/terms.binds", Rows.laid_quorum_terms_binds), ("quorum/terms.shapes", Rows.laid_quorum_terms_shapes)] [.data, .data, .data, .data, .data] true :=
  Program.laidByTextLater.sub seatTie1 ["quorum/quorumref3.keywords", "quorum/terms.keywords", "quorum/terms.marks", "quorum/terms.binds", "quorum/terms.shapes"] (by kernel_rfl) (by kernel_rfl)
theorem termsFuel_row_tie : Rows.termsFuelRow.laidByTextAt .later Tryd.pinned [.data, .data, .data, .data, .data] true :=
  OpenClaim.laidByTextAt_later rfl rfl tie6 noOwnUnsafe
theorem termsTurned_row_tie : Rows.termsTurnedRow.laidByTextAt .later Tryd.pinned [.data, .data, .data, .data, .data] true :=
  OpenClaim.laidByTextAt_later rfl rfl tie6 noOwnUnsafe
theorem termsChecksUpto_row_tie : Rows.termsChecksUptoRow.laidByTextAt .later Tryd.pinned [.data, .data, .data] true :=
  OpenClaim.laidByTextAt_later rfl rfl tie noOwnUnsafe
theorem termsParsesUpto_row_tie : Rows.termsParsesUptoRow.laidByTextAt .later Tryd.pinned [.data, .data, .data, .data, .data, .data, .data, .data, .data] true :=
  OpenClaim.laidByTextAt_later rfl rfl tie2 noOwnUnsafe
theorem termsRunsUpto_row_tie : Rows.termsRunsUptoRow.laidByTextAt .later Tryd.pinned [.data, .data, .data] true :=
  OpenClaim.laidByTextAt_later rfl rfl tie noOwnUnsafe
theorem termsPrintsUpto_row_tie : Rows.termsPrintsUptoRow.laidByTextAt .later Tryd.pinned [.data, .data, .data, .data, .data, .data, .data, .data, .data, .data, .data, .data] true :=
  OpenClaim.laidByTextAt_later rfl rfl tie3 noOwnUnsafe
theorem termsBlanksUpto_row_tie : Rows.termsBlanksUptoRow.laidByTextAt .later Tryd.pinned [.data, .data, .data, .data, .data, .data, .data] true :=
  OpenClaim.laidByTextAt_later rfl rfl tie4 noOwnUnsafe
theorem termsSoundUpto_row_tie : Rows.termsSoundUptoRow.laidByTextAt .later Tryd.pinned [.data, .data, .data, .data] true :=
  OpenClaim.laidByTextAt_later rfl rfl tie5 noOwnUnsafe
theorem termsKeptUpto_row_tie : Rows.termsKeptUptoRow.laidByTextAt .later Tryd.pinned [.data, .data, .data, .data] true :=
  OpenClaim.laidByTextAt_later rfl rfl tie5 noOwnUnsafe
theorem termsFuelUpto_row_tie : Rows.termsFuelUptoRow.laidByTextAt .later Tryd.pinned [.data, .data, .data, .data, .data] true :=
  OpenClaim.laidByTextAt_later rfl rfl tie6 noOwnUnsafe
theorem termsTurnedUpto_row_tie : Rows.termsTurnedUptoRow.laidByTextAt .later Tryd.pinned [.data, .data, .data, .data, .data] true :=
  OpenClaim.laidByTextAt_later rfl rfl tie6 noOwnUnsafe
end Go.Proofs.YtocbblafgjpbeaaDoor
