/- The closed law CodeNames: the numbers and limits of the package api are those of the document: it answers true. No conditions. -/
import Derived.Test.YtligfiholinohaaPCodeNamesx1
namespace Go.Proofs.Ytligfiholinohaa.Pure
open Go.RowKit Go.Proofs.Ytligfiholinohaa.PCodeNames Go.Proofs.YtligfiholinohaaW.PrintWords Go.Proofs.YtligfiholinohaaW.PrintLast

theorem CodeNames : quorumlaw4_CodeNames.Pure := by
  show _ = _
  kernel_rfl

end Go.Proofs.Ytligfiholinohaa.Pure
