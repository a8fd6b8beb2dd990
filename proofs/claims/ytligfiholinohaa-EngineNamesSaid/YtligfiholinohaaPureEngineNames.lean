/- The closed law EngineNames: the numbers and limits of the package api are those of the document: it answers true. No conditions. -/
import Derived.Test.YtligfiholinohaaPEngineNamesx1
namespace Go.Proofs.Ytligfiholinohaa.Pure
open Go.RowKit Go.Proofs.Ytligfiholinohaa.PEngineNames Go.Proofs.YtligfiholinohaaW.PrintWords Go.Proofs.YtligfiholinohaaW.PrintLast

theorem EngineNames : quorumlaw18_EngineNames.Pure := by
  show _ = _
  kernel_rfl

end Go.Proofs.Ytligfiholinohaa.Pure
