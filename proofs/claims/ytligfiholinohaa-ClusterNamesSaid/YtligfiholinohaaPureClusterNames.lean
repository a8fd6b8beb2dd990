/- The closed law ClusterNames: the numbers and limits of the package api are those of the document: it answers true. No conditions. -/
import Derived.Test.YtligfiholinohaaPClusterNamesx1
namespace Go.Proofs.Ytligfiholinohaa.Pure
open Go.RowKit Go.Proofs.Ytligfiholinohaa.PClusterNames Go.Proofs.YtligfiholinohaaW.PrintWords Go.Proofs.YtligfiholinohaaW.PrintLast

theorem ClusterNames : quorumlaw16_ClusterNames.Pure := by
  show _ = _
  kernel_rfl

end Go.Proofs.Ytligfiholinohaa.Pure
