/- The closed law TermsNames: the numbers of api/terms.go are those of the document: it answers true. No conditions. -/
import Derived.Test.YtocbblafgjpbeaaPTermsNamesx1
namespace Go.Proofs.Ytocbblafgjpbeaa.Pure
open Go.RowKit Go.Proofs.Ytocbblafgjpbeaa.PTermsNames Go.Proofs.YtocbblafgjpbeaaW.PrintWords Go.Proofs.YtocbblafgjpbeaaW.PrintLast

theorem TermsNames : quorumlaw3_TermsNames.Pure := by
  exact ⟨80, by kernel_rfl⟩

end Go.Proofs.Ytocbblafgjpbeaa.Pure
