-- PRINTED BY print.sh 35421559b90ae4d0a3588c463048766b98c2df88dd9212a6774a882060cdf62d: not written by this session
import Derived.Test.YtocbblafgjpbeaaProg
import Derived.Below
import Derived.Deep.Draws
import Derived.Deep.AppendLies
import Derived.Maps.AppendAt
import Derived.OwnWalk
import Derived.Laws.BytesArg
import Derived.Laws.MakeOwn
import Derived.Laws.OwnMore
import Derived.Deep.OwnRows
import Derived.Tactics
import Derived.Lib.ConvBytes
import Derived.Laws.Slices
import Derived.WalkKit
import Derived.KernelRfl
import Derived.RowKit3
import Derived.Deep.LoopGhost
import Derived.Deep.QuietTactic
import Derived.BigQuiet
import Derived.WideLaws
import Derived.Deep.DeepCutAuto
import Derived.Deep.CutBlock
import Derived.Deep.RegionHeld3
import Derived.Laws.Rows
import Derived.Lib.AppendStr
import Derived.ArgAppend
import Derived.Laws.IdiomCopy
import Derived.OrdersHeld
import Derived.Laws.BitsLemmas
import Derived.RowKit
import Derived.Test.YtocbblafgjpbeaaWWords
import Derived.Test.YtocbblafgjpbeaaWLast
import Derived.Test.YtocbblafgjpbeaaWTab
import Derived.Test.YtocbblafgjpbeaaWFour
import Derived.Test.YtocbblafgjpbeaaWQPut
import Derived.Test.YtocbblafgjpbeaaWApart
import Derived.Test.YtocbblafgjpbeaaWArr
import Derived.Test.YtocbblafgjpbeaaWZeros
import Derived.Test.YtocbblafgjpbeaaWFoot
import Derived.Test.YtocbblafgjpbeaaWKept
import Derived.Test.YtocbblafgjpbeaaWShare
import Derived.Test.YtocbblafgjpbeaaWN
import Derived.Test.YtocbblafgjpbeaaWFootNe
import Derived.Test.YtocbblafgjpbeaaWAt
import Derived.Test.YtocbblafgjpbeaaWEqStruct
import Derived.Test.YtocbblafgjpbeaaWRepsOne
import Derived.Test.YtocbblafgjpbeaaWInv
import Derived.Test.YtocbblafgjpbeaaWInvWords
import Derived.Test.YtocbblafgjpbeaaWGuard
import Derived.Test.YtocbblafgjpbeaaWNEv
import Derived.Test.YtocbblafgjpbeaaWMore
namespace Go.Proofs.Ytocbblafgjpbeaa.PTermsNames
open Go.RowKit Go.Proofs.YtocbblafgjpbeaaW.PrintWords Go.Proofs.YtocbblafgjpbeaaW.PrintLast Go.Proofs.YtocbblafgjpbeaaW.PrintMore
attribute [local go_sem] max2_int min2_int max_two min_two max_three min_three max_four min_four   -- for this text's walks alone
set_option linter.unusedVariables false
set_option linter.unusedSimpArgs false



def errW : Option Int → Value
  | none => .nilIface
  | some c => .iface 0 (.int .i64 c)
theorem errW_none : errW none = .nilIface := rfl
theorem errW_some (c : Int) : errW (some c) = .iface 0 (.int .i64 c) := rfl

theorem info3 : (Try.prog.info? 3).map (fun i => (i.zero, i.size, i.bytes)) = some (some (.int .i64 0), 1, 8) := by kernel_rfl
theorem info22 : (Try.prog.info? 22).map (fun i => (i.zero, i.size, i.bytes)) = some (some (.int .i64 0), 1, 8) := by kernel_rfl
theorem info24 : (Try.prog.info? 24).map (fun i => (i.zero, i.size, i.bytes)) = some (some (.int .i64 0), 1, 8) := by kernel_rfl
theorem info27 : (Try.prog.info? 27).map (fun i => (i.zero, i.size, i.bytes)) = some (some (.int .i64 0), 1, 8) := by kernel_rfl
-- the values' own types

end Go.Proofs.Ytocbblafgjpbeaa.PTermsNames
