-- PRINTED BY print.sh 35421559b90ae4d0a3588c463048766b98c2df88dd9212a6774a882060cdf62d: not written by this session
import Derived.Test.YtkcdccfajjhacaaProg
import Derived.Below
import Derived.Deep.Draws
import Derived.Deep.AppendLies
import Derived.Maps.AppendAt
import Derived.OwnWalk
import Derived.Laws.BytesArg
import Derived.Laws.MakeOwn
import Derived.Laws.OwnMore
import Derived.Deep.OwnRows
import Derived.Tactics
import Derived.Lib.ConvBytes
import Derived.Laws.Slices
import Derived.WalkKit
import Derived.KernelRfl
import Derived.RowKit3
import Derived.Deep.LoopGhost
import Derived.Deep.QuietTactic
import Derived.BigQuiet
import Derived.WideLaws
import Derived.Deep.DeepCutAuto
import Derived.Deep.CutBlock
import Derived.Deep.RegionHeld3
import Derived.Laws.Rows
import Derived.Lib.AppendStr
import Derived.ArgAppend
import Derived.Laws.IdiomCopy
import Derived.OrdersHeld
import Derived.Laws.BitsLemmas
import Derived.RowKit
import Derived.Test.YtkcdccfajjhacaaWWords
import Derived.Test.YtkcdccfajjhacaaWLast
import Derived.Test.YtkcdccfajjhacaaWTab
import Derived.Test.YtkcdccfajjhacaaWFour
import Derived.Test.YtkcdccfajjhacaaWQPut
import Derived.Test.YtkcdccfajjhacaaWApart
import Derived.Test.YtkcdccfajjhacaaWArr
import Derived.Test.YtkcdccfajjhacaaWZeros
import Derived.Test.YtkcdccfajjhacaaWFoot
import Derived.Test.YtkcdccfajjhacaaWKept
import Derived.Test.YtkcdccfajjhacaaWShare
import Derived.Test.YtkcdccfajjhacaaWN
import Derived.Test.YtkcdccfajjhacaaWFootNe
import Derived.Test.YtkcdccfajjhacaaWAt
import Derived.Test.YtkcdccfajjhacaaWEqStruct
import Derived.Test.YtkcdccfajjhacaaWRepsOne
import Derived.Test.YtkcdccfajjhacaaWInv
import Derived.Test.YtkcdccfajjhacaaWInvWords
import Derived.Test.YtkcdccfajjhacaaWGuard
import Derived.Test.YtkcdccfajjhacaaWNEv
import Derived.Test.YtkcdccfajjhacaaWMore
namespace Go.Proofs.Ytkcdccfajjhacaa.PFnExactCheckOf
open Go.RowKit Go.Proofs.YtkcdccfajjhacaaW.PrintWords Go.Proofs.YtkcdccfajjhacaaW.PrintLast Go.Proofs.YtkcdccfajjhacaaW.PrintMore
attribute [local go_sem] max2_int min2_int max_two min_two max_three min_three max_four min_four   -- for this text's walks alone
set_option linter.unusedVariables false
set_option linter.unusedSimpArgs false



def errW : Option Int → Value
  | none => .nilIface
  | some c => .iface 0 (.int .i64 c)
theorem errW_none : errW none = .nilIface := rfl
theorem errW_some (c : Int) : errW (some c) = .iface 0 (.int .i64 c) := rfl

-- the values' own types

end Go.Proofs.Ytkcdccfajjhacaa.PFnExactCheckOf
