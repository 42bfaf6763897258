-- Printed by a program of this session over the kit's print, with contracts of this session's own. Not trusted: Lean checks it.
import Derived.Test.YtofgjlfgpnmmdaaProg
import Derived.Below
import Derived.Deep.Draws
import Derived.Deep.AppendLies
import Derived.Maps.AppendAt
import Derived.OwnWalk
import Derived.Laws.BytesArg
import Derived.Laws.MakeOwn
import Derived.Laws.OwnMore
import Derived.Deep.OwnRows
import Derived.Tactics
import Derived.Lib.ConvBytes
import Derived.Laws.Slices
import Derived.WalkKit
import Derived.KernelRfl
import Derived.RowKit3
import Derived.Deep.LoopGhost
import Derived.Deep.QuietTactic
import Derived.BigQuiet
import Derived.WideLaws
import Derived.Deep.DeepCutAuto
import Derived.Deep.CutBlock
import Derived.Deep.RegionHeld3
import Derived.Laws.Rows
import Derived.Lib.AppendStr
import Derived.ArgAppend
import Derived.Laws.IdiomCopy
import Derived.OrdersHeld
import Derived.Laws.BitsLemmas
import Derived.RowKit
import Derived.Test.YtofgjlfgpnmmdaaGj
import Derived.Test.YtofgjlfgpnmmdaaRl
import Derived.Test.YtofgjlfgpnmmdaaWWords
import Derived.Test.YtofgjlfgpnmmdaaWLast
import Derived.Test.YtofgjlfgpnmmdaaWTab
import Derived.Test.YtofgjlfgpnmmdaaWFour
import Derived.Test.YtofgjlfgpnmmdaaWQPut
import Derived.Test.YtofgjlfgpnmmdaaWApart
import Derived.Test.YtofgjlfgpnmmdaaWArr
import Derived.Test.YtofgjlfgpnmmdaaWZeros
import Derived.Test.YtofgjlfgpnmmdaaWFoot
import Derived.Test.YtofgjlfgpnmmdaaWKept
import Derived.Test.YtofgjlfgpnmmdaaWShare
import Derived.Test.YtofgjlfgpnmmdaaWN
import Derived.Test.YtofgjlfgpnmmdaaWFootNe
import Derived.Test.YtofgjlfgpnmmdaaWAt
import Derived.Test.YtofgjlfgpnmmdaaWEqStruct
import Derived.Test.YtofgjlfgpnmmdaaWRepsOne
import Derived.Test.YtofgjlfgpnmmdaaWInv
import Derived.Test.YtofgjlfgpnmmdaaWInvWords
import Derived.Test.YtofgjlfgpnmmdaaWGuard
import Derived.Test.YtofgjlfgpnmmdaaWNEv
import Derived.Test.YtofgjlfgpnmmdaaWMore
namespace Go.Proofs.Ytofgjlfgpnmmdaa.PB
open Go.RowKit Go.Proofs.YtofgjlfgpnmmdaaW.PrintWords Go.Proofs.YtofgjlfgpnmmdaaW.PrintLast Go.Proofs.YtofgjlfgpnmmdaaW.PrintMore
attribute [local go_sem] max2_int min2_int max_two min_two max_three min_three max_four min_four   -- for this text's walks alone
set_option linter.unusedVariables false
set_option linter.unusedSimpArgs false



def errW : Option Int → Value
  | none => .nilIface
  | some c => .iface 0 (.int .i64 c)
theorem errW_none : errW none = .nilIface := rfl
theorem errW_some (c : Int) : errW (some c) = .iface 0 (.int .i64 c) := rfl

-- the values' own types

end Go.Proofs.Ytofgjlfgpnmmdaa.PB
