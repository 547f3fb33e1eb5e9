-- written by wip/gen.py, a program of this session, by way of the kit's print.py; Lean checks it
import Derived.Test.YtpajocjepahobaaDoorProg
import Derived.Below
import Derived.Deep.Draws
import Derived.Deep.AppendLies
import Derived.Maps.AppendAt
import Derived.OwnWalk
import Derived.Laws.BytesArg
import Derived.Laws.MakeOwn
import Derived.Laws.OwnMore
import Derived.Deep.OwnRows
import Derived.Tactics
import Derived.Lib.ConvBytes
import Derived.Laws.Slices
import Derived.WalkKit
import Derived.KernelRfl
import Derived.RowKit3
import Derived.Deep.LoopGhost
import Derived.Deep.QuietTactic
import Derived.BigQuiet
import Derived.WideLaws
import Derived.Deep.DeepCutAuto
import Derived.Deep.CutBlock
import Derived.Deep.RegionHeld3
import Derived.Laws.Rows
import Derived.Lib.AppendStr
import Derived.ArgAppend
import Derived.Laws.IdiomCopy
import Derived.OrdersHeld
import Derived.Laws.BitsLemmas
import Derived.RowKit
import Derived.Test.YtpajocjepahobaaDoorWWords
import Derived.Test.YtpajocjepahobaaDoorWLast
import Derived.Test.YtpajocjepahobaaDoorWTab
import Derived.Test.YtpajocjepahobaaDoorWQPut
import Derived.Test.YtpajocjepahobaaDoorWApart
import Derived.Test.YtpajocjepahobaaDoorWArr
import Derived.Test.YtpajocjepahobaaDoorWZeros
import Derived.Test.YtpajocjepahobaaDoorWFoot
import Derived.Test.YtpajocjepahobaaDoorWKept
import Derived.Test.YtpajocjepahobaaDoorWShare
import Derived.Test.YtpajocjepahobaaDoorWN
import Derived.Test.YtpajocjepahobaaDoorWRepsOne
import Derived.Test.YtpajocjepahobaaDoorWGuard
import Derived.Test.YtpajocjepahobaaDoorWNEv
import Derived.Test.YtpajocjepahobaaDoorWMore
namespace Go.Proofs.YtpajocjepahobaaDoor.G
open Go.RowKit Go.Proofs.YtpajocjepahobaaDoorW.PrintWords Go.Proofs.YtpajocjepahobaaDoorW.PrintLast Go.Proofs.YtpajocjepahobaaDoorW.PrintMore
attribute [local go_sem] max2_int min2_int max_two min_two max_three min_three max_four min_four   -- for this text's walks alone
set_option linter.unusedVariables false
set_option linter.unusedSimpArgs false

theorem bne_nil_ (l : List UInt8) : (l != []) = !l.isEmpty := by cases l <;> rfl
theorem beq_nil_ (l : List UInt8) : (l == []) = l.isEmpty := by cases l <;> rfl



def errW : Option Int → Value
  | none => .nilIface
  | some c => .iface 0 (.int .i64 c)
theorem errW_none : errW none = .nilIface := rfl
theorem errW_some (c : Int) : errW (some c) = .iface 0 (.int .i64 c) := rfl

-- the values' own types

end Go.Proofs.YtpajocjepahobaaDoor.G
