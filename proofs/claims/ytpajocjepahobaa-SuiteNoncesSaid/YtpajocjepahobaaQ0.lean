-- written by wip/gen.py, a program of this session, by way of the kit's print.py; Lean checks it
import Derived.Test.YtpajocjepahobaaProg
import Derived.Test.YtpajocjepahobaaG0
import Derived.Below
import Derived.Deep.Draws
import Derived.Deep.AppendLies
import Derived.Maps.AppendAt
import Derived.OwnWalk
import Derived.Laws.BytesArg
import Derived.Laws.MakeOwn
import Derived.Laws.OwnMore
import Derived.Deep.OwnRows
import Derived.Tactics
import Derived.Lib.ConvBytes
import Derived.Laws.Slices
import Derived.WalkKit
import Derived.KernelRfl
import Derived.RowKit3
import Derived.Deep.LoopGhost
import Derived.Deep.QuietTactic
import Derived.BigQuiet
import Derived.WideLaws
import Derived.Deep.DeepCutAuto
import Derived.Deep.CutBlock
import Derived.Deep.RegionHeld3
import Derived.Laws.Rows
import Derived.Lib.AppendStr
import Derived.ArgAppend
import Derived.Laws.IdiomCopy
import Derived.OrdersHeld
import Derived.Laws.BitsLemmas
import Derived.RowKit
import Derived.Test.YtpajocjepahobaaWWords
import Derived.Test.YtpajocjepahobaaWLast
import Derived.Test.YtpajocjepahobaaWTab
import Derived.Test.YtpajocjepahobaaWQPut
import Derived.Test.YtpajocjepahobaaWApart
import Derived.Test.YtpajocjepahobaaWArr
import Derived.Test.YtpajocjepahobaaWZeros
import Derived.Test.YtpajocjepahobaaWFoot
import Derived.Test.YtpajocjepahobaaWKept
import Derived.Test.YtpajocjepahobaaWShare
import Derived.Test.YtpajocjepahobaaWN
import Derived.Test.YtpajocjepahobaaWRepsOne
import Derived.Test.YtpajocjepahobaaWGuard
import Derived.Test.YtpajocjepahobaaWNEv
import Derived.Test.YtpajocjepahobaaWMore
namespace Go.Proofs.Ytpajocjepahobaa.Q
open Go.RowKit Go.Proofs.Ytpajocjepahobaa.G Go.Proofs.YtpajocjepahobaaW.PrintWords Go.Proofs.YtpajocjepahobaaW.PrintLast Go.Proofs.YtpajocjepahobaaW.PrintMore
attribute [local go_sem] max2_int min2_int max_two min_two max_three min_three max_four min_four   -- for this text's walks alone
set_option linter.unusedVariables false
set_option linter.unusedSimpArgs false

theorem bne_nil_ (l : List UInt8) : (l != []) = !l.isEmpty := by cases l <;> rfl
theorem beq_nil_ (l : List UInt8) : (l == []) = l.isEmpty := by cases l <;> rfl



def errW : Option Int → Value
  | none => .nilIface
  | some c => .iface 0 (.int .i64 c)
theorem errW_none : errW none = .nilIface := rfl
theorem errW_some (c : Int) : errW (some c) = .iface 0 (.int .i64 c) := rfl

theorem info3 : (Try.prog.info? 3).map (fun i => (i.zero, i.size, i.bytes)) = some (some (.int .i64 0), 1, 8) := by kernel_rfl
theorem info5 : (Try.prog.info? 5).map (fun i => (i.zero, i.size, i.bytes)) = some (some (.int .u8 0), 1, 1) := by kernel_rfl
-- the values' own types

end Go.Proofs.Ytpajocjepahobaa.Q
