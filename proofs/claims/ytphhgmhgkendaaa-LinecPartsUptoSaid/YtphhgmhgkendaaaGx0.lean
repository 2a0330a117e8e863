-- Written by a program of this session: a turned copy of the kit's printer, to which some functions are given as proved by hand. Not trusted: Lean checks it.
import Derived.Test.YtphhgmhgkendaaaOf
import Derived.Below
import Derived.Deep.Draws
import Derived.Deep.AppendLies
import Derived.Maps.AppendAt
import Derived.OwnWalk
import Derived.Laws.BytesArg
import Derived.Laws.MakeOwn
import Derived.Laws.OwnMore
import Derived.Deep.OwnRows
import Derived.Tactics
import Derived.Lib.ConvBytes
import Derived.Laws.Slices
import Derived.WalkKit
import Derived.KernelRfl
import Derived.RowKit3
import Derived.Deep.LoopGhost
import Derived.Deep.QuietTactic
import Derived.BigQuiet
import Derived.WideLaws
import Derived.Deep.DeepCutAuto
import Derived.Deep.CutBlock
import Derived.Deep.RegionHeld3
import Derived.Laws.Rows
import Derived.Lib.AppendStr
import Derived.ArgAppend
import Derived.Laws.IdiomCopy
import Derived.OrdersHeld
import Derived.Laws.BitsLemmas
import Derived.RowKit
import Derived.Test.YtphhgmhgkendaaaWWords
import Derived.Test.YtphhgmhgkendaaaWLast
import Derived.Test.YtphhgmhgkendaaaWTab
import Derived.Test.YtphhgmhgkendaaaWFour
import Derived.Test.YtphhgmhgkendaaaWQPut
import Derived.Test.YtphhgmhgkendaaaWApart
import Derived.Test.YtphhgmhgkendaaaWArr
import Derived.Test.YtphhgmhgkendaaaWZeros
import Derived.Test.YtphhgmhgkendaaaWFoot
import Derived.Test.YtphhgmhgkendaaaWKept
import Derived.Test.YtphhgmhgkendaaaWShare
import Derived.Test.YtphhgmhgkendaaaWN
import Derived.Test.YtphhgmhgkendaaaWFootNe
import Derived.Test.YtphhgmhgkendaaaWAt
import Derived.Test.YtphhgmhgkendaaaWEqStruct
import Derived.Test.YtphhgmhgkendaaaWRepsOne
import Derived.Test.YtphhgmhgkendaaaWInv
import Derived.Test.YtphhgmhgkendaaaWInvWords
import Derived.Test.YtphhgmhgkendaaaWGuard
import Derived.Test.YtphhgmhgkendaaaWNEv
import Derived.Test.YtphhgmhgkendaaaWMore
namespace Go.Proofs.Ytphhgmhgkendaaa.G
open Go.RowKit Go.Proofs.YtphhgmhgkendaaaW.PrintWords Go.Proofs.YtphhgmhgkendaaaW.PrintLast Go.Proofs.YtphhgmhgkendaaaW.PrintMore
attribute [local go_sem] max2_int min2_int max_two min_two max_three min_three max_four min_four   -- for this text's walks alone
set_option linter.unusedVariables false
set_option linter.unusedSimpArgs false



def errW : Option Int → Value
  | none => .nilIface
  | some c => .iface 0 (.int .i64 c)
theorem errW_none : errW none = .nilIface := rfl
theorem errW_some (c : Int) : errW (some c) = .iface 0 (.int .i64 c) := rfl

theorem info21 : (Try.prog.info? 21).map (fun i => (i.zero, i.size, i.bytes)) = some (some (.int .i32 0), 1, 4) := by kernel_rfl
-- the values' own types

end Go.Proofs.Ytphhgmhgkendaaa.G
