-- printed for this claim by wip/pr.py (the kit's print tool, with given contracts): Lean checks it
import Derived.Test.YtnpnablnnfekkaaDoorProg
import Derived.Below
import Derived.Deep.Draws
import Derived.Deep.AppendLies
import Derived.Maps.AppendAt
import Derived.OwnWalk
import Derived.Laws.BytesArg
import Derived.Laws.MakeOwn
import Derived.Laws.OwnMore
import Derived.Deep.OwnRows
import Derived.Tactics
import Derived.Lib.ConvBytes
import Derived.Laws.Slices
import Derived.WalkKit
import Derived.KernelRfl
import Derived.RowKit3
import Derived.Deep.LoopGhost
import Derived.Deep.QuietTactic
import Derived.BigQuiet
import Derived.WideLaws
import Derived.Deep.DeepCutAuto
import Derived.Deep.CutBlock
import Derived.Deep.RegionHeld3
import Derived.Laws.Rows
import Derived.Lib.AppendStr
import Derived.ArgAppend
import Derived.Laws.IdiomCopy
import Derived.OrdersHeld
import Derived.Laws.BitsLemmas
import Derived.RowKit
import Derived.Test.YtnpnablnnfekkaaDoorWWords
import Derived.Test.YtnpnablnnfekkaaDoorWLast
import Derived.Test.YtnpnablnnfekkaaDoorWTab
import Derived.Test.YtnpnablnnfekkaaDoorWFour
import Derived.Test.YtnpnablnnfekkaaDoorWQPut
import Derived.Test.YtnpnablnnfekkaaDoorWApart
import Derived.Test.YtnpnablnnfekkaaDoorWArr
import Derived.Test.YtnpnablnnfekkaaDoorWZeros
import Derived.Test.YtnpnablnnfekkaaDoorWFoot
import Derived.Test.YtnpnablnnfekkaaDoorWKept
import Derived.Test.YtnpnablnnfekkaaDoorWShare
import Derived.Test.YtnpnablnnfekkaaDoorWN
import Derived.Test.YtnpnablnnfekkaaDoorWFootNe
import Derived.Test.YtnpnablnnfekkaaDoorWAt
import Derived.Test.YtnpnablnnfekkaaDoorWEqStruct
import Derived.Test.YtnpnablnnfekkaaDoorWRepsOne
import Derived.Test.YtnpnablnnfekkaaDoorWInv
import Derived.Test.YtnpnablnnfekkaaDoorWInvWords
import Derived.Test.YtnpnablnnfekkaaDoorWGuard
import Derived.Test.YtnpnablnnfekkaaDoorWNEv
import Derived.Test.YtnpnablnnfekkaaDoorWMore
namespace Go.Proofs.YtnpnablnnfekkaaDoor.PAll
open Go.RowKit Go.Proofs.YtnpnablnnfekkaaDoorW.PrintWords Go.Proofs.YtnpnablnnfekkaaDoorW.PrintLast Go.Proofs.YtnpnablnnfekkaaDoorW.PrintMore
attribute [local go_sem] max2_int min2_int max_two min_two max_three min_three max_four min_four   -- for this text's walks alone
set_option linter.unusedVariables false
set_option linter.unusedSimpArgs false



def errW : Option Int → Value
  | none => .nilIface
  | some c => .iface 0 (.int .i64 c)
theorem errW_none : errW none = .nilIface := rfl
theorem errW_some (c : Int) : errW (some c) = .iface 0 (.int .i64 c) := rfl

theorem info9 : (Tryd.prog.info? 9).map (fun i => (i.zero, i.size, i.bytes)) = some (some (.string ⟨#[]⟩), 1, 16) := by kernel_rfl
-- the values' own types

end Go.Proofs.YtnpnablnnfekkaaDoor.PAll
