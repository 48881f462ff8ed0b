-- printed for this claim by wip/pr.py (the kit's print tool, with given contracts): Lean checks it
import Derived.Test.YtnpnablnnfekkaaDoorPAllx0
import Derived.Test.YtnpnablnnfekkaaDoorPAllx1
import Derived.Test.YtnpnablnnfekkaaDoorPAllx2
import Derived.Test.YtnpnablnnfekkaaDoorPAllx3
import Derived.Test.YtnpnablnnfekkaaDoorPAllx4
import Derived.Test.YtnpnablnnfekkaaDoorPAllx5
namespace Go.Proofs.YtnpnablnnfekkaaDoor.PAll
open Go.RowKit Go.Proofs.YtnpnablnnfekkaaDoorW.PrintWords Go.Proofs.YtnpnablnnfekkaaDoorW.PrintLast Go.Proofs.YtnpnablnnfekkaaDoorW.PrintMore
attribute [local go_sem] max2_int min2_int max_two min_two max_three min_three max_four min_four   -- for this text's walks alone
set_option linter.unusedVariables false
set_option linter.unusedSimpArgs false

end Go.Proofs.YtnpnablnnfekkaaDoor.PAll
