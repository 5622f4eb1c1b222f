/-
  OF NIL THERE IS NOTHING: the law's call, by its run.
-/
import Derived.Test.YtgdcllbfeghloaaDoorG1
set_option linter.all false
namespace Go.Abs
open Go Go.Proofs
theorem law_SessionNobody_ok (n : Int) : ACX Go.Proofs.Tryd.prog G0 4 [.l (.int .i64 n)] [] [] (.l (.bool true)) [] [] := acx_true (by kernel_rfl) 3000 (by kernel_rfl)
end Go.Abs
