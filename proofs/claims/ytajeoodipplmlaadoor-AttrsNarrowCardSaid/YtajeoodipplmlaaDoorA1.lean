/-
  THE EXAMPLE OF LAYER 4, BY ITS RUN.
-/
import Derived.Test.YtajeoodipplmlaaDoorT2
import Derived.Test.YtajeoodipplmlaaDoorAbs23
set_option linter.all false
namespace Go.Abs
open Go Go.Proofs
theorem law04_awake_ok : ACX Go.Proofs.Tryd.prog G0 9 [] [] [] (.l (.bool true)) [] [] := acx_true (by kernel_rfl) 3000 (by kernel_rfl)
end Go.Abs
