/-
  Contracts of package spans, fourth: merged.
-/
import Derived.Test.YteodkmndghaidaaDoorSpaC
namespace Go.Proofs.YteodkmndghaidaaDoor
open Go.RowKit
set_option linter.unusedVariables false
set_option linter.unusedSimpArgs false


end Go.Proofs.YteodkmndghaidaaDoor
