/- Verification conditions of some of the program's functions, printed by a program of this session. No condition. -/
import Derived.Test.YthhbjhdnaopcnaaDoorProg
import Derived.Test.YthhbjhdnaopcnaaDoorEng
namespace Go.Proofs.YthhbjhdnaopcnaaDoor
open Go Go.RowKit Eng
set_option linter.unusedVariables false


end Go.Proofs.YthhbjhdnaopcnaaDoor
