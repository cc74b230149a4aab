/- Verification conditions of some of the program's functions, printed by a program of this session. No condition. -/
import Derived.Test.YtaflfjbhlgbmdaaDoorProg
import Derived.Test.YtaflfjbhlgbmdaaDoorEng
namespace Go.Proofs.YtaflfjbhlgbmdaaDoor
open Go Go.RowKit Eng
set_option linter.unusedVariables false


end Go.Proofs.YtaflfjbhlgbmdaaDoor
