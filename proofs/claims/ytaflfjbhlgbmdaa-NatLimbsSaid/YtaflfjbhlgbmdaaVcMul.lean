/- Verification conditions of some of the program's functions, printed by a program of this session. No condition. -/
import Derived.Test.YtaflfjbhlgbmdaaProg
import Derived.Test.YtaflfjbhlgbmdaaEng
namespace Go.Proofs.Ytaflfjbhlgbmdaa
open Go Go.RowKit Eng
set_option linter.unusedVariables false


end Go.Proofs.Ytaflfjbhlgbmdaa
