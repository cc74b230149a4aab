/- Verification conditions of some of the program's functions, printed by a program of this session. No condition. -/
import Derived.Test.YtflipimlpgbnmaaProg
import Derived.Test.YtflipimlpgbnmaaEng
namespace Go.Proofs.Ytflipimlpgbnmaa
open Go Go.RowKit Eng
set_option linter.unusedVariables false


end Go.Proofs.Ytflipimlpgbnmaa
