/- Verification conditions of some of the program's functions, printed by a program of this session. No condition. -/
import Derived.Test.YtindbeolpjkijaaProg
import Derived.Test.YtindbeolpjkijaaEng
namespace Go.Proofs.Ytindbeolpjkijaa
open Go Go.RowKit Eng
set_option linter.unusedVariables false


end Go.Proofs.Ytindbeolpjkijaa
