/- Functions of the program in plain words, with the ways that show it; written by a program of this session, checked by Lean. -/
import Derived.Test.YtnoaglgjhgnnfaaSn
set_option maxRecDepth 1000000
set_option linter.unusedVariables false
namespace Go.Proofs.Ytnoaglgjhgnnfaa.Ag
open Go Go.RowKit Go.Proofs.Ytnoaglgjhgnnfaa.Av Go.Proofs.Ytnoaglgjhgnnfaa.AvT Go.Proofs.Ytnoaglgjhgnnfaa.AvS

end Go.Proofs.Ytnoaglgjhgnnfaa.Ag
