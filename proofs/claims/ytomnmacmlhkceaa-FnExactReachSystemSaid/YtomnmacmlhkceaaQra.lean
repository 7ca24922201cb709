/- The pure layer: contracts of functions whose results are some of which something is so. No function of the program is named here. -/
import Derived.Test.YtomnmacmlhkceaaQr
set_option linter.unusedVariables false
set_option linter.unusedSimpArgs false
namespace Go.Proofs.Ytomnmacmlhkceaa
open Go
variable {S : Setting} {ρ : Nat → Nm} {a : Act} {w : World} {σ : Env} {st : Store}
end Go.Proofs.Ytomnmacmlhkceaa
