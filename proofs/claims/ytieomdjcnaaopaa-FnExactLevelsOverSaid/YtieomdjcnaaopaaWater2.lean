/- ValidWater, NetOf. -/
import Derived.Test.YtieomdjcnaaopaaWater
namespace Go.Proofs.Ytieomdjcnaaopaa
open Go.RowKit
set_option linter.unusedVariables false

def netOf (x : W5) : Int × Int := if waB x then (netW x, 0) else (0, 1)
end Go.Proofs.Ytieomdjcnaaopaa
