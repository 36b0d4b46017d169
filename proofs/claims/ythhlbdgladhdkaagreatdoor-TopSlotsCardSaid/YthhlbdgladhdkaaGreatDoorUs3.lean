/- What the later texts stand on (SszP): plain laws and walks, each by its own conditions. -/
import Derived.Test.YthhlbdgladhdkaaGreatDoorUs2
set_option linter.unusedSimpArgs false
set_option linter.unusedVariables false
section
namespace Go.Phx

abbrev Bytes := List UInt8
end Go.Phx
end
