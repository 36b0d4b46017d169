/- What the later texts stand on (SgnP): plain laws and walks, each by its own conditions. -/
import Derived.Test.YtegaaccioppfjaaGreatDoorFp1
import Derived.Test.YtegaaccioppfjaaGreatDoorFp2
import Derived.Test.YtegaaccioppfjaaGreatDoorFp3
set_option linter.unusedSimpArgs false
set_option linter.unusedVariables false
