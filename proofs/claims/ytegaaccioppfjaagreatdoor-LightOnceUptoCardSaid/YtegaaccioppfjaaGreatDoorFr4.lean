/- What the later texts stand on (SgnP): plain laws and walks, each by its own conditions. -/
import Derived.Test.YtegaaccioppfjaaGreatDoorFr1
import Derived.Test.YtegaaccioppfjaaGreatDoorFr2
import Derived.Test.YtegaaccioppfjaaGreatDoorFr3
set_option linter.unusedSimpArgs false
set_option linter.unusedVariables false
