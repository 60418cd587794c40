/-
  Lemmas about the program and the machine (B17 to B17), upon which the last text of this claim rests; no condition.
-/
import Derived.Test.YtnpjncjnmpfgpaaGreatDoorY08
set_option linter.unusedSimpArgs false
set_option linter.unusedVariables false
