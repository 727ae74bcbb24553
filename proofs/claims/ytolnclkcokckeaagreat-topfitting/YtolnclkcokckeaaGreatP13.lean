/- Part 13 of the proof of: For every input the law TopFitting returns true: the windows of a passage and the first time at which it fits into them are the first time at which the permits let it begin. -/
import Derived.Test.YtolnclkcokckeaaGreatP12

