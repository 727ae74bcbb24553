/- Part 13 of the proof of: TopLessAsked: for every input the law returns true; each argument reads behind the call as it read before. -/
import Derived.Test.YtolnclkcokckeaaGreatP12

