/- All functions' texts. -/
import Derived.Test.YthocjpfibegjcaaGreatDoorG1
import Derived.Test.YthocjpfibegjcaaGreatDoorG2
import Derived.Test.YthocjpfibegjcaaGreatDoorG3
