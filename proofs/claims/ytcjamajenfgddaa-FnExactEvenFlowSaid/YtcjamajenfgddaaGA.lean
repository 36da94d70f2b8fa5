/- All functions' texts. -/
import Derived.Test.YtcjamajenfgddaaG1
import Derived.Test.YtcjamajenfgddaaG2
