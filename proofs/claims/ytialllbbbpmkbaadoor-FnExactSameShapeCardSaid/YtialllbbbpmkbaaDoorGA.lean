/- All functions' texts. -/
import Derived.Test.YtialllbbbpmkbaaDoorG1
import Derived.Test.YtialllbbbpmkbaaDoorG2
