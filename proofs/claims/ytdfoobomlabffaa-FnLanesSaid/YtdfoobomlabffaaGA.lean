/- All functions' texts. -/
import Derived.Test.YtdfoobomlabffaaG1
import Derived.Test.YtdfoobomlabffaaG2
