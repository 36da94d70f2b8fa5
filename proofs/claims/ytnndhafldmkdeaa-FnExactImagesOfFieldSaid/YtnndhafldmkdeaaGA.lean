/- All functions' texts. -/
import Derived.Test.YtnndhafldmkdeaaG1
import Derived.Test.YtnndhafldmkdeaaG2
