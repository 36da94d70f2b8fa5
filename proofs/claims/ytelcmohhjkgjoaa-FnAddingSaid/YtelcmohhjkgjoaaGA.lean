/- All functions' texts. -/
import Derived.Test.YtelcmohhjkgjoaaG1
import Derived.Test.YtelcmohhjkgjoaaG2
import Derived.Test.YtelcmohhjkgjoaaG3
import Derived.Test.YtelcmohhjkgjoaaG4
import Derived.Test.YtelcmohhjkgjoaaG5
