/- All functions' texts. -/
import Derived.Test.YtejbicikffhggaaG1
