/- All functions' texts. -/
import Derived.Test.YtkehomlkgcfjnaaG1
