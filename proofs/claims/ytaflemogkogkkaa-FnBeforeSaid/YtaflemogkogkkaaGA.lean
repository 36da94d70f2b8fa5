/- All functions' texts. -/
import Derived.Test.YtaflemogkogkkaaG1
