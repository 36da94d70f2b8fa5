/- All functions' texts. -/
import Derived.Test.YthbffbpdoankjaaG1
import Derived.Test.YthbffbpdoankjaaG2
import Derived.Test.YthbffbpdoankjaaG3
