/- All functions' texts. -/
import Derived.Test.YthgjegbckkpaiaaG1
import Derived.Test.YthgjegbckkpaiaaG2
