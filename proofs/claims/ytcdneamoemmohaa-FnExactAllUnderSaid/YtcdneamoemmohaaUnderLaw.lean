/- What the law over AllUnder takes. -/
import Derived.Test.YtcdneamoemmohaaUnderF
import Derived.Test.YtcdneamoemmohaaFamTree
