/- What the law over ApartKids takes. -/
import Derived.Test.YtcdneamoemmohaaApartS
import Derived.Test.YtcdneamoemmohaaFamTree
