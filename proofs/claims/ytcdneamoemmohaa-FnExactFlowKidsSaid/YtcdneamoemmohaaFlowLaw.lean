/- What the law over FlowKids takes. -/
import Derived.Test.YtcdneamoemmohaaFlowS
import Derived.Test.YtcdneamoemmohaaFamTree
