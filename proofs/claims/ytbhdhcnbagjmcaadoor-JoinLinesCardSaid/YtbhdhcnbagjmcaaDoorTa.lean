/- what the walks of this seat import -/
import Derived.Test.YtbhdhcnbagjmcaaDoorRows
import Derived.Test.YtbhdhcnbagjmcaaDoorShelf
import Derived.Test.YtbhdhcnbagjmcaaDoorTplain
import Derived.WalkKit
import Derived.WalkSpells
import Derived.WalkLawsBesides
import Derived.Lib.Hide
import Derived.Deep.RegionHeld3
import Derived.Deep.QuietTactic
