/- what the walks of this seat import -/
import Derived.Test.YtnkpigibjicmaaaDoorRows
import Derived.Test.YtnkpigibjicmaaaDoorShelf
import Derived.Test.YtnkpigibjicmaaaDoorTplain
import Derived.WalkKit
import Derived.WalkSpells
import Derived.WalkLawsBesides
import Derived.Lib.Hide
import Derived.Deep.RegionHeld3
import Derived.Deep.QuietTactic
