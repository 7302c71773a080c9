/- Contracts and lemmas for the proofs of this seat: Lay2. -/
import Derived.Test.YtfhliikfnhggpaaBase
import Derived.Test.YtfhliikfnhggpaaNum
import Derived.Test.YtfhliikfnhggpaaIv
import Derived.Test.YtfhliikfnhggpaaIv2
import Derived.Test.YtfhliikfnhggpaaDiv
import Derived.Test.YtfhliikfnhggpaaRoot
import Derived.Test.YtfhliikfnhggpaaEn
import Derived.Test.YtfhliikfnhggpaaSeg
import Derived.Test.YtfhliikfnhggpaaList
import Derived.Test.YtfhliikfnhggpaaLay
import Derived.Lib.Hide
import Derived.BigQuiet
import Derived.Deep.QuietTactic
import Derived.Deep.OwnRows
import Derived.Deep.LoopGhost
import Derived.Deep.RegionHeld3
import Derived.Deep.DeepCutAuto
import Derived.StillTailTactics
import Derived.Deep.AppendLies
import Derived.Deep.DrawnRows
namespace Go.Proofs.Ytfhliikfnhggpaa
open Go.RowKit Go.Deep
set_option maxHeartbeats 2000000
set_option linter.unusedVariables false
set_option linter.unusedSimpArgs false

attribute [local go_sem] lt_2 lt_3 lt_4 lt_5 lt_6

end Go.Proofs.Ytfhliikfnhggpaa
