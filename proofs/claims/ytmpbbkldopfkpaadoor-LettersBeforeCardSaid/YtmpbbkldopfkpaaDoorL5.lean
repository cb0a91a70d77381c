/-
  The reference: errors, what can be opened, first forms, rests.
-/
import Derived.Test.YtmpbbkldopfkpaaDoorL4
import Derived.Test.YtmpbbkldopfkpaaDoorQM68
import Derived.Test.YtmpbbkldopfkpaaDoorQM52
import Derived.Test.YtmpbbkldopfkpaaDoorQM67
import Derived.Test.YtmpbbkldopfkpaaDoorQM64
import Derived.Test.YtmpbbkldopfkpaaDoorQM48
import Derived.Test.YtmpbbkldopfkpaaDoorQM44
import Derived.Test.YtmpbbkldopfkpaaDoorQM54
import Derived.Test.YtmpbbkldopfkpaaDoorQM55
import Derived.Test.YtmpbbkldopfkpaaDoorQM45
import Derived.Test.YtmpbbkldopfkpaaDoorQM14
import Derived.Test.YtmpbbkldopfkpaaDoorQM12
namespace Go.Proofs.YtmpbbkldopfkpaaDoor
open Go.RowKit
set_option linter.unusedVariables false

end Go.Proofs.YtmpbbkldopfkpaaDoor
