/-
 The reference: errors, what can be opened, first forms, rests.
-/
import Derived.Test.YtmpbbkldopfkpaaDoorL4
import Derived.Test.YtmpbbkldopfkpaaDoorQM68
import Derived.Test.YtmpbbkldopfkpaaDoorQM52
import Derived.Test.YtmpbbkldopfkpaaDoorQM67
import Derived.Test.YtmpbbkldopfkpaaDoorQM64
import Derived.Test.YtmpbbkldopfkpaaDoorQM48
import Derived.Test.YtmpbbkldopfkpaaDoorQM44
import Derived.Test.YtmpbbkldopfkpaaDoorQM54
import Derived.Test.YtmpbbkldopfkpaaDoorQM55
import Derived.Test.YtmpbbkldopfkpaaDoorQM45
import Derived.Test.YtmpbbkldopfkpaaDoorQM14
import Derived.Test.YtmpbbkldopfkpaaDoorQM12
namespace Go.Proofs.YtmpbbkldopfkpaaDoor
open Go.RowKit
set_option linter.unusedVariables false

def bytesI (w : Wd) : List Int := w.map fun b => (b.toNat : Int)
theorem toBytes_I (w : Wd) : toBytes (bytesI w) = w := by
 unfold toBytes bytesI
 rw [List.map_map]
 exact (List.map_congr_left fun b _ => by simp).trans (List.map_id w)
end Go.Proofs.YtmpbbkldopfkpaaDoor
