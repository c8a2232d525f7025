/- Walks: slices.IndexFunc and slices.ContainsFunc at slices of int64. Printed by gen_fidx.py. -/
import Derived.Test.YtihmacmieofbgaaGreatDoorTI
import Derived.Test.YtihmacmieofbgaaGreatDoorFix
namespace Go.Proofs.YtihmacmieofbgaaGreatDoor
open Go.ChangeShapes Go.WideShapes Go.ChangeAt Go.RowKit


























































end Go.Proofs.YtihmacmieofbgaaGreatDoor
