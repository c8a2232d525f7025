/- How a row of a slice of Span reads. Printed by gen_rows.py. -/
import Derived.Test.YteajkofgcmfaoaaGreatDoorTSp
import Derived.Test.YteajkofgcmfaoaaGreatDoorOpen
namespace Go.Proofs.YteajkofgcmfaoaaGreatDoor
open Go.ChangeShapes Go.WideShapes Go.ChangeAt Go.RowKit Go.Deep
set_option maxRecDepth 100000















end Go.Proofs.YteajkofgcmfaoaaGreatDoor
