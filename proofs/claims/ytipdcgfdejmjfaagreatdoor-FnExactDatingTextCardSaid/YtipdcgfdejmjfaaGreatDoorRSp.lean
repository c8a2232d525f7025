/- How a row of a slice of Span reads. Printed by gen_rows.py. -/
import Derived.Test.YtipdcgfdejmjfaaGreatDoorTSp
import Derived.Test.YtipdcgfdejmjfaaGreatDoorOpen
namespace Go.Proofs.YtipdcgfdejmjfaaGreatDoor
open Go.ChangeShapes Go.WideShapes Go.ChangeAt Go.RowKit Go.Deep
set_option maxRecDepth 100000















end Go.Proofs.YtipdcgfdejmjfaaGreatDoor
