/- How a row of a slice of Span reads. Printed by gen_rows.py. -/
import Derived.Test.YtddjedbnikhjkaaGreatDoorTSp
import Derived.Test.YtddjedbnikhjkaaGreatDoorOpen
namespace Go.Proofs.YtddjedbnikhjkaaGreatDoor
open Go.ChangeShapes Go.WideShapes Go.ChangeAt Go.RowKit Go.Deep
set_option maxRecDepth 100000















end Go.Proofs.YtddjedbnikhjkaaGreatDoor
