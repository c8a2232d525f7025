/- How a row of a slice of Stay reads. Printed by gen_rows.py. -/
import Derived.Test.YtmjbigeeokofeaaGreatDoorTSt
import Derived.Test.YtmjbigeeokofeaaGreatDoorOpen
namespace Go.Proofs.YtmjbigeeokofeaaGreatDoor
open Go.ChangeShapes Go.WideShapes Go.ChangeAt Go.RowKit Go.Deep
set_option maxRecDepth 100000


















end Go.Proofs.YtmjbigeeokofeaaGreatDoor
