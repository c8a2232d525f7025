/- How a row of a slice of Span reads. Printed by gen_rows.py. -/
import Derived.Test.YtipdcgfdejmjfaaDoorTSp
import Derived.Test.YtipdcgfdejmjfaaDoorOpen
namespace Go.Proofs.YtipdcgfdejmjfaaDoor
open Go.ChangeShapes Go.WideShapes Go.ChangeAt Go.RowKit Go.Deep
set_option maxRecDepth 100000















end Go.Proofs.YtipdcgfdejmjfaaDoor
