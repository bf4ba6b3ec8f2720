/- ROWS: copies of elements of any size, rows known whole. Printed by genIns.py and mac.py. -/
import Derived.Test.YtibaehlfpgipfaaGreatQZRtT
import Derived.Test.YtibaehlfpgipfaaGreatQZScU
import Derived.Test.YtibaehlfpgipfaaGreatQZRoX
import Derived.Test.YtibaehlfpgipfaaGreatQZLst
import Derived.Lib.AppendZerosOnto
import Derived.Lib.Overlaps
import Derived.Laws.CopyRow
import Derived.Deep.RegionLaw
import Derived.Laws.Externs
import Derived.Maps.AppendAt
namespace Go.Proofs.YtibaehlfpgipfaaGreat
open Go.RowKit
end Go.Proofs.YtibaehlfpgipfaaGreat
