/- SCHEMA: a struct in a new block; columns that may be written; what all laws hold. Printed by mac.py. -/
import Derived.Test.YtibaehlfpgipfaaGreatQZSchAll
import Derived.Test.YtibaehlfpgipfaaGreatQZRtAll
namespace Go.Proofs.YtibaehlfpgipfaaGreat
open Go.RowKit
end Go.Proofs.YtibaehlfpgipfaaGreat
