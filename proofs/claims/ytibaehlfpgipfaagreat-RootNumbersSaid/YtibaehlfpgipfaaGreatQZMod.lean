/- NUMBERS TAKEN INTO A ROUND: 'int(uint(x) % uint(n))', each step as one thing. -/
import Derived.Test.YtibaehlfpgipfaaGreatQZBase
namespace Go.Proofs.YtibaehlfpgipfaaGreat
open Go.RowKit
end Go.Proofs.YtibaehlfpgipfaaGreat
