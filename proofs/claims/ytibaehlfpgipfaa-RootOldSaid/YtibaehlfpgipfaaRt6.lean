/- ROUTE: New, Group, awake, small; the keys of a span that a group has. Printed by mac.py. -/
import Derived.Test.YtibaehlfpgipfaaRt5
namespace Go.Proofs.Ytibaehlfpgipfaa
open Go.RowKit

section
attribute [local go_sem ↓] ldz_Routes
end
end Go.Proofs.Ytibaehlfpgipfaa
