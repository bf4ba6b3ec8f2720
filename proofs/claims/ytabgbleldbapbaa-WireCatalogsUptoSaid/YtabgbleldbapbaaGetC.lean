/- LISTS OF A READER: package wire's items[T]. Printed by gen8.py. -/
import Derived.Test.YtabgbleldbapbaaGetA
import Derived.Deep.RegionHeld3
namespace Go.Proofs.Ytabgbleldbapbaa
open Go.RowKit

end Go.Proofs.Ytabgbleldbapbaa
