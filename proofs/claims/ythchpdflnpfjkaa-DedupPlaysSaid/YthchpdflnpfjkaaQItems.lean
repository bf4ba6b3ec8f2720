/- LISTS OF A READER: package wire's items[T]. Printed by gen8.py. -/
import Derived.Test.YthchpdflnpfjkaaQPars
namespace Go.Proofs.Ythchpdflnpfjkaa
open Go.RowKit

end Go.Proofs.Ythchpdflnpfjkaa
