/- THE WALKS of the reference's writer on lists and structs. Printed by gen5.py. -/
import Derived.Test.YthchpdflnpfjkaaQPre
namespace Go.Proofs.Ythchpdflnpfjkaa
open Go.RowKit

end Go.Proofs.Ythchpdflnpfjkaa
