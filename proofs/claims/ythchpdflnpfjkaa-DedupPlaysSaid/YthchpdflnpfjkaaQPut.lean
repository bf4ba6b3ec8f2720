/- THE WALKS of package wire's writer on lists and structs. Printed by gen4.py. -/
import Derived.Test.YthchpdflnpfjkaaQPre
namespace Go.Proofs.Ythchpdflnpfjkaa
open Go.RowKit

end Go.Proofs.Ythchpdflnpfjkaa
