/- ROUTE: the reference's Right: the region that tests a round. Printed by mac.py. -/
import Derived.Test.YtpblmaklbnpbfaaRtW
import Derived.Test.YtpblmaklbnpbfaaOpt
namespace Go.Proofs.Ytpblmaklbnpbfaa
noncomputable def reg7 : Code := ((Try.f9.body.bind (regionAt 7)).getD .skip)
end Go.Proofs.Ytpblmaklbnpbfaa
