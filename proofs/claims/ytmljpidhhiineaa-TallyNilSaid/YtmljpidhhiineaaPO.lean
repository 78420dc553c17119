/- Arguments opened: what reads as data reads by its kind. -/
import Derived.Test.YtmljpidhhiineaaPB
import Derived.ProofKit
import Derived.OpenShut
import Derived.ShutString
import Derived.ChangeOld
import Derived.SizedLaws
import Derived.Deep.Slices
namespace Go.Proofs.Ytmljpidhhiineaa.P
end Go.Proofs.Ytmljpidhhiineaa.P
