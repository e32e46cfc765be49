/-
The law on mortar beside the opener of its arguments. No condition.
-/
import Derived.Test.YtgifakacnneleaaLXMortar
import Derived.Test.YtgifakacnneleaaOpU
namespace Go.Proofs.Ytgifakacnneleaa
end Go.Proofs.Ytgifakacnneleaa
