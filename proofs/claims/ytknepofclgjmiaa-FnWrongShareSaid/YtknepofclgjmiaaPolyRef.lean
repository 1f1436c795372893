/- The walks of the reference's interpolation over a small prime field, and its test of the points. -/
import Derived.Test.YtknepofclgjmiaaPoly
namespace Go.Proofs.Ytknepofclgjmiaa
open Go.RowKit

end Go.Proofs.Ytknepofclgjmiaa
