/- The walk of the law's helper that looks whether points are as they were, with the room behind them. -/
import Derived.Test.YtlipjbfmmheicaaL3
namespace Go.Ab
open Go.Proofs

end Go.Ab
