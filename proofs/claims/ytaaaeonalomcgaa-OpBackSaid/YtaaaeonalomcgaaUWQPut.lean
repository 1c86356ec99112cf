/- Lemmas and walks that the claim's texts use, laid by a program out of the print. No condition. -/
import Derived.Test.YtaaaeonalomcgaaUWWords
import Derived.Test.YtaaaeonalomcgaaUWLast
namespace Go.Proofs.YtaaaeonalomcgaaW.PrintWords
open Go.RowKit
namespace Kd
end Kd
end Go.Proofs.YtaaaeonalomcgaaW.PrintWords
