/- Lemmas and walks that the claim's texts use, laid by a program out of the print. No condition. -/
import Derived.Test.YtaaaeonalomcgaaUWInv
import Derived.Test.YtaaaeonalomcgaaUWFootNe
namespace Go.Proofs.YtaaaeonalomcgaaW.PrintWords
open Go.RowKit
end Go.Proofs.YtaaaeonalomcgaaW.PrintWords
namespace Go.Proofs.YtaaaeonalomcgaaW.PrintLast
end Go.Proofs.YtaaaeonalomcgaaW.PrintLast
