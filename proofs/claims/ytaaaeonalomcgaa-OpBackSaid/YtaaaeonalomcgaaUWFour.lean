/- Lemmas and walks that the claim's texts use, laid by a program out of the print. No condition. -/
import Derived.Test.YtaaaeonalomcgaaUWTab
namespace Go.Proofs.YtaaaeonalomcgaaW.PrintLast
end Go.Proofs.YtaaaeonalomcgaaW.PrintLast
