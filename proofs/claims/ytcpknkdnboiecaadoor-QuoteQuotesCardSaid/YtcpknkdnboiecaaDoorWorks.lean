/- The chapter's examples hold: closed. -/
import Derived.Test.YtcpknkdnboiecaaDoorFDriftnetlaw04Works
namespace Go.Proofs.YtcpknkdnboiecaaDoor
open Go
theorem works_true : P.driftnetlaw04_works.f = some true := by decide +kernel
end Go.Proofs.YtcpknkdnboiecaaDoor
