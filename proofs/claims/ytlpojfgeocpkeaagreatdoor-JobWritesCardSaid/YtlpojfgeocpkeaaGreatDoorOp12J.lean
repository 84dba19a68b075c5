/- Contracts: what a crash leaves of a file. -/
import Derived.Test.YtlpojfgeocpkeaaGreatDoorX03
namespace Go.Proofs.YtlpojfgeocpkeaaGreatDoor
open Go.RowKit
set_option linter.unusedVariables false
set_option linter.unusedSimpArgs false
end Go.Proofs.YtlpojfgeocpkeaaGreatDoor
