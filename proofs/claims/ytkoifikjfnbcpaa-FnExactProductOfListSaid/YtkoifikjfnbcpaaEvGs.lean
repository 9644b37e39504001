/- The kind of sum.poly: what it takes and gives. No condition. -/
import Derived.Test.YtkoifikjfnbcpaaEvFe
namespace Go.Proofs.YtkoifikjfnbcpaaEv
open Go Go.RowKit
abbrev R103 : Type := Ress [poly]
abbrev G103 : Type := Args [.m ex i64, .v i64, .v i64] → Option R103
end Go.Proofs.YtkoifikjfnbcpaaEv
