/- The types of laws.markPolyS, which is proved by hand. -/
import Derived.Test.YtkoifikjfnbcpaaEvTst
namespace Go.Proofs.YtkoifikjfnbcpaaEv
open Go Go.RowKit
abbrev R27 : Type := Ress [.slice 58 poly, i64]
abbrev G27 : Type := Args [.v (.slice 58 poly), .v i64] → Option R27
end Go.Proofs.YtkoifikjfnbcpaaEv
