/- walks: the reference's Parse -/
import Derived.Test.YtjngkapfngempaaDoorWk0
import Derived.Test.YtjngkapfngempaaDoorByt3
namespace Go.Proofs.YtjngkapfngempaaDoor
open Go.RowKit
open Dcm Byt
end Go.Proofs.YtjngkapfngempaaDoor
namespace Go.Proofs.YtjngkapfngempaaDoor
open Go.RowKit
open Dcm Byt
end Go.Proofs.YtjngkapfngempaaDoor
