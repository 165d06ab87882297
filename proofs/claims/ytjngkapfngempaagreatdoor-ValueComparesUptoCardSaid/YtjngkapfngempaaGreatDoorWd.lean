/- walks: the reference's Mul, powers -/
import Derived.Test.YtjngkapfngempaaGreatDoorWc
namespace Go.Proofs.YtjngkapfngempaaGreatDoor
open Go.RowKit
open Dcm
end Go.Proofs.YtjngkapfngempaaGreatDoor
