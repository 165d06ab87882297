/- walks: the reference's Parse -/
import Derived.Test.YtjngkapfngempaaGreatDoorWk0
import Derived.Test.YtjngkapfngempaaGreatDoorByt3
namespace Go.Proofs.YtjngkapfngempaaGreatDoor
open Go.RowKit
open Dcm Byt
end Go.Proofs.YtjngkapfngempaaGreatDoor
namespace Go.Proofs.YtjngkapfngempaaGreatDoor
open Go.RowKit
open Dcm Byt
end Go.Proofs.YtjngkapfngempaaGreatDoor
