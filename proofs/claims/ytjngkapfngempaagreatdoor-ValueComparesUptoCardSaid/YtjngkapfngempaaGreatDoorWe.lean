/- walks: powers -/
import Derived.Test.YtjngkapfngempaaGreatDoorWd
import Derived.Test.YtjngkapfngempaaGreatDoorPlain2
namespace Go.Proofs.YtjngkapfngempaaGreatDoor
open Go.RowKit
open Dcm
end Go.Proofs.YtjngkapfngempaaGreatDoor
