/-
  Texts put together: Dt.
-/
import Derived.Test.YtnphokhehacfnaaGreatDoorRz90
import Derived.Test.YtnphokhehacfnaaGreatDoorRz91
namespace Go.Proofs.YtnphokhehacfnaaGreatDoor
open Go.RowKit

end Go.Proofs.YtnphokhehacfnaaGreatDoor

