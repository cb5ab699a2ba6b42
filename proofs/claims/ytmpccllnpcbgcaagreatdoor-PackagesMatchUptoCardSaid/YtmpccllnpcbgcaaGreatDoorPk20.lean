/- The first of two errors. -/
import Derived.Test.YtmpccllnpcbgcaaGreatDoorPk19
namespace Go.Proofs.YtmpccllnpcbgcaaGreatDoor
open Go.RowKit
theorem zero_f2 (a:Int):f2 0 a=a:=rfl
end Go.Proofs.YtmpccllnpcbgcaaGreatDoor
