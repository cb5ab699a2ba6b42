/- Contracts of ver.holds and its closures. -/
import Derived.Test.YtmpccllnpcbgcaaGreatDoorPk08
namespace Go.Proofs.YtmpccllnpcbgcaaGreatDoor
open Go.RowKit
def Tells (w:World) (g:Nat) (l:List Se):Prop:=∃ A n c,Blk w g 56 #[.slice A n c]∧l.length=n∧RdE w A l∧n<=2097152∧Asc l
theorem Tells.ext {w w':World} {g:Nat} {l:List Se} (h:Tells w g l) (hx:Ext w w'):Tells w' g l:=by
 obtain⟨A,n,c,h1,h2,h3,h4,h5⟩:=h
 exact⟨A,n,c,h1.ext hx,h2,h3.ext hx,h4,h5⟩
end Go.Proofs.YtmpccllnpcbgcaaGreatDoor
