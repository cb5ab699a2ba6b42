/- Contract of the reference's reading of conditions in brackets, given what it calls. (Printed by gen/cnds.py.) -/
import Derived.Test.YtmnafaaijglnfaaGreatDoorOm12
import Derived.Test.YtmnafaaijglnfaaGreatDoorOm14
namespace Go.Proofs.YtmnafaaijglnfaaGreatDoor
open Go.RowKit
theorem RdR.grownR {g b r:Nat} {w w':World} {W:List Wd} {τ:Rs} (h:RdR w g b W τ) (hg:w.grownBy w' (some r)) (h1:g≠r) (h2:b≠r):RdR w' g b W τ:=by
 obtain⟨j,cp,hj,hl,hc,hb⟩:=h.rd
 have far:∀ o v,w.cell? ⟨b,o,none⟩=some v->w'.cell? ⟨b,o,none⟩=some v:=fun o v e=>by
  rw[hg.cell_far ⟨b,o,none⟩ (lt_of_cell e) (by simpa using h2)]
  exact e
 exact⟨h.ne,⟨Nat.lt_of_lt_of_le h.wds.lt hg.size,fun j hj=>far _ _ (h.wds.c0 j hj),fun j hj=>far _ _ (h.wds.c1 j hj),fun j hj=>far _ _ (h.wds.c2 j hj),fun j hj=>far _ _ (h.wds.c3 j hj)⟩,j,cp,hj,hl,hc,hb.grownR hg (by simpa using h1)⟩
end Go.Proofs.YtmnafaaijglnfaaGreatDoor
