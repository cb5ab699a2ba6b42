/- Contract of the program's reading of conditions in brackets, given what it calls. (Printed by gen/cndi.py.) -/
import Derived.Test.YtmnafaaijglnfaaGreatDoorOm10
namespace Go.Proofs.YtmnafaaijglnfaaGreatDoor
open Go.RowKit
theorem info_cond:(Tryz.prog.info? 52).map (fun i=>(i.zero,i.size,i.bytes))=some (some (.agg #[.int .i64 0,.string ⟨#[]⟩,.string ⟨#[]⟩,.slice none 0 0]),4,64):=by kernel_rfl
theorem grown_set (w:World) (p:Addr) (u:Value):w.grownBy (w.setCell p u) (some p.block) :=
 ⟨rfl,rfl,rfl,by simp[World.setCell],fun k _ hk=>by simp only[World.setCell,Array.getElem?_modify];rw[if_neg (fun e=>hk (by rw[e]))]⟩
theorem ExtX.grown {g r:Nat} {a w w':World} (h:ExtX g a w) (hg:w.grownBy w' (some r)) (hr:a.heap.size<=r):ExtX g a w' :=
 ⟨hg.os.trans h.os,hg.tape.trans h.tape,hg.output.trans h.output,Nat.le_trans h.size hg.size,fun k hk hkg=>(hg.block k (Nat.lt_of_lt_of_le hk h.size) (fun e=>by injection e with e;omega)).trans (h.block k hk hkg)⟩
theorem Blk.grownR {g:Nat} {row:Option Nat} {w w':World} {t:TypeId} {cs:Array Value} (h:Blk w g t cs) (hg:w.grownBy w' row) (hne:some g≠row):Blk w' g t cs:=(hg.block g h.lt hne).trans h
end Go.Proofs.YtmnafaaijglnfaaGreatDoor
