/- Lists of packages and lists of texts among the arguments. -/
import Derived.Test.YtmpccllnpcbgcaaGreatDoorPk02
import Derived.Test.YtmpccllnpcbgcaaGreatDoorPk04
import Derived.Test.YtmpccllnpcbgcaaGreatDoorPk08
import Derived.Test.YtmpccllnpcbgcaaGreatDoorPk09
import Derived.Test.YtmpccllnpcbgcaaGreatDoorPk19
import Derived.Test.YtmpccllnpcbgcaaGreatDoorPk22
import Derived.Test.YtmpccllnpcbgcaaGreatDoorPk25
import Derived.Test.YtmpccllnpcbgcaaGreatDoorPk29
import Derived.Test.YtmpccllnpcbgcaaGreatDoorMono
import Derived.Test.YtmpccllnpcbgcaaGreatDoorPaL
import Derived.Test.YtmpccllnpcbgcaaGreatDoorClA
import Derived.Test.YtmpccllnpcbgcaaGreatDoorClC
import Derived.Test.YtmpccllnpcbgcaaGreatDoorCards
import Derived.Test.YtmpccllnpcbgcaaGreatDoorTie
import Derived.Test.YtmpccllnpcbgcaaGreatDoorProg
import Derived.Test.YtmpccllnpcbgcaaGreatDoorShelf
import Derived.Test.YtmpccllnpcbgcaaGreatDoorShelfG
import Derived.Lib.Split
import Derived.Lib.IndexBytes
import Derived.Lib.ItoaLen
import Derived.WalkKit
import Derived.WalkSpells
import Derived.WalkLawsBesides
import Derived.LoopTactic
import Derived.Outline
import Derived.Lib.Hide
import Derived.Lib.LaidTab
import Derived.Lib.ConvBytes
import Derived.Lib.ItoaNum
import Derived.WalkSmall
import Derived.Sort.Grow
import Derived.Deep.QuietTactic
import Derived.BigQuiet
import Derived.ProofKit
import Derived.OpenShut
import Derived.Deep.DeepHandedRow
import Derived.Deep.DeepWitnessRowRef
import Derived.Lib.LaidIn
import Derived.Lib.SmallJoins
import Derived.Stop.LaidErr
import Derived.LaidSub
import Derived.SizedLaws
import Derived.Deep.Slices
import Derived.Lib.Replace
import Derived.Lib.SplitLaws
import Derived.Laws.AppendOwn
import Derived.Laws.OwnMore
import Derived.Maps.AppendAt
import Derived.OwnWalk
import Derived.Lib.Join
import Derived.StillTail
import Derived.Lib.AtoiAll
import Derived.Lib.Small
import Derived.Lib.Bytealg
import Derived.Deep.DeepCutAuto
import Derived.Deep.AppendLies
import Derived.Deep.RegionHeld3
import Derived.Deep.RegionLaw
import Derived.MapKept
import Derived.Laws.StructEq
import Derived.Deep.Strs
import Derived.Deep.LoopGhost
import Derived.Laws.Cells
import Derived.Maps.OwnSet
import Derived.Maps.StringElems
import Derived.Sort.Walk0
import Derived.Sort.KeysCollected
import Derived.Lib.SlicesCompact
import Derived.Maps.RangeWalk
import Derived.Deep.Upon
import Derived.ArgAppend
import Derived.Laws.MakeOwn
import Derived.DeepKeys3
import Derived.OrdersHeld
import Derived.RegionTactic
import GoSem.Step
import Derived.Calls
import Derived.Shelf.SlSortCmp.WholeK
import Derived.Shelf.SlSortCmp.NoneTotal
namespace Go.Proofs.YtmpccllnpcbgcaaGreatDoor
open Go.ChangeShapes Go.WideShapes Go.ChangeAt Go.RowKit Go.WideElems
theorem opens_packages:Opens 111 (fun W (l:List (Pkg × Nat)) cs=>∃ A c,cs=[.slice A l.length c]∧l.length<=c∧RowOf PkCells 10 W A l) (fun l=>(l.map fun q=>pkB q.1+q.2).sum+1) :=
 opens_sliceK (sz:=10) Tryz.underlying111 (by kernel_rfl) (by decide) opens_package
theorem opens_textss:Opens 112 (fun W (l:List (List ByteArray)) cs=>∃ A c,cs=[.slice A l.length c]∧l.length<=c∧RowOf (fun W (v:List ByteArray) cs=>∃ A c,cs=[.slice A v.length c]∧v.length<=c∧RowOf (fun _ (s:ByteArray) cs=>cs=[.string s]) 1 W A v) 1 W A l) (fun l=>(l.map fun v=>(v.map fun s=>s.size+1).sum+1).sum+1) :=
 opens_sliceK (sz:=1) Tryz.underlying112 (by kernel_rfl) (by decide) opens_textsK
theorem rowOf_packages {W:World} {A:Option Addr} {l:List (Pkg × Nat)} (h:RowOf PkCells 10 W A l):RdK W A (l.map Prod.fst):=fun hne=>by
 obtain⟨b,o,rfl,hc⟩:=h (fun e=>hne (by rw[e];rfl))
 refine⟨b,o,rfl,fun k hk=>?_⟩
 rw[List.length_map] at hk
 obtain⟨ecs,⟨⟨A1,c1,A2,c2,A3,c3,A4,c4,rfl,hin⟩,_⟩,_,hj⟩:=hc k hk
 rw[List.getElem_map]
 exact⟨A1,c1,A2,c2,A3,c3,A4,c4,hj 0 (by omega),hj 1 (by omega),hj 2 (by omega),hj 3 (by omega),hj 4 (by omega),hj 5 (by omega),hj 6 (by omega),hj 7 (by omega),hj 8 (by omega),hj 9 (by omega),hin⟩
theorem rowOf_textss {W:World} {A:Option Addr} {l:List (List ByteArray)} (h:RowOf (fun W (v:List ByteArray) cs=>∃ A c,cs=[.slice A v.length c]∧v.length<=c∧RowOf (fun _ (s:ByteArray) cs=>cs=[.string s]) 1 W A v) 1 W A l):RdXX W A l:=fun hne=>by
 obtain⟨b,o,rfl,hc⟩:=h hne
 refine⟨b,o,rfl,fun k hk=>?_⟩
 obtain⟨ecs,⟨A1,c1,rfl,hl,hr⟩,_,hj⟩:=hc k hk
 have h0:=hj 0 (by omega)
 rw[Nat.mul_one,Nat.add_zero] at h0
 exact⟨A1,c1,h0,hl,rdX_row hr⟩
set_option maxRecDepth 100000 in
theorem open_packages {H:Type} {enc:TypeId × Value->H} {W:World} {base:Nat} {v:Value} {d:DataW H} {p:List MemPlace} (hv:Value.okWide Tryz.prog W .any base 111 v) (h:DataW.Trod enc Tryz.prog W 0 (fun _=>true) true 111 v d p) (hd:Rows.uptoBulk d<=1048576) :
 ∃ (l:List Pkg) (A:Option Addr) (c:Nat),v=.slice A l.length c∧l.length<=c∧RdK W A l∧(∀ q∈l,SmallP q∧(q.comps.flatMap Cmp.needs).length<=2097152)∧l.length<=1048576:=by
 obtain⟨a,len,cap,rfl⟩:=okWide_slice Tryz.underlying111 hv
 obtain⟨fuel,hf⟩:=h
 obtain⟨l,⟨A,c,e,hcap,hr⟩,hb⟩:=opens_packages H enc W fuel _ _ hf
 dsimp only at hb
 have hlen:=sum_len (bk:=fun q:Pkg × Nat=>pkB q.1+q.2) (c:=1) (fun q=>by unfold pkB;omega) l
 refine⟨l.map Prod.fst,A,c,?_,by rw[List.length_map];exact hcap,rowOf_packages hr,fun q hq=>?_,by rw[List.length_map];omega⟩
 ·have e:[Value.slice a len cap]=[.slice A l.length c]:=e
  injection e with e
  rw[List.length_map]
  exact e
 ·obtain⟨x,hx,rfl⟩:=List.mem_map.1 hq
  have hm:=sum_mem (bk:=fun q:Pkg × Nat=>pkB q.1+q.2) hx
  obtain⟨k,hk,rfl⟩:=List.mem_iff_getElem.1 hx
  obtain⟨b,o,rfl,hc⟩:=hr (fun e=>by rw[e] at hk;exact absurd hk (Nat.not_lt_zero _))
  obtain⟨ecs,⟨_,hcs⟩,_,_⟩:=hc k hk
  exact small_pkg (n:=Rows.uptoBulk d) (m:=l[k].2) hd (by omega) (by omega) hcs
set_option maxRecDepth 100000 in
theorem open_textss {H:Type} {enc:TypeId × Value->H} {W:World} {base:Nat} {v:Value} {d:DataW H} {p:List MemPlace} (hv:Value.okWide Tryz.prog W .any base 112 v) (h:DataW.Trod enc Tryz.prog W 0 (fun _=>true) true 112 v d p) :
 ∃ (l:List (List ByteArray)) (A:Option Addr) (c:Nat),v=.slice A l.length c∧l.length<=c∧RdXX W A l∧(∀ x∈l,x.length<=Rows.uptoBulk d)∧l.length<=Rows.uptoBulk d:=by
 obtain⟨a,len,cap,rfl⟩:=okWide_slice Tryz.underlying112 hv
 obtain⟨fuel,hf⟩:=h
 obtain⟨l,⟨A,c,e,hcap,hr⟩,hb⟩:=opens_textss H enc W fuel _ _ hf
 dsimp only at hb
 have hlen:=sum_len (bk:=fun v:List ByteArray=>(v.map fun s=>s.size+1).sum+1) (c:=1) (fun q=>by omega) l
 refine⟨l,A,c,?_,hcap,rowOf_textss hr,fun x hx=>?_,by omega⟩
 ·have e:[Value.slice a len cap]=[.slice A l.length c]:=e
  injection e
 ·have hm:=sum_mem (bk:=fun v:List ByteArray=>(v.map fun s=>s.size+1).sum+1) hx
  have:=sum_len (bk:=fun s:ByteArray=>s.size+1) (c:=1) (fun s=>by omega) x
  omega
end Go.Proofs.YtmpccllnpcbgcaaGreatDoor
