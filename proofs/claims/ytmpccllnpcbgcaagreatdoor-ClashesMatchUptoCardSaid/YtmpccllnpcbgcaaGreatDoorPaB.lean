/- slices.SortFunc over items: the row that holds them is sorted. -/
import Derived.Test.YtmpccllnpcbgcaaGreatDoorPk02
import Derived.Test.YtmpccllnpcbgcaaGreatDoorPk04
import Derived.Test.YtmpccllnpcbgcaaGreatDoorPk08
import Derived.Test.YtmpccllnpcbgcaaGreatDoorPk09
import Derived.Test.YtmpccllnpcbgcaaGreatDoorPk19
import Derived.Test.YtmpccllnpcbgcaaGreatDoorPk22
import Derived.Test.YtmpccllnpcbgcaaGreatDoorPk25
import Derived.Test.YtmpccllnpcbgcaaGreatDoorPk27
import Derived.Test.YtmpccllnpcbgcaaGreatDoorPk29
import Derived.Test.YtmpccllnpcbgcaaGreatDoorPk35
import Derived.Test.YtmpccllnpcbgcaaGreatDoorMono
import Derived.Test.YtmpccllnpcbgcaaGreatDoorPaL
import Derived.Test.YtmpccllnpcbgcaaGreatDoorProg
import Derived.Test.YtmpccllnpcbgcaaGreatDoorShelf
import Derived.Test.YtmpccllnpcbgcaaGreatDoorShelfG
import Derived.Lib.Split
import Derived.Lib.IndexBytes
import Derived.Lib.ItoaLen
import Derived.WalkKit
import Derived.WalkSpells
import Derived.WalkLawsBesides
import Derived.LoopTactic
import Derived.Outline
import Derived.Lib.Hide
import Derived.Lib.LaidTab
import Derived.Lib.ConvBytes
import Derived.Lib.ItoaNum
import Derived.WalkSmall
import Derived.Sort.Grow
import Derived.Deep.QuietTactic
import Derived.BigQuiet
import Derived.Lib.Replace
import Derived.Lib.SplitLaws
import Derived.Laws.AppendOwn
import Derived.Laws.OwnMore
import Derived.Maps.AppendAt
import Derived.OwnWalk
import Derived.Lib.Join
import Derived.StillTail
import Derived.Lib.AtoiAll
import Derived.Lib.Small
import Derived.Lib.Bytealg
import Derived.Deep.DeepCutAuto
import Derived.Deep.AppendLies
import Derived.Deep.RegionHeld3
import Derived.Deep.RegionLaw
import Derived.MapKept
import Derived.Laws.StructEq
import Derived.Deep.LoopGhost
import Derived.Laws.Cells
import Derived.Maps.OwnSet
import Derived.Maps.StringElems
import Derived.Sort.Walk0
import Derived.Sort.KeysCollected
import Derived.Lib.SlicesCompact
import Derived.Maps.RangeWalk
import Derived.Deep.Upon
import Derived.ArgAppend
import Derived.Laws.MakeOwn
import Derived.DeepKeys3
import Derived.OrdersHeld
import Derived.RegionTactic
import GoSem.Step
import Derived.Calls
import Derived.Shelf.SlSortCmp.WholeK
import Derived.Shelf.SlSortCmp.NoneTotal
namespace Go.Proofs.YtmpccllnpcbgcaaGreatDoor
open Go.RowKit
structure RowIt (w:World) (g:Nat) (l:List Itm):Prop where
 c:∀ k (h:k < l.length) (i:Nat) (u:Value),(itmC l[k])[i]?=some u->w.cell? ⟨g,k * 10+i,none⟩=some u
 f:∀ t,t < l.length * 10->w.frozen? ⟨g,t,none⟩=false
theorem RowIt.c0 {w:World} {g:Nat} {l:List Itm} (h:RowIt w g l) {k:Nat} (hk:k < l.length):w.cell? ⟨g,k * 10,none⟩=some (.int .i64 l[k].kind):=h.c k hk 0 _ rfl
theorem RowIt.lt {w:World} {g:Nat} {l:List Itm} (h:RowIt w g l) (h0:0 < l.length):g < w.heap.size:=lt_of_cell (h.c0 h0)
theorem RowIt.ext {w w':World} {g:Nat} {l:List Itm} (h:RowIt w g l) (hx:Ext w w'):RowIt w' g l:=by
 refine⟨fun k hk i u hu=>hx.cell (h.c k hk i u hu),fun t ht=>?_⟩
 rw[hx.cells.2 g t (h.lt (by omega))]
 exact h.f t ht
theorem RowIt.rd {w:World} {g:Nat} {l:List Itm} (h:RowIt w g l):RdI w (some ⟨g,0,none⟩) l:=fun _=>⟨g,0,rfl,fun k hk=>by
 have hx:∀ (j:Nat) (u:Value),(itmC l[k])[j]?=some u->w.cell? ⟨g,0+k * 10+j,none⟩=some u:=fun j u hu=>by
  rw[Nat.zero_add]
  exact h.c k hk j u hu
 exact⟨hx 0 _ rfl,hx 1 _ rfl,hx 2 _ rfl,hx 3 _ rfl,hx 4 _ rfl,hx 5 _ rfl,hx 6 _ rfl,hx 7 _ rfl,hx 8 _ rfl,hx 9 _ rfl⟩⟩
theorem RowIt.own {w:World} {B n:Nat} {v:Value} {l:List Itm} (h:w.ownsRow B 104 10 v n (l.flatMap itmC)) (_hn:l.length=n) (h0:0 < n):∃ g c,v=.slice (some ⟨g,0,none⟩) n c∧n<=c∧B<=g∧RowIt w g l:=by
 obtain⟨g,c,rfl,hg,hB,hnc,hc⟩:=own_form h h0
 exact⟨g,_,rfl,hnc,hB,fun k hk i u hu=>hc _ u (by
  have hi:i < 10:=by
   rcases Nat.lt_or_ge i 10 with h|h
   ·exact h
   ·rw[List.getElem?_eq_none (by rw[itmC_length];exact h)] at hu;cases hu
  rw[flat_get itmC_length l k i hk hi];exact hu),fun t _=>h.frozenAt t⟩
instance inhIt:Inhabited Itm:=⟨zeroI⟩
theorem holds_rowI {w:World} {g:Nat} {d:List Itm} (h:RowIt w g d):Sort.HoldsK itmC 10 w g 0 d.toArray:=by
 intro t ht
 have ht2:t < d.length * 10:=by simpa using ht
 have hk:t / 10 < d.length:=by omega
 have hi:t % 10 < 10:=Nat.mod_lt _ (by decide)
 rw[Sort.get_flatK _ _ _ _ (by simpa using ht2),Nat.zero_add]
 refine⟨?_,h.f t ht2⟩
 have e:d.toArray[t / 10]! =d[t / 10]:=by simp[hk]
 have:=h.c (t / 10) hk (t % 10) ((itmC d[t / 10])[t % 10]!) (by
  rw[List.getElem?_eq_getElem (by rw[itmC_length];exact hi),getElem!_pos (itmC d[t / 10]) (t % 10) (by rw[itmC_length];exact hi)])
 rw[show t / 10 * 10+t % 10=t by omega] at this
 rw[e]
 exact this
theorem rowI_holds {w:World} {g:Nat} {d:Array Itm} (h:Sort.HoldsK itmC 10 w g 0 d):RowIt w g d.toList:=by
 refine⟨fun k hk i u hu=>?_,fun t ht=>?_⟩
 ·have hk2:k < d.size:=by simpa using hk
  have hi:i < 10:=by
   rcases Nat.lt_or_ge i 10 with h1|h1
   ·exact h1
   ·rw[List.getElem?_eq_none (by rw[itmC_length];exact h1)] at hu;cases hu
  have h1:=(h.cell hk2 hi).1
  rw[Nat.zero_add] at h1
  rw[h1]
  have he:d.toList[k]'hk=d[k]!:=by simp[hk2]
  rw[he] at hu
  have hlt:i < (itmC d[k]!).length:=by rw[itmC_length];exact hi
  rw[getElem!_pos (itmC d[k]!) i hlt]
  have h2:(itmC d[k]!)[i]?=some u:=hu
  rw[List.getElem?_eq_getElem hlt] at h2
  exact h2
 ·have ht2:t < d.size * 10:=by simpa using ht
  have h1:=(h.cell (i:=t / 10) (c:=t % 10) (by omega) (Nat.mod_lt _ (by decide))).2
  rw[Nat.zero_add,show t / 10 * 10+t % 10=t by omega] at h1
  exact h1
theorem sortI_extC (w:World) (g m:Nat) (d:Array Itm) (os:Array Obj):ExtC (·=g) w (sortWorldK itmC 10 w g 0 m d os):=by
 refine⟨rfl,rfl,rfl,?_,fun k hk hne=>?_⟩
 ·exact size_sortWorldK_c itmC 10 w g 0 m d os
 ·unfold sortWorldK Sort.grow Sort.putRowK Sort.putRow Sort.mapBlock
  show (_++os)[k]?=_
  rw[Array.getElem?_append]
  simp only[Sort.ahead,Array.size_modify,Array.getElem?_modify]
  rw[if_pos hk,if_neg (fun e=>hne e.symm)]
theorem swo_it:Sort.SWO (ltOf itCmp) where
 irrefl x:=by
  show decide (itCmp x x < 0)=false
  rw[pre_it.self];rfl
 trans x y z h1 h2:=by
  unfold ltOf at *
  rw[decide_eq_true_eq] at *
  exact pre_it.lt h1 h2
 ntrans x y z h1 h2:=by
  unfold ltOf at *
  rw[decide_eq_false_iff_not] at *
  have a1:=pre_it.anti x y;have a2:=pre_it.anti y z;have a3:=pre_it.anti x z
  have b1:=pre_it.anti y x;have b2:=pre_it.anti z y;have b3:=pre_it.anti z x
  have:=pre_it.le z y x
  omega
structure CmpI (f:FuncId):Prop where
 en:∀ xs w,Sem.run Tryz.prog (callFunc f xs) w=.ok (.enter f xs) w
 c:∀ x y w,Calls Tryz.prog f #[itmV x,itmV y] w fun e w'=>e=.returned (.int .i64 (itCmp x y))∧Ext w w'
theorem cmpI_lays {f:FuncId} (hf:CmpI f) (w:World) (g n:Nat):CmpLays Tryz.prog f #[] itmC 10 itCmp g 0 n w:=by
 intro m os dk _ x y
 exact calls_grown (hf.c x y _)
theorem SortI_any {f:FuncId} (hf:CmpI f) (g c:Nat) (l:List Itm) (w:World) (hr:RowIt w g l) (h0:0 < l.length) (hl:l.length<=100000000) :
 Calls Tryz.prog 138 #[.slice (some ⟨g,0,none⟩) l.length c,.func (.func f) #[] #[]] w fun e w' =>
  e=.returned (.tuple #[])∧∃ l',l'.Perm l∧(l'.Pairwise fun u v=>itCmp u v<=0)∧RowIt w' g l'∧ExtC (·=g) w w':=by
 have hgl:=hr.lt h0
 have hH:=holds_rowI hr
 have hsz0:l.toArray.size < 4611686018427387904:=by
  simp only[List.size_toArray]
  omega
 have key:=AnyQ.slices_SortFunc Tryz.sortItm 10 Tryz.isAgg104 Tryz.sizeOf104 itmC itmC_length (fun x u hu=>by simp only[itmC,List.mem_cons,List.not_mem_nil,or_false] at hu;rcases hu with rfl|rfl|rfl|rfl|rfl|rfl|rfl|rfl|rfl|rfl<;>rfl) itCmp swo_it f #[] g 0 c l.toArray w hf.en (cmpI_lays hf w g _) hH hgl hsz0
 have e1:l.toArray.size=l.length:=by simp
 rw[e1] at key
 change Calls Tryz.prog 138 _ _ _ at key
 refine key.mono ?_
 rintro e w' ⟨rfl,d',n,os,hp,hs,rfl⟩
 obtain⟨hps,_,hpp⟩:=hp
 have hsz:d'.size=l.length:=by rw[hps];simp
 have hperm:d'.toList.Perm l:=by
  have h1:(d'.extract 0 l.length).toList=d'.toList:=by rw[show l.length=d'.size by rw[hsz]];simp
  have h2:(l.toArray.extract 0 l.length).toList=l:=by simp
  rw[h1,h2] at hpp
  exact hpp
 refine⟨rfl,d'.toList,hperm,?_,?_,sortI_extC _ _ _ _ _⟩
 ·rw[List.pairwise_iff_getElem]
  intro i j hi hj hij
  have hi2:i < d'.size:=by simpa using hi
  have hj2:j < d'.size:=by simpa using hj
  have h:=hs i j (Nat.zero_le _) hij (by omega)
  unfold ltOf at h
  rw[decide_eq_false_iff_not,getElem!_pos d' i hi2,getElem!_pos d' j hj2] at h
  have a:=pre_it.anti d'[j] d'[i]
  have b:=pre_it.anti d'[i] d'[j]
  have ei:d'.toList[i]=d'[i]:=by simp
  have ej:d'.toList[j]=d'[j]:=by simp
  rw[ei,ej]
  omega
 ·exact rowI_holds (holdsK_sortWorldK_c itmC 10 w g 0 l.toArray d' n os hH hgl (by rw[hps]))
theorem SortIO_any {f:FuncId} (hf:CmpI f) (w0:World) (B:Nat) (v:Value) (n:Nat) (l:List Itm) (w:World) (hx:Ext w0 w) (hB:w0.heap.size<=B) (hn:l.length=n) (ho:w.ownsRow B 104 10 v n (l.flatMap itmC)) (hl:n<=100000000) :
 Calls Tryz.prog 138 #[v,.func (.func f) #[] #[]] w fun e w' =>
  e=.returned (.tuple #[])∧∃ l' A c,v=.slice A n c∧n<=c∧l'.Perm l∧(l'.Pairwise fun u v=>itCmp u v<=0)∧RdI w' A l'∧Ext w0 w'∧ExtC (fun i=>B<=i) w w'∧(l'≠[]->∃ g,A=some ⟨g,0,none⟩∧B<=g):=by
 rcases Nat.eq_zero_or_pos n with h0|h0
 ·subst h0
  obtain rfl:=List.eq_nil_of_length_eq_zero hn
  obtain⟨A,c,rfl,hc,_⟩:=rdi_own ho rfl
  have key:=AnyF.slices_SortFunc_none Tryz.sortItm A c (.func (.func f) #[] #[]) w
  change Calls Tryz.prog 138 _ _ _ at key
  refine key.mono ?_
  rintro e w' ⟨rfl,rfl⟩
  exact⟨rfl,[],A,c,rfl,hc,List.Perm.refl _,List.Pairwise.nil,fun h=>absurd rfl h,hx,ExtC.refl _ _,fun h=>absurd rfl h⟩
 ·obtain⟨g,c,rfl,hc,hBg,hrow⟩:=RowIt.own ho hn h0
  subst hn
  refine (SortI_any hf g c l w hrow h0 hl).mono ?_
  rintro e w' ⟨rfl,l',h1,h2,h3,h4⟩
  refine⟨rfl,l',_,c,rfl,hc,h1,h2,?_,ExtC.ext hx h4 fun i e=>by omega,h4.imp fun i e=>by omega,fun _=>⟨g,rfl,hBg⟩⟩
  exact h3.rd
end Go.Proofs.YtmpccllnpcbgcaaGreatDoor
