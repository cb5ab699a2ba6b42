/- Clashes of packages, in plain words. Packages in a slice; loads of them; slices.ContainsFunc over them. slices.BinarySearchFunc over items. -/
import Derived.Test.YtmpccllnpcbgcaaGreatDoorPk02
import Derived.Test.YtmpccllnpcbgcaaGreatDoorPk04
import Derived.Test.YtmpccllnpcbgcaaGreatDoorPk08
import Derived.Test.YtmpccllnpcbgcaaGreatDoorPk09
import Derived.Test.YtmpccllnpcbgcaaGreatDoorPk17
import Derived.Test.YtmpccllnpcbgcaaGreatDoorPk19
import Derived.Test.YtmpccllnpcbgcaaGreatDoorPk27
import Derived.Test.YtmpccllnpcbgcaaGreatDoorPk29
import Derived.Test.YtmpccllnpcbgcaaGreatDoorPk30
import Derived.Test.YtmpccllnpcbgcaaGreatDoorPk34
import Derived.Test.YtmpccllnpcbgcaaGreatDoorPaL
import Derived.Test.YtmpccllnpcbgcaaGreatDoorProg
import Derived.Test.YtmpccllnpcbgcaaGreatDoorShelf
import Derived.Lib.Split
import Derived.Lib.IndexBytes
import Derived.Lib.ItoaLen
import Derived.WalkKit
import Derived.WalkSpells
import Derived.WalkLawsBesides
import Derived.LoopTactic
import Derived.Outline
import Derived.Lib.Hide
import Derived.Lib.LaidTab
import Derived.Lib.ConvBytes
import Derived.Lib.ItoaNum
import Derived.WalkSmall
import Derived.Sort.Grow
import Derived.Deep.QuietTactic
import Derived.BigQuiet
import Derived.Lib.Replace
import Derived.Lib.SplitLaws
import Derived.Laws.AppendOwn
import Derived.Laws.OwnMore
import Derived.Maps.AppendAt
import Derived.OwnWalk
import Derived.Lib.Join
import Derived.StillTail
import Derived.Lib.AtoiAll
import Derived.Lib.Small
import Derived.Lib.Bytealg
import Derived.Deep.DeepCutAuto
import Derived.Deep.AppendLies
import Derived.Deep.RegionHeld3
import Derived.Deep.RegionLaw
import Derived.MapKept
import Derived.Laws.StructEq
import Derived.Deep.LoopGhost
import Derived.Laws.Cells
import Derived.Maps.OwnSet
import Derived.Maps.StringElems
import Derived.Sort.Walk0
import Derived.Sort.KeysCollected
import Derived.Lib.SlicesCompact
import Derived.Maps.RangeWalk
import Derived.Deep.Upon
import Derived.ArgAppend
import Derived.Laws.MakeOwn
import Derived.DeepKeys3
import Derived.Test.YtmpccllnpcbgcaaGreatDoorPk22
import Derived.Test.YtmpccllnpcbgcaaGreatDoorPk25
import Derived.Test.YtmpccllnpcbgcaaGreatDoorPaA
import Derived.OrdersHeld
import Derived.RegionTactic
namespace Go.Proofs.YtmpccllnpcbgcaaGreatDoor
open Go.RowKit
structure Cla where
 one:Int
 two:Int
 kind:Int
 name:ByteArray
deriving DecidableEq
def claC (c:Cla):List Value:=[.int .i64 c.one,.int .i64 c.two,.int .i64 c.kind,.string c.name]
theorem claC_length (c:Cla):(claC c).length=4:=rfl
def togI (x y:Itm):Bool:=decide (x.kind=2)&&(decide (y.kind=2)&&(decide (x.path=y.path)&&(decide (x.data=y.data)&&decide (x.runs=y.runs))))
def clX (i j:Int) (x:Itm):Option Itm->List Cla
 | none=>[]
 | some y=>if togI x y=true then [] else [⟨i,j,spotK x,spotN x⟩]
def findI (L:List Itm) (x:Itm):Option Itm:=L.find? fun y=>spotE x y
def clB (i j:Int) (L1 L2:List Itm):List Cla:=L1.flatMap fun x=>clX i j x (findI L2 x)
theorem clX_len (i j:Int) (x:Itm) (o:Option Itm):(clX i j x o).length<=1:=by
 cases o with
 | none=>simp[clX]
 | some y=>simp only[clX];split<;>first|exact Nat.zero_le _|exact Nat.le_refl _
theorem clB_len (i j:Int) (L1 L2:List Itm):(clB i j L1 L2).length<=L1.length:=by
 unfold clB
 induction L1 with
 | nil=>simp
 | cons x l ih =>
   rw[List.flatMap_cons,List.length_append,List.length_cons]
   have:=clX_len i j x (findI L2 x)
   omega
theorem clB_succ (i j:Int) {L1:List Itm} (L2:List Itm) {k:Nat} (hk:k < L1.length):clB i j (L1.take (k+1)) L2=clB i j (L1.take k) L2++clX i j L1[k] (findI L2 L1[k]):=by
 unfold clB
 rw[List.take_succ_eq_append_getElem hk,List.flatMap_append]
 simp
def rowX (I:Nat->List Itm) (i k:Nat):List Cla:=(List.range k).flatMap fun j=>if i < j then clB i j (I i) (I j) else []
def allX (I:Nat->List Itm) (n m:Nat):List Cla:=(List.range m).flatMap fun i=>rowX I i n
theorem rowX_none (I:Nat->List Itm) (i:Nat):∀ k,k<=i+1->rowX I i k=[]
 | 0,_=>rfl
 | k+1,h=>by
   have ih:=rowX_none I i k (by omega)
   unfold rowX at *
   rw[List.range_succ,List.flatMap_append,ih]
   simp[show ¬ i < k by omega]
theorem rowX_succ (I:Nat->List Itm) {i k:Nat} (h:i < k):rowX I i (k+1)=rowX I i k++clB i k (I i) (I k):=by
 unfold rowX
 rw[List.range_succ,List.flatMap_append]
 simp[h]
theorem allX_succ (I:Nat->List Itm) (n m:Nat):allX I n (m+1)=allX I n m++rowX I m n:=by
 unfold allX
 rw[List.range_succ,List.flatMap_append]
 simp
theorem rowX_len {I:Nat->List Itm} {K:Nat} (h:∀ i,(I i).length<=K) (i:Nat):∀ k,(rowX I i k).length<=k * K
 | 0=>by simp[rowX]
 | k+1=>by
   have ih:=rowX_len h i k
   rw[Nat.add_mul,Nat.one_mul]
   rcases Nat.lt_or_ge i k with h1|h1
   ·rw[rowX_succ I h1,List.length_append]
    have h2:=clB_len i k (I i) (I k)
    have h3:=h i
    omega
   ·rw[rowX_none I i (k+1) (by omega)]
    simp
theorem allX_len {I:Nat->List Itm} {K:Nat} (h:∀ i,(I i).length<=K) (n:Nat):∀ m,(allX I n m).length<=m * (n * K)
 | 0=>by simp[allX]
 | m+1=>by
   have ih:=allX_len h n m
   have h2:=rowX_len h m n
   rw[allX_succ,List.length_append,Nat.add_mul,Nat.one_mul]
   omega
theorem rowX_congr {I J:Nat->List Itm} {n:Nat} (h:∀ i,i < n->I i=J i) {i:Nat} (hi:i < n):∀ k,k<=n->rowX I i k=rowX J i k
 | 0,_=>rfl
 | k+1,hk=>by
   have ih:=rowX_congr h hi k (by omega)
   rcases Nat.lt_or_ge i k with h1|h1
   ·rw[rowX_succ I h1,rowX_succ J h1,ih,h i hi,h k (by omega)]
   ·rw[rowX_none I i (k+1) (by omega),rowX_none J i (k+1) (by omega)]
theorem allX_congr {I J:Nat->List Itm} {n:Nat} (h:∀ i,i < n->I i=J i):∀ m,m<=n->allX I n m=allX J n m
 | 0,_=>rfl
 | m+1,hm=>by rw[allX_succ,allX_succ,allX_congr h m (by omega),rowX_congr h (by omega) n (Nat.le_refl _)]
theorem spotE_cmp (x y:Itm):spotE x y=true↔itCmp y x=0:=by
 constructor
 ·intro h
  unfold spotE at h
  rw[Bool.and_eq_true,decide_eq_true_eq,decide_eq_true_eq] at h
  unfold itCmp
  rw[h.1,h.2]
  rw[if_pos (by omega)]
  exact pre_bytes.self (bs (spotN y))
 ·intro h
  have:=it_eq h
  unfold spotP at this
  injection this with h1 h2
  unfold spotE
  rw[h1,h2]
  simp
def BelI (L:List Itm) (x:Itm) (lo:Nat):Prop:=∀ k (hk:k < L.length),k < lo->itCmp L[k] x < 0
def AboI (L:List Itm) (x:Itm) (hi:Nat):Prop:=∀ k (hk:k < L.length),hi<=k->¬ itCmp L[k] x < 0
theorem belI_next {L:List Itm} {x:Itm} (hs:L.Pairwise fun u v=>itCmp u v<=0) {h:Nat} (hh:h < L.length) (e:itCmp L[h] x < 0):BelI L x (h+1):=fun k hk hlt=>by
 rcases Nat.lt_or_ge k h with h1|h1
 ·exact pre_it.le_lt (List.pairwise_iff_getElem.1 hs k h hk hh h1) e
 ·obtain rfl:k=h:=by omega
  exact e
theorem aboI_next {L:List Itm} {x:Itm} (hs:L.Pairwise fun u v=>itCmp u v<=0) {h:Nat} (hh:h < L.length) (e:¬ itCmp L[h] x < 0):AboI L x h:=fun k hk hle hlt=>by
 rcases Nat.lt_or_ge h k with h1|h1
 ·exact e (pre_it.le_lt (List.pairwise_iff_getElem.1 hs h k hh hk h1) hlt)
 ·obtain rfl:k=h:=by omega
  exact e hlt
theorem findI_hit {L:List Itm} {x:Itm} {k:Nat} (hk:k < L.length) (hb:BelI L x k) (e:itCmp L[k] x=0):findI L x=some L[k]:=by
 unfold findI
 rw[List.find?_eq_some_iff_getElem]
 refine⟨(spotE_cmp _ _).2 e,k,hk,rfl,fun j hj=>?_⟩
 have h1:=hb j (by omega) hj
 cases h2:spotE x L[j] with
 | false=>rfl
 | true=>have:=(spotE_cmp _ _).1 h2;omega
theorem findI_miss {L:List Itm} {x:Itm} {k:Nat} (hs:L.Pairwise fun u v=>itCmp u v<=0) (hb:BelI L x k) (ha:AboI L x k) (e:∀ h:k < L.length,¬ itCmp L[k] x=0):findI L x=none:=by
 unfold findI
 rw[List.find?_eq_none]
 intro y hy h2
 have h2:=(spotE_cmp _ _).1 h2
 obtain⟨j,hj,rfl⟩:=List.mem_iff_getElem.1 hy
 rcases Nat.lt_or_ge j k with h1|h1
 ·have:=hb j hj h1;omega
 ·have hk:k < L.length:=by omega
  have h3:=ha k hk (Nat.le_refl _)
  have h4:=e hk
  rcases Nat.lt_or_ge k j with h5|h5
  ·have h6:=pre_it.le L[k] L[j] x (List.pairwise_iff_getElem.1 hs k j hk hj h5) (by omega)
   omega
  ·obtain rfl:j=k:=by omega
   exact h4 h2
theorem find_last {L:List Itm} (hn:(L.map spotP).Nodup) {k:Nat} (hk:k < L.length) (x:Itm):findI (L.take (k+1)) x=if spotE x L[k]=true then some L[k] else findI (L.take k) x:=by
 unfold findI
 rw[List.take_succ_eq_append_getElem hk,List.find?_append]
 by_cases e:spotE x L[k]=true
 ·rw[if_pos e]
  have h0:(L.take k).find? (fun y=>spotE x y)=none:=by
   rw[List.find?_eq_none]
   intro y hy h2
   obtain⟨j,hj,rfl⟩:=List.mem_iff_getElem.1 hy
   rw[List.getElem_take] at h2
   rw[List.length_take] at hj
   have h3:spotP L[j]=spotP L[k]:=by
    unfold spotE at e h2
    rw[Bool.and_eq_true,decide_eq_true_eq,decide_eq_true_eq] at e h2
    unfold spotP
    rw[<-e.1,<-e.2,<-h2.1,<-h2.2]
   have h4:=List.pairwise_iff_getElem.1 hn j k (by rw[List.length_map];omega) (by rw[List.length_map];omega) (by omega)
   rw[List.getElem_map,List.getElem_map] at h4
   exact h4 h3
  rw[h0]
  simp[e]
 ·rw[if_neg e]
  simp[e]
theorem items_nodup {l:List Cmp} {V:Nat->Bool} {L:List Itm} (hn:((itemsL l).map spotP).Nodup) (h:L.Perm (itemsK l V l.length)):(L.map spotP).Nodup:=by
 have h1:=(itemsK_all l V).map spotP
 exact (h.map spotP).nodup_iff.2 (h1.nodup hn)
end Go.Proofs.YtmpccllnpcbgcaaGreatDoor
namespace Go.Proofs.YtmpccllnpcbgcaaGreatDoor
open Go.RowKit
theorem load_Pk {w:World} {b o:Nat} {p:Pkg} {A:Option Addr} {c:Nat} {A2:Option Addr} {c2:Nat} {A3:Option Addr} {c3:Nat} {A4:Option Addr} {c4:Nat} (h:PkRow w b o p A c A2 c2 A3 c3 A4 c4):(loadVar 76 ⟨b,o,none⟩).run Tryz.prog w=.ok (pkV p A c A2 c2 A3 c3 A4 c4) w:=by
 refine load_cellsT (z:=10) (by kernel_rfl) (by kernel_rfl) [.string p.name,.int .i64 p.vv.a1,.int .i64 p.vv.a2,.int .i64 p.vv.a3,.string p.vv.a,.string p.title,.slice A p.needs.length c,.slice A2 p.bars.length c2,.slice A3 p.comps.length c3,.slice A4 p.moves.length c4] rfl fun j v hj=>?_
 match j,hj with
 | 0,hj=>injection hj with hj;subst hj;exact h.r0
 | 1,hj=>injection hj with hj;subst hj;exact h.r1
 | 2,hj=>injection hj with hj;subst hj;exact h.r2
 | 3,hj=>injection hj with hj;subst hj;exact h.r3
 | 4,hj=>injection hj with hj;subst hj;exact h.r4
 | 5,hj=>injection hj with hj;subst hj;exact h.r5
 | 6,hj=>injection hj with hj;subst hj;exact h.r6
 | 7,hj=>injection hj with hj;subst hj;exact h.r7
 | 8,hj=>injection hj with hj;subst hj;exact h.r8
 | 9,hj=>injection hj with hj;subst hj;exact h.r9
 | j+10,hj=>simp at hj
theorem loadB_Pk {w:World} {g:Nat} {cs:Array Value} (h:Blk w g 76 cs) (hl:cs.size=10):(loadVar 76 ⟨g,0,none⟩).run Tryz.prog w=.ok (.agg cs) w :=
 load_cellsT (z:=10) (by kernel_rfl) (by kernel_rfl) cs.toList (by simpa using hl) fun j v hj=>by
  rw[Nat.zero_add,h.cell j]
  simpa using hj
theorem loadB_It {w:World} {g:Nat} {cs:Array Value} (h:Blk w g 104 cs) (hl:cs.size=10):(loadVar 104 ⟨g,0,none⟩).run Tryz.prog w=.ok (.agg cs) w :=
 load_cellsT (z:=10) (by kernel_rfl) (by kernel_rfl) cs.toList (by simpa using hl) fun j v hj=>by
  rw[Nat.zero_add,h.cell j]
  simpa using hj
set_option maxHeartbeats 4000000 in
set_option maxRecDepth 100000 in
theorem IndexFuncPk_any (A:Option Addr) (n c b o:Nat) (V:Nat->Value) (f:FuncId) (cp:Array Value) (p:Nat->Bool) (w:World) (hA:0 < n->A=some ⟨b,o,none⟩) (hl:n<=2097152)
 (hen:∀ xs w,Sem.run Tryz.prog (callFunc f xs) w=.ok (.enter f xs) w)
 (hrow:∀ k,k < n->∀ W,Ext w W->(loadVar 76 ⟨b,o+k * 10,none⟩).run Tryz.prog W=.ok (V k) W)
 (hp:∀ k,k < n->∀ W,Ext w W->Calls Tryz.prog f (#[V k]++cp) W fun e w'=>e=.returned (.bool (p k))∧Ext W w') :
 Calls Tryz.prog 145 #[.slice A n c,.func (.func f) #[] cp] w fun e w'=>e=.returned (.int .i64 (findN n p))∧Ext w w':=by
 have HP:=Hy hp
 have HR:=Hy hrow
 have HF:=Hy (fun k (hk:k < n) h0 h=>findN_at (p:=p) hk h0 h)
 have HN:=Hy (fun h0=>findN_none (n:=n) (p:=p) h0)
 generalize findN n p=Z at *
 clear hp hrow
 go_enter Tryz.func145,Tryz.ntmps145
 go_wp2
 go_loopw [8] (fun i wr=>∃ k:Nat,k<=n∧i=.int .i64 k∧Hid (∀ j,j < k->p j=false)∧Ext w wr) (fun i _=>n - (intOf i).toNat)
 case atStart=>exact⟨0,Nat.zero_le _,rfl,fun j h=>absurd h (Nat.not_lt_zero _),Ext.refl _⟩
 case round =>
  obtain⟨k,hk,rfl,HALL,hxr⟩:=hrel
  by_cases hlt:k < n
  ·obtain rfl:=hA (by omega)
   have HL:=HR.out k hlt _ hxr
   have HC:=Hy (HP.out k hlt)
   have HB:=Hy (show p k=true->Z=k from HF.out k hlt HALL.out)
   have HX:=Hy (show p k=false->∀ j,j < k+1->p j=false from allB_next HALL.out)
   generalize p k=r at *
   generalize V k=v at *
   go_wp2_with (refine wpList_load_at rfl _ _ rfl _ rfl _ HL ?_)
   refine (HC.out _ hxr).mono ?_
   rintro e w1 ⟨rfl,hx1⟩
   clear HL
   cases r
   ·have H1:=Hy (HX.out rfl)
    go_wp2
    go_roundw
    case rel=>exact⟨k+1,by omega,by go_num,H1.out,hxr.trans hx1⟩
    case measure=>simp[intOf];omega
   ·have H1:=Hy (HB.out rfl)
    go_wp2
    go_ret
    exact⟨ret_int H1.out.symm,hxr.trans hx1⟩
  ·obtain rfl:k=n:=by omega
   have H1:=Hy (HN.out HALL.out)
   go_wp2
   go_ret
   exact⟨ret_int H1.out.symm,hxr⟩
set_option maxHeartbeats 1000000 in
theorem ContainsFuncPk_any (A:Option Addr) (n c b o:Nat) (V:Nat->Value) (f:FuncId) (cp:Array Value) (p:Nat->Bool) (w:World) (hA:0 < n->A=some ⟨b,o,none⟩) (hl:n<=2097152)
 (hen:∀ xs w,Sem.run Tryz.prog (callFunc f xs) w=.ok (.enter f xs) w)
 (hrow:∀ k,k < n->∀ W,Ext w W->(loadVar 76 ⟨b,o+k * 10,none⟩).run Tryz.prog W=.ok (V k) W)
 (hp:∀ k,k < n->∀ W,Ext w W->Calls Tryz.prog f (#[V k]++cp) W fun e w'=>e=.returned (.bool (p k))∧Ext W w') :
 Calls Tryz.prog 66 #[.slice A n c,.func (.func f) #[] cp] w fun e w'=>e=.returned (.bool (anyN n p))∧Ext w w':=by
 have CI:=Hy (IndexFuncPk_any A n c b o V f cp p w hA hl hen hrow hp)
 have HZ:=Hy (findN_any n p)
 generalize findN n p=z at *
 generalize anyN n p=r at *
 clear hen hrow hp hA
 go_enter Tryz.func66,Tryz.ntmps66
 go_wp2_with fail
 refine CI.out.mono ?_
 rintro e w1 ⟨rfl,hx1⟩
 go_wp2
 go_ret
 exact⟨ret_bool (by rw[<-HZ.out]),hx1⟩
end Go.Proofs.YtmpccllnpcbgcaaGreatDoor
namespace Go.Proofs.YtmpccllnpcbgcaaGreatDoor
open Go.RowKit
section
set_option maxRecDepth 100000
theorem run_eqf (d:Nat) (p q:ByteArray) (r:Bool) (p2 q2:ByteArray) (r2:Bool) (w:World):(Op.equalIn (d+2) 63 (.agg #[.string p,.string q,.bool r]) (.agg #[.string p2,.string q2,.bool r2])).run Tryz.prog w=.ok (decide (p=p2)&&(decide (q=q2)&&decide (r=r2))) w:=by
 rw[run_equalIn_agg w (d+1) 63 _ _ (by kernel_rfl) (by kernel_rfl)]
 go_simp
 simp only[str_eq]
 by_cases h1:p=p2<;>by_cases h2:q=q2<;>by_cases h3:r=r2<;>simp[h1,h2,h3]
end
theorem run_neqf (p q:ByteArray) (r:Bool) (p2 q2:ByteArray) (r2:Bool) (w:World):(binOp .neq 63 (.agg #[.string p,.string q,.bool r]) (.agg #[.string p2,.string q2,.bool r2])).run Tryz.prog w=.ok (.bool (!(decide (p=p2)&&(decide (q=q2)&&decide (r=r2))))) w:=by
 rw[run_neq_struct,run_eqf 9998]
 rfl
theorem run_eqlf (p q:ByteArray) (r:Bool) (p2 q2:ByteArray) (r2:Bool) (w:World):(binOp .eql 63 (.agg #[.string p,.string q,.bool r]) (.agg #[.string p2,.string q2,.bool r2])).run Tryz.prog w=.ok (.bool (decide (p=p2)&&(decide (q=q2)&&decide (r=r2)))) w:=by
 rw[run_eql_struct,run_eqf 9998]
 rfl
set_option maxHeartbeats 8000000 in
set_option maxRecDepth 100000 in
theorem BinI_any (A:Option Addr) (n c:Nat) (l:List Itm) (x:Itm) (w:World) (hn:l.length=n) (hr:RdI w A l) (hl:n<=2097152) (hs:l.Pairwise fun u v=>itCmp u v<=0) :
 Calls Tryz.prog 233 #[.slice A n c,itmV x,.func (.func 230) #[] #[]] w fun e w' =>
  ∃ (i:Nat) (r:Bool),e=.returned (.tuple #[.int .i64 i,.bool r])∧(r=true->∃ h:i < l.length,findI l x=some l[i])∧(r=false->findI l x=none)∧Ext w w':=by
 have hen:∀ xs w,Sem.run Tryz.prog (callFunc 230 xs) w=.ok (.enter 230 xs) w:=enters_of Tryz.func230 (by kernel_rfl) rfl
 obtain⟨Z,hZ⟩:∃ Z:Itm->Int,Z=fun y=>itCmp y x:=⟨_,rfl⟩
 have CC:=Hy (fun y W=>show Calls Tryz.prog 230 #[itmV y,itmV x] W fun e w'=>e=.returned (.int .i64 (Z y))∧Ext W w' from by rw[hZ];exact comparePlaces_any y x W)
 have HN:=Hy hn
 have HR:=Hy hr
 have HBN:=Hy (fun h (hh:h < l.length) (e:Z l[h] < 0)=>belI_next (L:=l) (x:=x) hs hh (by rw[hZ] at e;exact e))
 have HAN:=Hy (fun h (hh:h < l.length) (e:¬ Z l[h] < 0)=>aboI_next (L:=l) (x:=x) hs hh (by rw[hZ] at e;exact e))
 have HIT:=Hy (fun k (hk:k < l.length) (hb:BelI l x k) (e:Z l[k]=0)=>findI_hit (L:=l) (x:=x) hk hb (by rw[hZ] at e;exact e))
 have HMI:=Hy (fun k (hb:BelI l x k) (ha:AboI l x k) (e:∀ h:k < l.length,¬ Z l[k]=0)=>findI_miss (L:=l) (x:=x) hs hb ha (fun h=>by have:=e h;rw[hZ] at this;exact this))
 clear hn hr hs hZ
 dsimp only[itmV] at *
 have b0:=Blk.new w 104 #[.int .i64 x.kind,.string x.path,.string x.data,.bool x.runs,.string x.key,.string x.val,.string x.sn,.string x.sp,.bool x.auto,.bool x.on]
 have hx0:Ext w (w.alloc (.cells #[.int .i64 x.kind,.string x.path,.string x.data,.bool x.runs,.string x.key,.string x.val,.string x.sn,.string x.sp,.bool x.auto,.bool x.on] 104)):=(Ext.refl w).alloc _
 generalize hW0:w.alloc (.cells #[.int .i64 x.kind,.string x.path,.string x.data,.bool x.runs,.string x.key,.string x.val,.string x.sn,.string x.sp,.bool x.auto,.bool x.on] 104)=W0 at *
 have HW0:=Hy hW0
 clear hW0
 go_enter Tryz.func233,Tryz.ntmps233
 go_wp2
 rw[HW0.out]
 go_loopg [9,10] n (fun kx s9 s10 wr=>∃ lo hi:Nat,s9=.int .i64 lo∧s10=.int .i64 hi∧lo<=hi∧hi<=n∧hi - lo<=kx∧Ext W0 wr∧Hid (BelI l x lo∧AboI l x hi))
 case atStart=>exact⟨0,n,rfl,rfl,Nat.zero_le _,Nat.le_refl _,by omega,Ext.refl _,Hy ⟨fun k _ h=>absurd h (Nat.not_lt_zero _),fun k hk h=>by have:=HN.out;omega⟩⟩
 case round =>
  obtain⟨lo,hi,rfl,rfl,hlh,hin,hg,hxr,I⟩:=hrel
  have hxw:=hx0.trans hxr
  have e0:=(b0.ext hxr).cell;have l0:=(b0.ext hxr).lt
  by_cases hlt:lo < hi
  ·obtain⟨h,hh⟩:∃ h:Nat,h=(lo+hi) / 2:=⟨_,rfl⟩
   have hh2:((lo:Int)+(hi:Int)) / 2=(h:Int):=by omega
   have hlo:lo<=h:=by omega
   have hhi:h < hi:=by omega
   have hhn:h < n:=by omega
   have hk1:h < l.length:=by rw[HN.out];exact hhn
   obtain⟨b,o,rfl,hX⟩:=HR.out (fun e=>by rw[e] at hk1;exact absurd hk1 (Nat.not_lt_zero _))
   have LD:=fun W (hq:Ext wr W)=>load_It ((hX h hk1).ext (hxw.trans hq))
   have HBNK:=Hy (HBN.out h hk1)
   have HANK:=Hy (HAN.out h hk1)
   have CK:=Hy (fun W=>CC.out l[h] W)
   clear hX hh
   generalize l[h]=y at *
   dsimp only[itmV] at LD
   generalize Z y=z at *
   by_cases hyx:z < 0
   ·have HB2:=Hy (HBNK.out hyx)
    clear HBNK HANK
    go_wp2_with fail
    refine wp_region_ext (by kernel_rfl) (by kernel_rfl) ?_
    repeat (first|go_big_quiet_skip|(refine wpQuiet_load (by rfl) _ _ rfl _ rfl _ LD ?_)|(refine wpQuiet_step (fun K hK=>?_);go_simp;first|(refine hK _ ?_;clear hK K)|(apply Exists.intro;refine⟨fun wq hwq=>?_,hK _ ?_⟩;(obtain⟨hqc,hqf⟩:=hwq.cells;have hqs:=hwq.size;(try go_simp);first|rfl|((first|rw[if_neg (by omega)]|rw[if_pos (by omega)]);(try go_simp);rfl)|((go_at_call 230;exact (CK.out _).mono (fun e w'' h=>⟨h.1,hwq.trans h.2⟩))));clear hK K)))
    refine wpQuiet_nil ?_
    intro wN hxN
    obtain⟨hcN,hfN⟩:=hxN.cells
    have hsN:=hxN.size
    have hx1':=hxr.trans hxN
    clear LD e0 l0 hcN hfN hsN
    go_wp2
    go_roundg (hi - (h+1))
    case measure=>omega
    case rel=>exact⟨h+1,hi,by go_num,rfl,by omega,hin,Nat.le_refl _,hx1',Hy ⟨HB2.out,I.out.2⟩⟩
   ·have HB2:=Hy (HANK.out (by omega))
    clear HBNK HANK
    go_wp2_with fail
    refine wp_region_ext (by kernel_rfl) (by kernel_rfl) ?_
    repeat (first|go_big_quiet_skip|(refine wpQuiet_load (by rfl) _ _ rfl _ rfl _ LD ?_)|(refine wpQuiet_step (fun K hK=>?_);go_simp;first|(refine hK _ ?_;clear hK K)|(apply Exists.intro;refine⟨fun wq hwq=>?_,hK _ ?_⟩;(obtain⟨hqc,hqf⟩:=hwq.cells;have hqs:=hwq.size;(try go_simp);first|rfl|((first|rw[if_neg (by omega)]|rw[if_pos (by omega)]);(try go_simp);rfl)|((go_at_call 230;exact (CK.out _).mono (fun e w'' h=>⟨h.1,hwq.trans h.2⟩))));clear hK K)))
    refine wpQuiet_nil ?_
    intro wN hxN
    obtain⟨hcN,hfN⟩:=hxN.cells
    have hsN:=hxN.size
    have hx1':=hxr.trans hxN
    clear LD e0 l0 hcN hfN hsN
    go_wp2
    go_roundg (h - lo)
    case measure=>omega
    case rel=>exact⟨lo,h,rfl,rfl,hlo,by omega,Nat.le_refl _,hx1',Hy ⟨I.out.1,HB2.out⟩⟩
  ·obtain rfl:lo=hi:=by omega
   by_cases hn:lo < n
   ·have hk1:lo < l.length:=by rw[HN.out];exact hn
    obtain⟨b,o,rfl,hX⟩:=HR.out (fun e=>by rw[e] at hk1;exact absurd hk1 (Nat.not_lt_zero _))
    have LD:=fun W (hq:Ext wr W)=>load_It ((hX lo hk1).ext (hxw.trans hq))
    have CK:=Hy (fun W=>CC.out l[lo] W)
    have HFIN:=Hy (show (Z l[lo]=0->∃ h:lo < l.length,findI l x=some l[lo])∧(¬ Z l[lo]=0->findI l x=none) from
     ⟨fun e=>⟨hk1,HIT.out lo hk1 I.out.1 e⟩,fun e=>HMI.out lo I.out.1 I.out.2 fun h=>e⟩)
    clear hX
    generalize hy:l[lo]=y at CK LD
    have HY:=Hy hy
    rw[HY.out] at HFIN
    clear hy
    dsimp only[itmV] at LD
    generalize Z y=z at *
    by_cases hz:z=0
    ·go_wp2_with fail
     refine wp_region_ext (by kernel_rfl) (by kernel_rfl) ?_
     repeat (first|go_big_quiet_skip|(refine wpQuiet_load (by rfl) _ _ rfl _ rfl _ LD ?_)|(refine wpQuiet_step (fun K hK=>?_);go_simp;first|(refine hK _ ?_;clear hK K)|(apply Exists.intro;refine⟨fun wq hwq=>?_,hK _ ?_⟩;(obtain⟨hqc,hqf⟩:=hwq.cells;have hqs:=hwq.size;(try go_simp);first|rfl|((first|rw[if_neg (by omega)]|rw[if_pos (by omega)]);(try go_simp);rfl)|((go_at_call 230;exact (CK.out _).mono (fun e w'' h=>⟨h.1,hwq.trans h.2⟩))));clear hK K)))
     refine wpQuiet_nil ?_
     intro wN hxN
     obtain⟨hcN,hfN⟩:=hxN.cells
     have hsN:=hxN.size
     have hx1':=hxw.trans hxN
     clear LD e0 l0 hcN hfN hsN
     go_wp2
     go_ret2
     exact⟨lo,true,by simp,fun _=>by obtain⟨h1,h2⟩:=HFIN.out.1 hz;exact⟨h1,h2⟩,(fun h=>by cases h),hx1'⟩
    ·go_wp2_with fail
     refine wp_region_ext (by kernel_rfl) (by kernel_rfl) ?_
     repeat (first|go_big_quiet_skip|(refine wpQuiet_load (by rfl) _ _ rfl _ rfl _ LD ?_)|(refine wpQuiet_step (fun K hK=>?_);go_simp;first|(refine hK _ ?_;clear hK K)|(apply Exists.intro;refine⟨fun wq hwq=>?_,hK _ ?_⟩;(obtain⟨hqc,hqf⟩:=hwq.cells;have hqs:=hwq.size;(try go_simp);first|rfl|((first|rw[if_neg (by omega)]|rw[if_pos (by omega)]);(try go_simp);rfl)|((go_at_call 230;exact (CK.out _).mono (fun e w'' h=>⟨h.1,hwq.trans h.2⟩))));clear hK K)))
     refine wpQuiet_nil ?_
     intro wN hxN
     obtain⟨hcN,hfN⟩:=hxN.cells
     have hsN:=hxN.size
     have hx1':=hxw.trans hxN
     clear LD e0 l0 hcN hfN hsN
     go_wp2
     go_ret2
     exact⟨lo,false,by simp[hz],(fun h=>by cases h),fun _=>HFIN.out.2 hz,hx1'⟩
   ·have HFIN:=Hy (show findI l x=none from HMI.out lo I.out.1 I.out.2 fun h=>absurd h (by rw[HN.out];exact hn))
    go_wp2_with fail
    refine wp_region_ext (by kernel_rfl) (by kernel_rfl) ?_
    repeat (first|go_big_quiet_skip|(refine wpQuiet_step (fun K hK=>?_);go_simp;first|(refine hK _ ?_;clear hK K)|(apply Exists.intro;refine⟨fun wq hwq=>?_,hK _ ?_⟩;(obtain⟨hqc,hqf⟩:=hwq.cells;have hqs:=hwq.size;(try go_simp);first|rfl|((first|rw[if_neg (by omega)]|rw[if_pos (by omega)]);(try go_simp);rfl)|((fail)));clear hK K)))
    refine wpQuiet_nil ?_
    intro wN hxN
    obtain⟨hcN,hfN⟩:=hxN.cells
    have hsN:=hxN.size
    go_wp2
    go_ret2
    exact⟨lo,false,by simp,(fun h=>by cases h),fun _=>HFIN.out,hxw.trans hxN⟩
end Go.Proofs.YtmpccllnpcbgcaaGreatDoor
