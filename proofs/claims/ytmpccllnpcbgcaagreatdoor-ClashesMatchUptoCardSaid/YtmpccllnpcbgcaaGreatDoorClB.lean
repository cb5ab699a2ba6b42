/- The clashes of two rows of items: pack.between. -/
import Derived.Test.YtmpccllnpcbgcaaGreatDoorPk02
import Derived.Test.YtmpccllnpcbgcaaGreatDoorPk04
import Derived.Test.YtmpccllnpcbgcaaGreatDoorPk08
import Derived.Test.YtmpccllnpcbgcaaGreatDoorPk09
import Derived.Test.YtmpccllnpcbgcaaGreatDoorPk19
import Derived.Test.YtmpccllnpcbgcaaGreatDoorPk22
import Derived.Test.YtmpccllnpcbgcaaGreatDoorPk24
import Derived.Test.YtmpccllnpcbgcaaGreatDoorPk25
import Derived.Test.YtmpccllnpcbgcaaGreatDoorPk27
import Derived.Test.YtmpccllnpcbgcaaGreatDoorPk29
import Derived.Test.YtmpccllnpcbgcaaGreatDoorPk34
import Derived.Test.YtmpccllnpcbgcaaGreatDoorPk35
import Derived.Test.YtmpccllnpcbgcaaGreatDoorPaL
import Derived.Test.YtmpccllnpcbgcaaGreatDoorClA
import Derived.Test.YtmpccllnpcbgcaaGreatDoorProg
import Derived.Test.YtmpccllnpcbgcaaGreatDoorShelf
import Derived.Lib.Split
import Derived.Lib.IndexBytes
import Derived.Lib.ItoaLen
import Derived.WalkKit
import Derived.WalkSpells
import Derived.WalkLawsBesides
import Derived.LoopTactic
import Derived.Outline
import Derived.Lib.Hide
import Derived.Lib.LaidTab
import Derived.Lib.ConvBytes
import Derived.Lib.ItoaNum
import Derived.WalkSmall
import Derived.Sort.Grow
import Derived.Deep.QuietTactic
import Derived.BigQuiet
import Derived.Lib.Replace
import Derived.Lib.SplitLaws
import Derived.Laws.AppendOwn
import Derived.Laws.OwnMore
import Derived.Maps.AppendAt
import Derived.OwnWalk
import Derived.Lib.Join
import Derived.StillTail
import Derived.Lib.AtoiAll
import Derived.Lib.Small
import Derived.Lib.Bytealg
import Derived.Deep.DeepCutAuto
import Derived.Deep.AppendLies
import Derived.Deep.RegionHeld3
import Derived.Deep.RegionLaw
import Derived.MapKept
import Derived.Laws.StructEq
import Derived.Deep.LoopGhost
import Derived.Laws.Cells
import Derived.Maps.OwnSet
import Derived.Maps.StringElems
import Derived.Sort.Walk0
import Derived.Sort.KeysCollected
import Derived.Lib.SlicesCompact
import Derived.Maps.RangeWalk
import Derived.Deep.Upon
import Derived.ArgAppend
import Derived.Laws.MakeOwn
import Derived.DeepKeys3
import Derived.OrdersHeld
import Derived.RegionTactic
namespace Go.Proofs.YtmpccllnpcbgcaaGreatDoor
open Go.RowKit
theorem info_cla:(Tryz.prog.info? 120).map (fun i=>(i.zero,i.size,i.bytes))=some (some (.agg #[.int .i64 0,.int .i64 0,.int .i64 0,.string ⟨#[]⟩]),4,40):=by kernel_rfl
theorem claC_flat (l:List Cla):(l.flatMap claC).length=l.length * 4:=by
 induction l with
 | nil=>rfl
 | cons s l ih=>rw[List.flatMap_cons,List.length_append,ih,claC_length,List.length_cons];omega
theorem claC_one (l:List Cla):∀ u∈l.flatMap claC,u.oneCell'=true:=by
 intro u hu
 obtain⟨s,_,h⟩:=List.mem_flatMap.1 hu
 simp only[claC,List.mem_cons,List.not_mem_nil,or_false] at h
 rcases h with rfl|rfl|rfl|rfl<;>rfl
def RdCl (w:World) (A:Option Addr) (l:List Cla):Prop:=l≠[]->∃ b o,A=some ⟨b,o,none⟩∧∀ j u,(l.flatMap claC)[j]?=some u->w.cell? ⟨b,o+j,none⟩=some u
theorem RdCl.ext {w w':World} {A:Option Addr} {l:List Cla} (h:RdCl w A l) (hx:Ext w w'):RdCl w' A l:=fun hn=>by
 obtain⟨b,o,e,k⟩:=h hn
 exact⟨b,o,e,fun j u hu=>hx.cell (k j u hu)⟩
theorem rdcl_own {w:World} {B n:Nat} {v:Value} {l:List Cla} (h:w.ownsRow B 120 4 v n (l.flatMap claC)) (hn:l.length=n):∃ A c,v=.slice A n c∧n<=c∧RdCl w A l:=by
 rcases Nat.eq_zero_or_pos n with h0|h0
 ·subst h0
  have he:l=[]:=List.eq_nil_of_length_eq_zero hn
  rcases h.2 with ⟨rfl,_⟩|⟨g,cap,cur,rfl,_⟩
  ·exact⟨none,0,rfl,Nat.le_refl _,fun e=>absurd he e⟩
  ·exact⟨_,_,rfl,Nat.zero_le _,fun e=>absurd he e⟩
 ·obtain⟨g,c,rfl,hlt,hB,hc,hcell⟩:=own_form h h0
  exact⟨_,_,rfl,hc,fun _=>⟨g,0,rfl,fun j u hu=>by rw[Nat.zero_add];exact hcell j u hu⟩⟩
theorem wpList_appC {ops:Array Oper} {rest:List Oper} {o:Oper} {a:Act} {Q:Exit->Act->World->Prop} (wr:World) (i j k:Int) (nm:ByteArray) (hgd:o.guard=none) (s x:Operand)
 (ho:o.op=.call { callee:=.builtin .append,args:=#[s,x],argTypes:=#[113,113] })
 (B:Nat) (v:Value) (l:List Cla) (n:Nat) (hs:a.eval s=v) (hown:wr.ownsRow B 120 4 v n (l.flatMap claC)) (hl:l.length=n)
 (c gA:Nat) (hx:a.eval x=.slice (some ⟨gA,0,none⟩) 1 c) (hgA:wr.heap.size=gA) (hn:n<=100000000000) (hbase:B<=wr.heap.size)
 (h:∀ v' w',w'.ownsRow B 120 4 v' (l++([⟨i,j,k,nm⟩]:List Cla)).length ((l++([⟨i,j,k,nm⟩]:List Cla)).flatMap claC)->(∀ a',Ext a' wr->a'.heap.size<=B->Ext a' w')->(∀ g t' ds,Blk wr g t' ds->g < B->Blk w' g t' ds)->wpList Tryz.prog ops Q rest (a.put o.dst v') w') :
 wpList Tryz.prog ops Q (o::rest) a (wr.alloc (.cells #[.int .i64 i,.int .i64 j,.int .i64 k,.string nm] 120)):=by
 obtain⟨i',hi,hz0,hz1,hz2⟩:=info_parts info_cla
 have hnew:=Blk.new wr 120 #[.int .i64 i,.int .i64 j,.int .i64 k,.string nm]
 refine wpList_append_own (wr.alloc (.cells #[.int .i64 i,.int .i64 j,.int .i64 k,.string nm] 120)) hgd s x 113 ho B 120 i' _ 4 40 Tryz.underlying113 hi hz0 hz1 hz2 rfl (by decide) v n (l.flatMap claC) hs (hown.alloc _) ⟨wr.heap.size,0,none⟩ 1 c [.int .i64 i,.int .i64 j,.int .i64 k,.string nm] (by rw[hgA];exact hx) rfl ?_ (by simp[Value.oneCell']) ?_ ?_ (by simp;omega) ?_
 ·intro t u hu
  have hadd:(⟨wr.heap.size,0,none⟩:Addr).add t=⟨wr.heap.size,t,none⟩:=by unfold Addr.add;split<;>simp_all
  rw[hadd,hnew.cell]
  simpa using hu
 ·simp only[maxLen];omega
 ·omega
 ·intro v' w' hown' hg _
  refine h v' w' ?_ (fun a' ha hB=>?_) (fun g t' ds hb hlt=>?_)
  ·rw[List.length_append,hl,List.flatMap_append]
   exact hown'
  ·exact (ha.alloc _).grown (hown.alloc _) hB hg
  ·exact (hb.alloc _).grown (hown.alloc _) hlt hg
theorem step_appC {ops:Array Oper} {o:Oper} {a:Act} {K:Act->World->Prop} {Q:Exit->Act->World->Prop} {E:Prop} (wr:World) (i j k:Int) (nm:ByteArray) (hgd:o.guard=none) (s x:Operand)
 (ho:o.op=.call { callee:=.builtin .append,args:=#[s,x],argTypes:=#[113,113] })
 (B:Nat) (v:Value) (l:List Cla) (n:Nat) (hs:a.eval s=v) (hown:wr.ownsRow B 120 4 v n (l.flatMap claC)) (hl:l.length=n)
 (c gA:Nat) (hx:a.eval x=.slice (some ⟨gA,0,none⟩) 1 c) (hgA:wr.heap.size=gA) (hn:n<=100000000000) (hbase:B<=wr.heap.size)
 (h:∀ v' w',w'.ownsRow B 120 4 v' (l++([⟨i,j,k,nm⟩]:List Cla)).length ((l++([⟨i,j,k,nm⟩]:List Cla)).flatMap claC)->(∀ a',Ext a' wr->a'.heap.size<=B->Ext a' w')->K (a.put o.dst v') w') :
 if Region.wanted o (yielded ops a.tmps)=true then Oper.wp Tryz.prog o a (wr.alloc (.cells #[.int .i64 i,.int .i64 j,.int .i64 k,.string nm] 120)) K Q else E:=by
 have hw:Region.wanted o (yielded ops a.tmps)=true:=by simp[Region.wanted,hgd]
 rw[if_pos hw]
 obtain⟨i',hi,hz0,hz1,hz2⟩:=info_parts info_cla
 have hnew:=Blk.new wr 120 #[.int .i64 i,.int .i64 j,.int .i64 k,.string nm]
 obtain⟨v',w',hr,h2,h3,_⟩:=run_append_own_at (P:=Tryz.prog) (wr.alloc (.cells #[.int .i64 i,.int .i64 j,.int .i64 k,.string nm] 120)) B 113 o.type 120 i' _ 4 40 Tryz.underlying113 hi hz0 hz1 hz2 rfl (by decide) v n _ (hown.alloc _) ⟨wr.heap.size,0,none⟩ 1 c [.int .i64 i,.int .i64 j,.int .i64 k,.string nm] rfl (fun t u hu=>by
  have hadd:(⟨wr.heap.size,0,none⟩:Addr).add t=⟨wr.heap.size,t,none⟩:=by unfold Addr.add;split<;>simp_all
  rw[hadd,hnew.cell]
  simpa using hu) (by simp[Value.oneCell']) (by simp only[maxLen];omega) (by omega) (by simp;omega)
 rw[<-hgA] at hx
 unfold Oper.wp execOp
 simp only[ho,resolve,invoke,builtin,Sem.run_bind,Sem.run_pure,Result.andThen_ok,List.map_toArray,List.map_cons,List.map_nil,hs,hx,hr]
 refine h v' w' ?_ (fun a' ha hB=>?_)
 ·rw[List.length_append,hl,List.flatMap_append]
  exact h2
 ·exact (ha.alloc _).grown (hown.alloc _) hB h3
theorem wpList_appC2 {ops:Array Oper} {rest:List Oper} {o:Oper} {a:Act} {Q:Exit->Act->World->Prop} (wr:World) (i j k:Int) (nm:ByteArray) (hgd:o.guard=none) (s x:Operand)
 (ho:o.op=.call { callee:=.builtin .append,args:=#[s,x],argTypes:=#[113,113] })
 (B:Nat) (v:Value) (l:List Cla) (n:Nat) (hs:a.eval s=v) (hown:wr.ownsRow B 120 4 v n (l.flatMap claC)) (hl:l.length=n)
 (c gA:Nat) (hx:a.eval x=.slice (some ⟨gA,0,none⟩) 1 c) (hgA:wr.heap.size=gA) (hn:n<=100000000000) (hbase:B<=wr.heap.size)
 (h:∀ v' w',w'.ownsRow B 120 4 v' (l++([⟨i,j,k,nm⟩]:List Cla)).length ((l++([⟨i,j,k,nm⟩]:List Cla)).flatMap claC)->(wr.alloc (.cells #[.int .i64 i,.int .i64 j,.int .i64 k,.string nm] 120)).grownBy w' v.ownBlock->(v'.ownBlock=v.ownBlock∨v'.ownBlock=some (wr.heap.size+1))->wpList Tryz.prog ops Q rest (a.put o.dst v') w') :
 wpList Tryz.prog ops Q (o::rest) a (wr.alloc (.cells #[.int .i64 i,.int .i64 j,.int .i64 k,.string nm] 120)):=by
 obtain⟨i',hi,hz0,hz1,hz2⟩:=info_parts info_cla
 have hnew:=Blk.new wr 120 #[.int .i64 i,.int .i64 j,.int .i64 k,.string nm]
 refine wpList_append_own_at (wr.alloc (.cells #[.int .i64 i,.int .i64 j,.int .i64 k,.string nm] 120)) hgd s x 113 ho B 120 i' _ 4 40 Tryz.underlying113 hi hz0 hz1 hz2 rfl (by decide) v n (l.flatMap claC) hs (hown.alloc _) ⟨wr.heap.size,0,none⟩ 1 c [.int .i64 i,.int .i64 j,.int .i64 k,.string nm] (by rw[hgA];exact hx) rfl ?_ (by simp[Value.oneCell']) ?_ ?_ (by simp;omega) ?_
 ·intro t u hu
  have hadd:(⟨wr.heap.size,0,none⟩:Addr).add t=⟨wr.heap.size,t,none⟩:=by unfold Addr.add;split<;>simp_all
  rw[hadd,hnew.cell]
  simpa using hu
 ·simp only[maxLen];omega
 ·omega
 ·intro v' w' hown' hg _ hat
  refine h v' w' ?_ hg (by rw[World.size_alloc] at hat;exact hat)
  rw[List.length_append,hl,List.flatMap_append]
  exact hown'
theorem place_kind (K:Int) (N:ByteArray) (w:World):(Instr.field 269 (.agg #[.int .i64 K,.string N]) 0).run Tryz.prog w=.ok (.int .i64 K) w:=by kernel_rfl
theorem place_name (K:Int) (N:ByteArray) (w:World):(Instr.field 269 (.agg #[.int .i64 K,.string N]) 1).run Tryz.prog w=.ok (.string N) w:=by kernel_rfl
theorem togI_parts (x y:Itm):togI x y=(decide (x.kind=2)&&(decide (y.kind=2)&&(decide (x.path=y.path)&&(decide (x.data=y.data)&&decide (x.runs=y.runs))))):=rfl
set_option maxHeartbeats 16000000 in
set_option maxRecDepth 100000 in
theorem between_any (i j:Int) (A1 A2:Option Addr) (n1 c1 n2 c2:Nat) (L1 L2:List Itm) (w:World) (hn1:L1.length=n1) (hr1:RdI w A1 L1) (hl1:n1<=2097152) (hn2:L2.length=n2) (hr2:RdI w A2 L2) (hl2:n2<=2097152) (hcap:n2<=c2) (hs:L2.Pairwise fun u v=>itCmp u v<=0) :
 Calls Tryz.prog 144 #[.int .i64 i,.int .i64 j,.slice A1 n1 c1,.slice A2 n2 c2] w fun e w'=>∃ v,e=.returned v∧w'.ownsRow w.heap.size 120 4 v (clB i j L1 L2).length ((clB i j L1 L2).flatMap claC)∧Ext w w':=by
 have HN1:=Hy hn1
 have HR1:=Hy hr1
 have HN2:=Hy hn2
 have HR2:=Hy hr2
 have CB:=Hy (fun x W (h:Ext w W)=>BinI_any A2 n2 c2 L2 x W hn2 (hr2.ext h) hl2 hs)
 have HSUC:=Hy (fun k (hk:k < L1.length)=>clB_succ i j L2 hk)
 have HBL:=Hy (fun k=>clB_len i j (L1.take k) L2)
 have HF0:=Hy (show clB i j (L1.take 0) L2=[] from rfl)
 have HFN:=Hy (show clB i j (L1.take n1) L2=clB i j L1 L2 from by rw[List.take_of_length_le (by omega)])
 clear hn1 hr1 hn2 hr2 hs
 obtain⟨G,hG⟩:∃ G:Nat->List Cla,G=fun k=>clB i j (L1.take k) L2:=⟨_,rfl⟩
 have HSUC2:=Hy (fun k (hk:k < L1.length)=>show G (k+1)=G k++clX i j L1[k] (findI L2 L1[k]) from by rw[hG];exact HSUC.out k hk)
 have HGL:=Hy (fun k (hk:k<=n1)=>show (G k).length<=2097152 from by
  rw[hG]
  dsimp only
  have h1:=HBL.out k
  have h2:=List.length_take_le k L1
  omega)
 have HG0:=Hy (show G 0=[] from by rw[hG];exact HF0.out)
 have HGN:=Hy (show clB i j L1 L2=G n1 from by rw[hG];exact HFN.out.symm)
 rw[HGN.out]
 clear hG HSUC HBL HF0 HFN HGN
 go_enter Tryz.func144,Tryz.ntmps144
 go_wp2
 go_loopw [9,17] (fun s ix wr=>∃ k:Nat,k<=n1∧ix=.int .i64 k∧Hid (wr.ownsRow w.heap.size 120 4 s (G k).length ((G k).flatMap claC))∧Ext w wr) (fun s ix _=>n1 - (intOf ix).toNat)
 case atStart=>exact⟨0,Nat.zero_le _,rfl,Hy (by rw[HG0.out];exact World.ownsRow_nil _ _ _ _),Ext.refl _⟩
 case round =>
  obtain⟨k,hk,rfl,HO,hxr⟩:=hrel
  obtain⟨wo,rfl⟩:∃ wo:World,wo=wr:=⟨_,rfl⟩
  by_cases hlt:k < n1
  ·have hk1:k < L1.length:=by rw[HN1.out];exact hlt
   obtain⟨b,o,rfl,hX⟩:=HR1.out (fun e=>by rw[e] at hk1;exact absurd hk1 (Nat.not_lt_zero _))
   have LD:=load_It ((hX k hk1).ext hxr)
   have HT:=Hy (HSUC2.out k hk1)
   have hgl:=HGL.out k (by omega)
   have CBK:=Hy (fun W (h:Ext w W)=>CB.out L1[k] W h)
   clear hX
   generalize L1[k]=x at *
   dsimp only[itmV] at LD CBK
   have b1:=Blk.new wo 104 #[.int .i64 x.kind,.string x.path,.string x.data,.bool x.runs,.string x.key,.string x.val,.string x.sn,.string x.sp,.bool x.auto,.bool x.on]
   have hxa:Ext wo (wo.alloc (.cells #[.int .i64 x.kind,.string x.path,.string x.data,.bool x.runs,.string x.key,.string x.val,.string x.sn,.string x.sp,.bool x.auto,.bool x.on] 104)):=(Ext.refl wo).alloc _
   generalize hW1:wo.alloc (.cells #[.int .i64 x.kind,.string x.path,.string x.data,.bool x.runs,.string x.key,.string x.val,.string x.sn,.string x.sp,.bool x.auto,.bool x.on] 104)=W1 at *
   have HW1:=Hy hW1
   have LB:=loadB_It b1 rfl
   have e1:=b1.cell;have l1:=b1.lt
   clear hW1
   go_wp2_with (first|(rw[HW1.out])|(refine wpList_load_at rfl _ _ rfl _ rfl _ LD ?_)|(refine wpList_load_at rfl _ _ rfl _ rfl _ LB ?_))
   refine (CBK.out _ (hxr.trans hxa)).mono ?_
   rintro e w2 ⟨i',r,rfl,hhit,hmiss,hx2⟩
   have hxb:=hxa.trans hx2
   have b2:=b1.ext hx2
   have hown2:=own_ext HO.out hxb
   clear LD LB e1 l1 CBK b1
   cases r with
   | false =>
     have HT2:=Hy (show G (k+1)=G k from by rw[HT.out,hmiss rfl];simp[clX])
     have HO2:=Hy (show w2.ownsRow w.heap.size 120 4 _ (G (k+1)).length ((G (k+1)).flatMap claC) from by rw[HT2.out];exact hown2)
     clear hhit hmiss HT hown2
     go_wp2
     go_roundw
     case rel=>exact⟨k+1,by omega,by go_num,HO2,hxr.trans hxb⟩
     case measure=>simp[intOf];omega
   | true =>
     obtain⟨hi1,hf⟩:=hhit rfl
     have hi2:i' < n2:=by rw[<-HN2.out];exact hi1
     have hic:i'<=c2:=by omega
     obtain⟨b',o',rfl,hX⟩:=(HR2.out.ext (hxr.trans hxb)) (fun e=>by rw[e] at hi1;exact absurd hi1 (Nat.not_lt_zero _))
     have LD:=load_It (hX i' hi1)
     have HT2:=Hy (show G (k+1)=G k++(if togI x L2[i']=true then [] else [⟨i,j,spotK x,spotN x⟩]) from by rw[HT.out,hf];rfl)
     clear hX hhit hmiss HT hf
     generalize L2[i']=y at *
     dsimp only[itmV] at LD
     have b3:=Blk.new w2 104 #[.int .i64 y.kind,.string y.path,.string y.data,.bool y.runs,.string y.key,.string y.val,.string y.sn,.string y.sp,.bool y.auto,.bool y.on]
     have hx3:Ext w2 (w2.alloc (.cells #[.int .i64 y.kind,.string y.path,.string y.data,.bool y.runs,.string y.key,.string y.val,.string y.sn,.string y.sp,.bool y.auto,.bool y.on] 104)):=(Ext.refl w2).alloc _
     have b4:=b2.ext hx3
     have hown3:=own_ext hown2 hx3
     have hxd:=(hxr.trans hxb).trans hx3
     generalize hW3:w2.alloc (.cells #[.int .i64 y.kind,.string y.path,.string y.data,.bool y.runs,.string y.key,.string y.val,.string y.sn,.string y.sp,.bool y.auto,.bool y.on] 104)=W3 at *
     have HW3:=Hy hW3
     have HNF:=Hy (run_neqf x.path x.data x.runs y.path y.data y.runs)
     have hnf:=HNF.out
     have e1:=b4.cell;have l1:=b4.lt;have e3:=b3.cell;have l3:=b3.lt
     have CPL:=Hy (fun W=>placeOf_any x W)
     have hB3:=hxd.size
     dsimp only[itmV] at CPL
     obtain⟨K,hK⟩:∃ K,K=spotK x:=⟨_,rfl⟩
     obtain⟨NM,hNM⟩:∃ NM,NM=spotN x:=⟨_,rfl⟩
     rw[<-hK,<-hNM] at CPL HT2
     have HTG:=Hy (togI_parts x y)
     obtain⟨TG,hTG⟩:∃ TG,TG=togI x y:=⟨_,rfl⟩
     rw[<-hTG] at HTG HT2
     clear hW3 hK hNM hTG b2 hown2 HO
     obtain⟨xk,xp,xd,xr,xe,xv,xs,xq,xa,xo⟩:=x
     obtain⟨yk,yp,yd,yr,ye,yv,ys,yq,ya,yo⟩:=y
     dsimp only at *
     generalize hFE:(decide (xp=yp)&&(decide (xd=yd)&&decide (xr=yr)))=FE at *
     clear hFE
     cases hTG:TG with
     | true =>
       have h3:=HTG.out
       rw[hTG,Eq.comm,Bool.and_eq_true,Bool.and_eq_true,decide_eq_true_eq,decide_eq_true_eq] at h3
       obtain⟨rfl,rfl,rfl⟩:=h3
       rw[hTG] at HT2
       have HT3:=Hy (show G (k+1)=G k from by rw[HT2.out];simp)
       have HO3:=Hy (show W3.ownsRow w.heap.size 120 4 _ (G (k+1)).length ((G (k+1)).flatMap claC) from by rw[HT3.out];exact hown3)
       clear HT2 HTG hTG hown3 b3 b4
       go_wp2_with (first|(rw[HW3.out])|(refine wpList_load_at rfl _ _ rfl _ rfl _ LD ?_))
       go_roundw
       case rel=>exact⟨k+1,by omega,by go_num,HO3,hxd⟩
       case measure=>simp[intOf];omega
     | false =>
       rw[hTG] at HT2 HTG
       have HT3:=Hy (show G (k+1)=G k++[⟨i,j,K,NM⟩] from by rw[HT2.out];simp)
       have hcase:(decide (xk=2)=true∧decide (yk=2)=true∧FE=false)∨(decide (xk=2)=true∧decide (yk=2)=false)∨decide (xk=2)=false:=by
        have h3:=HTG.out
        revert h3
        cases decide (xk=2)<;>cases decide (yk=2)<;>cases FE<;>simp
       clear HT2 HTG hTG
       rcases hcase with ⟨q1,q2,rfl⟩|⟨q1,q2⟩|q1
       all_goals
        try obtain rfl:=of_decide_eq_true q1
        try obtain rfl:=of_decide_eq_true q2
        try have q3:(xk != 2)=true:=by rw[bne_iff_ne];exact of_decide_eq_false q1
        try have q4:(yk != 2)=true:=by rw[bne_iff_ne];exact of_decide_eq_false q2
        try clear q1
        try clear q2
        go_wp2_with (first|(rw[HW3.out])|(refine wpList_load_at rfl _ _ rfl _ rfl _ LD ?_))
        try rw[HW3.out]
        have hpk:=place_kind K NM
        have hpn:=place_name K NM
        have HOW3:=Hy hown3
        have CP2:=Hy (fun W (h:Ext W3 W)=>(CPL.out W).mono fun e w' hh=>(show e=.returned (.agg #[.int .i64 K,.string NM])∧Ext W3 w' from ⟨hh.1,h.trans hh.2⟩))
        have BX:=Hy b4
        clear LD hnf e3 l3 hown3 b4 b3 CPL HNF
        go_region_law ((first
         | (refine step_appC _ _ _ _ _ (by rfl) _ _ (by rfl) w.heap.size _ (G k) _ (by rfl) (own_ext HOW3.out hab) rfl _ _ (by rfl) (by first|rfl|simp) (by omega) (Nat.le_trans hB3 hab.size) ?_;intro v' w5 hown5 hx5)
         | (go_simp;go_at_call 211;with_reducible refine (CP2.out _ Ext.au).mono ?_;rintro e w' ⟨rfl,hab⟩;(have e9:=(BX.out.ext hab).cell;have l9:=(BX.out.ext hab).lt))))
        all_goals
         have HO5:=Hy hown5
         have hxo:=hx5 _ (hxd.trans hab) (Nat.le_refl _)
         clear e1 l1 hpk hpn hown5 hx5
         go_wp2
         go_roundw
         case rel=>exact⟨k+1,by omega,by go_num,Hy (by rw[HT3.out];exact HO5.out),hxo⟩
         case measure=>simp[intOf];omega
  ·obtain rfl:k=n1:=by omega
   go_wp2
   go_ret
   exact⟨_,rfl,HO.out,hxr⟩
end Go.Proofs.YtmpccllnpcbgcaaGreatDoor
