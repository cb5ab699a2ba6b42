/- outref2.SameOffer and SameFeed at offers and feeds that are the same. -/
import Derived.Test.YtmnafaaijglnfaaGreatDoorOm27
namespace Go.Proofs.YtmnafaaijglnfaaGreatDoor
open Go.RowKit
theorem run_eqlv (u v:V4) (w:World):(binOp .eql 23 (verV u) (verV v)).run Tryz.prog w=.ok (.bool (decide (u=v))) w:=by
 rw[run_eql_struct,run_eqv 9998]
 rfl
theorem run_eqlv1 (a b c:Int) (s:ByteArray) (w:World):(binOp .eql 23 (.agg #[.int .i64 a,.int .i64 b,.int .i64 c,.string s]) (.agg #[.int .i64 a,.int .i64 b,.int .i64 c,.string s])).run Tryz.prog w=.ok (.bool true) w:=by
 have:=run_eqlv ⟨a,b,c,s⟩ ⟨a,b,c,s⟩ w
 rw[decide_eq_true rfl] at this
 exact this
set_option maxHeartbeats 8000000 in
set_option maxRecDepth 100000 in
theorem SameOffer_refl (o:Of) (A:Option Addr) (c:Nat) (k:Int) (n x:ByteArray) (A2:Option Addr) (m c2:Nat) (B:Option Addr) (d:Nat) (k':Int) (n' x':ByteArray) (B2:Option Addr) (m' d2:Nat) (w:World) (h1:OfIn AnyB w o A k n x A2 m c2) (h2:OfIn AnyB w o B k' n' x' B2 m' d2) (hs:SmallO o) :
 Calls Tryz.prog 66 #[ofV o A c k n x A2 m c2,ofV o B d k' n' x' B2 m' d2] w fun e w'=>e=.returned (.bool true)∧Ext w w':=by
 have CE:=Hy (fun W (hx:Ext w W)=>show Calls Tryz.prog 95 #[.slice A o.fr.length c,.slice B o.fr.length d] W fun e w'=>e=.returned (.bool true)∧Ext W w' from by
  have:=EqualS_any A B o.fr.length o.fr.length c d o.fr o.fr W rfl rfl (fun hn=>by obtain⟨b,i,e,_,k⟩:=h1.1 hn;exact⟨b,i,e,k.ext hx⟩) (fun hn=>by obtain⟨b,i,e,_,k⟩:=h2.1 hn;exact⟨b,i,e,k.ext hx⟩) hs.len hs.len
  rw[decide_eq_true rfl] at this
  exact this)
 have CC:=Hy (fun W (hx:Ext w W)=>SameCond_refl AnyB AnyB (cnt o.wh) o.wh (Nat.le_refl _) hs.cnt _ _ W (h1.2.ext hx) (h2.2.ext hx))
 clear h1 h2 hs
 obtain⟨on,⟨o1,o2,o3,oa⟩,os,of_,ow,od,ob,ot,og,oh,ou,ok⟩:=o
 dsimp only[ofV] at *
 generalize of_.length=ol at *
 have x1:Ext w (w.alloc (.cells #[.string on,.int .i64 o1,.int .i64 o2,.int .i64 o3,.string oa,.string os,.slice A ol c,.bool ow,.int .i64 k,.string n,.string x,.slice A2 m c2,.int .i64 ob,.int .i64 ot,.int .i64 og,.bool oh,.bool ou,.bool ok] 66)):=(Ext.refl w).alloc _
 have x2:Ext (w.alloc (.cells #[.string on,.int .i64 o1,.int .i64 o2,.int .i64 o3,.string oa,.string os,.slice A ol c,.bool ow,.int .i64 k,.string n,.string x,.slice A2 m c2,.int .i64 ob,.int .i64 ot,.int .i64 og,.bool oh,.bool ou,.bool ok] 66)) ((w.alloc (.cells #[.string on,.int .i64 o1,.int .i64 o2,.int .i64 o3,.string oa,.string os,.slice A ol c,.bool ow,.int .i64 k,.string n,.string x,.slice A2 m c2,.int .i64 ob,.int .i64 ot,.int .i64 og,.bool oh,.bool ou,.bool ok] 66)).alloc (.cells #[.string on,.int .i64 o1,.int .i64 o2,.int .i64 o3,.string oa,.string os,.slice B ol d,.bool ow,.int .i64 k',.string n',.string x',.slice B2 m' d2,.int .i64 ob,.int .i64 ot,.int .i64 og,.bool oh,.bool ou,.bool ok] 66)):=(Ext.refl _).alloc _
 have b0:=(Blk.new w 66 #[.string on,.int .i64 o1,.int .i64 o2,.int .i64 o3,.string oa,.string os,.slice A ol c,.bool ow,.int .i64 k,.string n,.string x,.slice A2 m c2,.int .i64 ob,.int .i64 ot,.int .i64 og,.bool oh,.bool ou,.bool ok]).ext x2
 have b1:=Blk.new (w.alloc (.cells #[.string on,.int .i64 o1,.int .i64 o2,.int .i64 o3,.string oa,.string os,.slice A ol c,.bool ow,.int .i64 k,.string n,.string x,.slice A2 m c2,.int .i64 ob,.int .i64 ot,.int .i64 og,.bool oh,.bool ou,.bool ok] 66)) 66 #[.string on,.int .i64 o1,.int .i64 o2,.int .i64 o3,.string oa,.string os,.slice B ol d,.bool ow,.int .i64 k',.string n',.string x',.slice B2 m' d2,.int .i64 ob,.int .i64 ot,.int .i64 og,.bool oh,.bool ou,.bool ok]
 rw[World.size_alloc] at b1
 have hx0:=x1.trans x2
 have eV:=fun W=>run_eqlv1 o1 o2 o3 oa W
 clear x1 x2
 have e0:=b0.cell;have e1:=b1.cell;have l0:=b0.lt;have l1:=b1.lt
 go_enter Tryz.func66,Tryz.ntmps66
 go_wp2_with fail
 refine (CE.out _ hx0).mono ?_
 rintro e w1 ⟨rfl,hx1⟩
 have hxw1:=hx0.trans hx1
 have B0:=Hy (b0.ext hx1);have B1:=Hy (b1.ext hx1)
 clear e0 e1 l0 l1 b0 b1 CE hx0 hx1
 as_aux_lemma =>
 have e0:=B0.out.cell;have e1:=B1.out.cell;have l0:=B0.out.lt;have l1:=B1.out.lt
 go_wp2_with fail
 refine (CC.out _ hxw1).mono ?_
 rintro e w2 ⟨rfl,hx2⟩
 have hxw2:=hxw1.trans hx2
 have B2:=Hy (B0.out.ext hx2);have B3:=Hy (B1.out.ext hx2)
 clear e0 e1 l0 l1 B0 B1 CC hxw1 hx2
 have e0:=B2.out.cell;have e1:=B3.out.cell;have l0:=B2.out.lt;have l1:=B3.out.lt
 go_wp2
 go_ret
 exact⟨rfl,hxw2⟩
set_option maxHeartbeats 8000000 in
set_option maxRecDepth 100000 in
theorem EqualO_any (l:List Of) (A B:Option Addr) (n c d:Nat) (w:World) (hn:l.length=n) (h1:RdO w A l) (h2:RdO w B l) (hs:∀ o∈l,SmallO o) (hl:n<=100000000) :
 Calls Tryz.prog 68 #[.slice A n c,.slice B n d,.func (.func 66) #[] #[]] w fun e w'=>e=.returned (.bool true)∧Ext w w':=by
 have hen:∀ xs w,Sem.run Tryz.prog (callFunc 66 xs) w=.ok (.enter 66 xs) w:=enters_of Tryz.func66 (by kernel_rfl) rfl
 have hne:((n:Int) != (n:Int))=false:=by rw[bne,beq_iff_eq.2 rfl];rfl
 have H1:=Hy h1;have H2:=Hy h2;have HS:=Hy hs;have HN:=Hy hn
 clear h1 h2 hs hn
 go_enter Tryz.func68,Tryz.ntmps68
 go_wp2
 go_loopw [17] (fun t wr=>∃ j:Nat,t=.int .i64 j∧j<=n∧Ext w wr) (fun t _=>n - (intOf t).toNat)
 case atStart=>exact⟨0,by go_num,Nat.zero_le _,Ext.refl w⟩
 case round =>
  obtain⟨j,rfl,hj,hxr⟩:=hrel
  obtain⟨wo,rfl⟩:∃ wo:World,wo=wr:=⟨_,rfl⟩
  by_cases hlt:j < n
  ·have hk1:j < l.length:=by rw[HN.out];exact hlt
   have hne0:l≠[]:=fun e=>by rw[e] at hk1;exact absurd hk1 (Nat.not_lt_zero _)
   obtain⟨b1,i1,rfl,hX1⟩:=H1.out.ext hxr hne0
   obtain⟨b2,i2,rfl,hX2⟩:=H2.out.ext hxr hne0
   obtain⟨A1,c1,k1,n1,x1,B1,m1,d1,r1⟩:=hX1 j hk1
   obtain⟨A2,c2,k2,n2,x2,B2,m2,d2,r2⟩:=hX2 j hk1
   have hsm:=HS.out _ (List.getElem_mem hk1)
   generalize l[j]=o at *
   have LD1:∀ W,Ext wo W->(loadVar 66 ⟨b1,i1+j * 18,none⟩).run Tryz.prog W=_:=fun W h=>load_row (r1.ext h)
   have LD2:∀ W,Ext wo W->(loadVar 66 ⟨b2,i2+j * 18,none⟩).run Tryz.prog W=_:=fun W h=>load_row (r2.ext h)
   have CS:=Hy (fun W (h:Ext wo W)=>SameOffer_refl o A1 c1 k1 n1 x1 B1 m1 d1 A2 c2 k2 n2 x2 B2 m2 d2 W (r1.has.ext h) (r2.has.ext h) hsm)
   have lx1:=lt_of_cell r1.r0;have lx2:=lt_of_cell r2.r0
   clear hX1 hX2 r1 r2 hsm
   obtain⟨on,⟨o1,o2,o3,oa⟩,os,of_,ow,od,ob,ot,og,oh,ou,ok⟩:=o
   dsimp only[ofV] at LD1 LD2 CS
   generalize of_.length=ol at *
   have L1:=LD1 wo (Ext.refl _)
   have hq0:(0:Int)<=(j:Int):=by omega
   have HX:=Hy hxr
   clear hxr LD1
   go_upto_region 5 with fail
   go_cut [7,8] (fun s7 s8 wx=>s7=.int .i64 j∧s8=.pointer (some ⟨wo.heap.size,0,none⟩)∧Hid (Blk wx wo.heap.size 66 #[.string on,.int .i64 o1,.int .i64 o2,.int .i64 o3,.string oa,.string os,.slice A1 ol c1,.bool ow,.int .i64 k1,.string n1,.string x1,.slice B1 m1 d1,.int .i64 ob,.int .i64 ot,.int .i64 og,.bool oh,.bool ou,.bool ok])∧Ext wo wx∧wx.heap.size=wo.heap.size+1)
   case first=>as_aux_lemma =>
    go_wp2_with (refine wpList_load_at rfl _ _ rfl _ rfl _ L1 ?_)
    go_meet
    case rel=>exact⟨rfl,rfl,Hy (Blk.new wo _ _),(Ext.refl _).alloc _,World.size_alloc _ _⟩
   case rest =>
   obtain⟨rfl,rfl,HA,hxA,hsA⟩:=hcut
   obtain⟨wA,rfl⟩:∃ wA:World,wA=wc:=⟨_,rfl⟩
   have L2:=LD2 _ hxA
   clear L1 LD2
   go_upto_region 6 with fail
   go_cut [9] (fun s9 wx=>s9=.pointer (some ⟨wo.heap.size+1,0,none⟩)∧Hid (Blk wx wo.heap.size 66 #[.string on,.int .i64 o1,.int .i64 o2,.int .i64 o3,.string oa,.string os,.slice A1 ol c1,.bool ow,.int .i64 k1,.string n1,.string x1,.slice B1 m1 d1,.int .i64 ob,.int .i64 ot,.int .i64 og,.bool oh,.bool ou,.bool ok])∧Hid (Blk wx (wo.heap.size+1) 66 #[.string on,.int .i64 o1,.int .i64 o2,.int .i64 o3,.string oa,.string os,.slice A2 ol c2,.bool ow,.int .i64 k2,.string n2,.string x2,.slice B2 m2 d2,.int .i64 ob,.int .i64 ot,.int .i64 og,.bool oh,.bool ou,.bool ok])∧Ext wo wx)
   case first=>as_aux_lemma =>
    go_wp2_with (refine wpList_load_at rfl _ _ rfl _ rfl _ L2 ?_)
    go_meet
    case rel=>exact⟨by first|rfl|rw[hsA],Hy (HA.out.alloc _),Hy (by rw[<-hsA];exact Blk.new _ _ _),hxA.alloc _⟩
   case rest =>
   clear L2 HA hxA hsA
   obtain⟨rfl,HA,HB,hxB⟩:=hcut
   obtain⟨wB,rfl⟩:∃ wB:World,wB=wc:=⟨_,rfl⟩
   have LA:=load_blk HA.out rfl;have LB:=load_blk HB.out rfl
   have lA:=HA.out.lt;have lB:=HB.out.lt
   go_wp2_with (first|refine wpList_load_at rfl _ _ rfl _ rfl _ LA ?_|refine wpList_load_at rfl _ _ rfl _ rfl _ LB ?_)
   refine (CS.out _ hxB).mono ?_
   rintro e w3 ⟨rfl,hx3⟩
   have hxe:=(HX.out.trans hxB).trans hx3
   clear LA LB lA lB HA HB
   go_wp2
   go_roundw
   case rel=>exact⟨j+1,by go_num,hlt,hxe⟩
   case measure=>simp[intOf];omega
  ·go_wp2
   go_ret
   exact⟨rfl,hxr⟩
end Go.Proofs.YtmnafaaijglnfaaGreatDoor
