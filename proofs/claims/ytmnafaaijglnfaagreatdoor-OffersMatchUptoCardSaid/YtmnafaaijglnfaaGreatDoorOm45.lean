/- Contract of outref2.OfferedOf. (Printed by gen/omh.py from XOmG.) -/
import Derived.Test.YtmnafaaijglnfaaGreatDoorOm40
import Derived.Test.YtmnafaaijglnfaaGreatDoorOm43
namespace Go.Proofs.YtmnafaaijglnfaaGreatDoor
open Go.RowKit
def OutIs (w:World) (l:List Of) (B:Int) (cs:Array Value):Prop:=cs.size=18∧(0<=B->∃ A c kk n x A2 m c2,ofV (l.getD B.toNat zeroO) A c kk n x A2 m c2=.agg cs∧OfIn AnyB w (l.getD B.toNat zeroO) A kk n x A2 m c2)
theorem OutIs.urg {w:World} {l:List Of} {B:Int} {cs:Array Value} (h:OutIs w l B cs) (h0:0<=B):cs[16]?=some (.bool (urgL l B)):=by
 obtain⟨A,c,kk,n,x,A2,m,c2,he,_⟩:=h.2 h0
 unfold ofV at he
 injection he with he
 rw[<-he]
 rfl
set_option maxHeartbeats 8000000 in
set_option maxRecDepth 100000 in
theorem OfferedOf_any (ch:ByteArray) (sr tm:Int) (l:List Of) (A:Option Addr) (n c:Nat) (mc:Mac) (A':Option Addr) (n' c':Nat) (Af:Option Addr) (nf cf:Nat) (As:Option Addr) (ns cs:Nat) (Ap:Option Addr) (np cp:Nat) (nm:ByteArray) (t:Int) (w0 w:World) (hx00:Ext w0 w) (hg:GoodS w) (hn:l.length=n) (hr:RdO w0 A l) (hs:∀ o∈l,SmallO o) (ho:∀ o∈l,ofErr o=0) (hl:n<=2097152) (hm:MacIn w mc A' n' Af nf As ns Ap np cp) (hsm:SmallM mc) (hme:MacOk mc) (ht:0<=t) (ht2:t<=1099511627776) :
 Calls Tryz.prog 67 #[.agg #[.string ch,.int .i64 sr,.int .i64 tm,.slice A n c],macV mc A' n' c' Af nf cf As ns cs Ap np cp,.string nm,.int .i64 t] w fun e w'=>(∃ A c kk n x A2 m c2,e=.returned (.tuple #[ofV (offO l (offR l (fun o=>fitM o mc t) nm.toList)) A c kk n x A2 m c2,.int .i64 (offR l (fun o=>fitM o mc t) nm.toList).2])∧OfIn AnyB w0 (offO l (offR l (fun o=>fitM o mc t) nm.toList)) A kk n x A2 m c2)∧Ext w w':=by
 have HN:=Hy hn
 have HR:=Hy hr
 have HSM:=Hy hs
 have HFIT:=Hy (show ∀ o∈l,∀ A c k n x A2 m c2 W,Ext w W->OfIn AnyB W o A k n x A2 m c2->Calls Tryz.prog 63 #[ofV o A c k n x A2 m c2,macV mc A' n' c' Af nf cf As ns cs Ap np cp,.int .i64 t] W fun e w'=>e=.returned (.int .i64 (fitM o mc t))∧Ext W w' from
  fun o hmem A c k n x A2 m c2 W h hi=>FitsOf_any o A c k n x A2 m c2 mc A' n' c' Af nf cf As ns cs Ap np cp t W (hg.ext h) hi (hs o hmem) (ho o hmem) (hm.ext h) hsm hme ⟨ht,ht2⟩)
 have HNEXT:=Hy (fun (k:Nat) (h:k < l.length)=>offS_next l (fun o=>fitM o mc t) nm.toList h)
 have HLT:=Hy (offS_lt l (fun o=>fitM o mc t) nm.toList)
 have HS0:=Hy (show offS l (fun o=>fitM o mc t) nm.toList 0=(-1,8) from rfl)
 have HRES:=Hy (show offR l (fun o=>fitM o mc t) nm.toList=if 0<=(offS l (fun o=>fitM o mc t) nm.toList n).1 then ((offS l (fun o=>fitM o mc t) nm.toList n).1,0) else (-1,(offS l (fun o=>fitM o mc t) nm.toList n).2) from by rw[<-hn];rfl)
 clear hg hn hr hs ho hm hsm hme ht ht2
 generalize offR l (fun o=>fitM o mc t) nm.toList=RES at *
 generalize offS l (fun o=>fitM o mc t) nm.toList=S at *
 obtain⟨FM,hFM⟩:∃ FM:Of->Int,FM=fun o=>fitM o mc t:=⟨_,rfl⟩
 have HFM:=Hy hFM
 obtain⟨mn,mi,mf,ms,mp⟩:=mc
 dsimp only[macV] at *
 clear hFM
 have bF:=(((Blk.new w 59 #[.string ch,.int .i64 sr,.int .i64 tm,.slice A n c]).alloc (.cells #[.string mn,.slice A' n' c',.slice Af nf cf,.slice As ns cs,.slice Ap np cp] 96)).alloc (.cells #[.string ⟨#[]⟩,.int .i64 0,.int .i64 0,.int .i64 0,.string ⟨#[]⟩,.string ⟨#[]⟩,.slice none 0 0,.bool false,.int .i64 0,.string ⟨#[]⟩,.string ⟨#[]⟩,.slice none 0 0,.int .i64 0,.int .i64 0,.int .i64 0,.bool false,.bool false,.bool false] 66)).alloc (.cells #[.string ⟨#[]⟩,.int .i64 0,.int .i64 0,.int .i64 0,.string ⟨#[]⟩,.string ⟨#[]⟩,.slice none 0 0,.bool false,.int .i64 0,.string ⟨#[]⟩,.string ⟨#[]⟩,.slice none 0 0,.int .i64 0,.int .i64 0,.int .i64 0,.bool false,.bool false,.bool false] 66)
 have bM:Blk ((((w.alloc (.cells #[.string ch,.int .i64 sr,.int .i64 tm,.slice A n c] 59)).alloc (.cells #[.string mn,.slice A' n' c',.slice Af nf cf,.slice As ns cs,.slice Ap np cp] 96)).alloc (.cells #[.string ⟨#[]⟩,.int .i64 0,.int .i64 0,.int .i64 0,.string ⟨#[]⟩,.string ⟨#[]⟩,.slice none 0 0,.bool false,.int .i64 0,.string ⟨#[]⟩,.string ⟨#[]⟩,.slice none 0 0,.int .i64 0,.int .i64 0,.int .i64 0,.bool false,.bool false,.bool false] 66)).alloc (.cells #[.string ⟨#[]⟩,.int .i64 0,.int .i64 0,.int .i64 0,.string ⟨#[]⟩,.string ⟨#[]⟩,.slice none 0 0,.bool false,.int .i64 0,.string ⟨#[]⟩,.string ⟨#[]⟩,.slice none 0 0,.int .i64 0,.int .i64 0,.int .i64 0,.bool false,.bool false,.bool false] 66)) (w.heap.size+1) 96 #[.string mn,.slice A' n' c',.slice Af nf cf,.slice As ns cs,.slice Ap np cp]:=by
  have:=((Blk.new (w.alloc (.cells #[.string ch,.int .i64 sr,.int .i64 tm,.slice A n c] 59)) 96 #[.string mn,.slice A' n' c',.slice Af nf cf,.slice As ns cs,.slice Ap np cp]).alloc (.cells #[.string ⟨#[]⟩,.int .i64 0,.int .i64 0,.int .i64 0,.string ⟨#[]⟩,.string ⟨#[]⟩,.slice none 0 0,.bool false,.int .i64 0,.string ⟨#[]⟩,.string ⟨#[]⟩,.slice none 0 0,.int .i64 0,.int .i64 0,.int .i64 0,.bool false,.bool false,.bool false] 66)).alloc (.cells #[.string ⟨#[]⟩,.int .i64 0,.int .i64 0,.int .i64 0,.string ⟨#[]⟩,.string ⟨#[]⟩,.slice none 0 0,.bool false,.int .i64 0,.string ⟨#[]⟩,.string ⟨#[]⟩,.slice none 0 0,.int .i64 0,.int .i64 0,.int .i64 0,.bool false,.bool false,.bool false] 66)
  simpa only[World.size_alloc,Nat.add_assoc] using this
 have bR:Blk ((((w.alloc (.cells #[.string ch,.int .i64 sr,.int .i64 tm,.slice A n c] 59)).alloc (.cells #[.string mn,.slice A' n' c',.slice Af nf cf,.slice As ns cs,.slice Ap np cp] 96)).alloc (.cells #[.string ⟨#[]⟩,.int .i64 0,.int .i64 0,.int .i64 0,.string ⟨#[]⟩,.string ⟨#[]⟩,.slice none 0 0,.bool false,.int .i64 0,.string ⟨#[]⟩,.string ⟨#[]⟩,.slice none 0 0,.int .i64 0,.int .i64 0,.int .i64 0,.bool false,.bool false,.bool false] 66)).alloc (.cells #[.string ⟨#[]⟩,.int .i64 0,.int .i64 0,.int .i64 0,.string ⟨#[]⟩,.string ⟨#[]⟩,.slice none 0 0,.bool false,.int .i64 0,.string ⟨#[]⟩,.string ⟨#[]⟩,.slice none 0 0,.int .i64 0,.int .i64 0,.int .i64 0,.bool false,.bool false,.bool false] 66)) (w.heap.size+2) 66 #[.string ⟨#[]⟩,.int .i64 0,.int .i64 0,.int .i64 0,.string ⟨#[]⟩,.string ⟨#[]⟩,.slice none 0 0,.bool false,.int .i64 0,.string ⟨#[]⟩,.string ⟨#[]⟩,.slice none 0 0,.int .i64 0,.int .i64 0,.int .i64 0,.bool false,.bool false,.bool false]:=by
  have:=(Blk.new ((w.alloc (.cells #[.string ch,.int .i64 sr,.int .i64 tm,.slice A n c] 59)).alloc (.cells #[.string mn,.slice A' n' c',.slice Af nf cf,.slice As ns cs,.slice Ap np cp] 96)) 66 #[.string ⟨#[]⟩,.int .i64 0,.int .i64 0,.int .i64 0,.string ⟨#[]⟩,.string ⟨#[]⟩,.slice none 0 0,.bool false,.int .i64 0,.string ⟨#[]⟩,.string ⟨#[]⟩,.slice none 0 0,.int .i64 0,.int .i64 0,.int .i64 0,.bool false,.bool false,.bool false]).alloc (.cells #[.string ⟨#[]⟩,.int .i64 0,.int .i64 0,.int .i64 0,.string ⟨#[]⟩,.string ⟨#[]⟩,.slice none 0 0,.bool false,.int .i64 0,.string ⟨#[]⟩,.string ⟨#[]⟩,.slice none 0 0,.int .i64 0,.int .i64 0,.int .i64 0,.bool false,.bool false,.bool false] 66)
  simpa only[World.size_alloc,Nat.add_assoc] using this
 have bO:Blk ((((w.alloc (.cells #[.string ch,.int .i64 sr,.int .i64 tm,.slice A n c] 59)).alloc (.cells #[.string mn,.slice A' n' c',.slice Af nf cf,.slice As ns cs,.slice Ap np cp] 96)).alloc (.cells #[.string ⟨#[]⟩,.int .i64 0,.int .i64 0,.int .i64 0,.string ⟨#[]⟩,.string ⟨#[]⟩,.slice none 0 0,.bool false,.int .i64 0,.string ⟨#[]⟩,.string ⟨#[]⟩,.slice none 0 0,.int .i64 0,.int .i64 0,.int .i64 0,.bool false,.bool false,.bool false] 66)).alloc (.cells #[.string ⟨#[]⟩,.int .i64 0,.int .i64 0,.int .i64 0,.string ⟨#[]⟩,.string ⟨#[]⟩,.slice none 0 0,.bool false,.int .i64 0,.string ⟨#[]⟩,.string ⟨#[]⟩,.slice none 0 0,.int .i64 0,.int .i64 0,.int .i64 0,.bool false,.bool false,.bool false] 66)) (w.heap.size+3) 66 #[.string ⟨#[]⟩,.int .i64 0,.int .i64 0,.int .i64 0,.string ⟨#[]⟩,.string ⟨#[]⟩,.slice none 0 0,.bool false,.int .i64 0,.string ⟨#[]⟩,.string ⟨#[]⟩,.slice none 0 0,.int .i64 0,.int .i64 0,.int .i64 0,.bool false,.bool false,.bool false]:=by
  have:=Blk.new (((w.alloc (.cells #[.string ch,.int .i64 sr,.int .i64 tm,.slice A n c] 59)).alloc (.cells #[.string mn,.slice A' n' c',.slice Af nf cf,.slice As ns cs,.slice Ap np cp] 96)).alloc (.cells #[.string ⟨#[]⟩,.int .i64 0,.int .i64 0,.int .i64 0,.string ⟨#[]⟩,.string ⟨#[]⟩,.slice none 0 0,.bool false,.int .i64 0,.string ⟨#[]⟩,.string ⟨#[]⟩,.slice none 0 0,.int .i64 0,.int .i64 0,.int .i64 0,.bool false,.bool false,.bool false] 66)) 66 #[.string ⟨#[]⟩,.int .i64 0,.int .i64 0,.int .i64 0,.string ⟨#[]⟩,.string ⟨#[]⟩,.slice none 0 0,.bool false,.int .i64 0,.string ⟨#[]⟩,.string ⟨#[]⟩,.slice none 0 0,.int .i64 0,.int .i64 0,.int .i64 0,.bool false,.bool false,.bool false]
  simpa only[World.size_alloc,Nat.add_assoc] using this
 have hx0:Ext w ((((w.alloc (.cells #[.string ch,.int .i64 sr,.int .i64 tm,.slice A n c] 59)).alloc (.cells #[.string mn,.slice A' n' c',.slice Af nf cf,.slice As ns cs,.slice Ap np cp] 96)).alloc (.cells #[.string ⟨#[]⟩,.int .i64 0,.int .i64 0,.int .i64 0,.string ⟨#[]⟩,.string ⟨#[]⟩,.slice none 0 0,.bool false,.int .i64 0,.string ⟨#[]⟩,.string ⟨#[]⟩,.slice none 0 0,.int .i64 0,.int .i64 0,.int .i64 0,.bool false,.bool false,.bool false] 66)).alloc (.cells #[.string ⟨#[]⟩,.int .i64 0,.int .i64 0,.int .i64 0,.string ⟨#[]⟩,.string ⟨#[]⟩,.slice none 0 0,.bool false,.int .i64 0,.string ⟨#[]⟩,.string ⟨#[]⟩,.slice none 0 0,.int .i64 0,.int .i64 0,.int .i64 0,.bool false,.bool false,.bool false] 66)):=((((Ext.refl w).alloc _).alloc _).alloc _).alloc _
 have eF:=bF.cell;have lF:=bF.lt
 go_enter Tryz.func67,Tryz.ntmps67
 go_wp2
 go_loopw [11,12,18] (fun s10 s11 s17 wr=>∃ k:Nat,k<=n∧s10=.bool (decide (0<=(S k).1))∧s11=.int .i64 (S k).2∧s17=.int .i64 k∧Hid (Blk wr w.heap.size 59 #[.string ch,.int .i64 sr,.int .i64 tm,.slice A n c])∧Hid (Blk wr (w.heap.size+1) 96 #[.string mn,.slice A' n' c',.slice Af nf cf,.slice As ns cs,.slice Ap np cp])∧Hid (Blk wr (w.heap.size+2) 66 #[.string ⟨#[]⟩,.int .i64 0,.int .i64 0,.int .i64 0,.string ⟨#[]⟩,.string ⟨#[]⟩,.slice none 0 0,.bool false,.int .i64 0,.string ⟨#[]⟩,.string ⟨#[]⟩,.slice none 0 0,.int .i64 0,.int .i64 0,.int .i64 0,.bool false,.bool false,.bool false])∧Hid (∃ cs,Blk wr (w.heap.size+3) 66 cs∧OutIs w0 l (S k).1 cs)∧Ext w wr) (fun _ _ s17 _=>n - (intOf s17).toNat)
 case atStart=>exact⟨0,Nat.zero_le _,by rw[HS0.out];rfl,by rw[HS0.out],rfl,Hy bF,Hy bM,Hy bR,Hy ⟨_,bO,rfl,fun h=>by rw[HS0.out] at h;exact absurd h (by decide)⟩,hx0⟩
 case round =>
  clear bF bM bR bO hx0 eF lF
  obtain⟨k,hk,rfl,rfl,rfl,HBF,HBM,HBR,HBO,hxr⟩:=hrel
  obtain⟨wo,rfl⟩:∃ wo:World,wo=wr:=⟨_,rfl⟩
  by_cases hlt:k < n
  ·have hk1:k < l.length:=by rw[HN.out];exact hlt
   obtain⟨b,i0,rfl,hX⟩:=(HR.out.ext (hx00.trans hxr)) (fun e=>by rw[e] at hk1;exact absurd hk1 (Nat.not_lt_zero _))
   obtain⟨hN1,hN2,hN3,hN4⟩:=HNEXT.out k hk1
   have HN1:=Hy hN1;have HN2:=Hy hN2;have HN3:=Hy hN3;have HN4:=Hy hN4
   obtain⟨A9,c9,k9,n9,x9,A8,m9,c8,hrow9⟩:∃ A c kk n x A2 m c2,OfIn AnyB w0 l[k] A kk n x A2 m c2∧OfRow wo b (i0+k * 18) l[k] A c kk n x A2 m c2:=by
    obtain⟨b',i',hb',hX'⟩:=HR.out (fun e=>by rw[e] at hk1;exact absurd hk1 (Nat.not_lt_zero _))
    injection hb' with hb'
    injection hb' with hb1 hb2
    subst hb1 hb2
    obtain⟨A1,c1,kk,nn,xx,A2,m2,c2,hr'⟩:=hX' k hk1
    exact⟨A1,c1,kk,nn,xx,A2,m2,c2,hr'.has,hr'.ext (hx00.trans hxr)⟩
   obtain⟨A1,c1,kk,nn,xx,A2,m2,c2,hin0,hrow⟩:∃ A c kk n x A2 m c2,OfIn AnyB w0 l[k] A kk n x A2 m c2∧OfRow wo b (i0+k * 18) l[k] A c kk n x A2 m c2:=⟨A9,c9,k9,n9,x9,A8,m9,c8,hrow9⟩
   have LD:=load_row hrow
   have lx:=lt_of_cell hrow.r0
   have hin:=hrow.has
   have CF:=Hy (fun W (h:Ext wo W)=>HFIT.out l[k] (List.getElem_mem hk1) A1 c1 kk nn xx A2 m2 c2 W (hxr.trans h) (hin.ext h))
   obtain⟨cs,hbo,hout⟩:=HBO.out
   have HCS:=Hy hout.1
   have HUR:=Hy (fun h=>hout.urg h)
   have HOUT:=Hy hout
   clear HBO
   obtain⟨hB0,hB1⟩:=HLT.out k
   clear hX hrow hin hN1 hN2 hN3 hN4 hrow9 hout
   obtain⟨B,Y,hSk⟩:∃ B Y,S k=(B,Y):=⟨_,_,rfl⟩
   obtain⟨B2,Y2,hSk2⟩:∃ B Y,S (k+1)=(B,Y):=⟨_,_,rfl⟩
   rw[hSk] at hB0 hB1 HN1 HN2 HN3 HN4
   rw[hSk2] at HN1 HN2 HN3 HN4
   rw[hSk]
   have HSk2:=Hy hSk2
   rw[hSk] at HUR HOUT
   have HIN:=Hy (show ofV (l.getD k zeroO) A1 c1 kk nn xx A2 m2 c2=ofV l[k] A1 c1 kk nn xx A2 m2 c2∧OfIn AnyB w0 (l.getD k zeroO) A1 kk nn xx A2 m2 c2 from by rw[getD_atO hk1];exact⟨rfl,hin0⟩)
   dsimp only at *
   generalize fitM l[k] ⟨mn,mi,mf,ms,mp⟩ t=FV at *
   generalize l[k]=o at *
   clear hSk hSk2 hin0
   obtain⟨on,⟨o1,o2,o3,oa⟩,os,of_,ow,od,ob,ot,og,oh,ou,ok⟩:=o
   dsimp only[ofV] at *
   generalize of_.length=ol at *
   have b1:=Blk.new wo 66 #[.string on,.int .i64 o1,.int .i64 o2,.int .i64 o3,.string oa,.string os,.slice A1 ol c1,.bool ow,.int .i64 kk,.string nn,.string xx,.slice A2 m2 c2,.int .i64 ob,.int .i64 ot,.int .i64 og,.bool oh,.bool ou,.bool ok]
   have hxa:=(Ext.refl wo).alloc (.cells #[.string on,.int .i64 o1,.int .i64 o2,.int .i64 o3,.string oa,.string os,.slice A1 ol c1,.bool ow,.int .i64 kk,.string nn,.string xx,.slice A2 m2 c2,.int .i64 ob,.int .i64 ot,.int .i64 og,.bool oh,.bool ou,.bool ok] 66)
   have bF:=HBF.out.ext hxa;have bM:=HBM.out.ext hxa;have bR:=HBR.out.ext hxa;have bO:=hbo.ext hxa
   clear hbo
   have LSF:(storeVar 66 ⟨wo.heap.size,0,none⟩ (.agg #[.string on,.int .i64 o1,.int .i64 o2,.int .i64 o3,.string oa,.string os,.slice A1 ol c1,.bool ow,.int .i64 kk,.string nn,.string xx,.slice A2 m2 c2,.int .i64 ob,.int .i64 ot,.int .i64 og,.bool oh,.bool ou,.bool ok])).run Tryz.prog (wo.alloc (.cells #[.string ⟨#[]⟩,.int .i64 0,.int .i64 0,.int .i64 0,.string ⟨#[]⟩,.string ⟨#[]⟩,.slice none 0 0,.bool false,.int .i64 0,.string ⟨#[]⟩,.string ⟨#[]⟩,.slice none 0 0,.int .i64 0,.int .i64 0,.int .i64 0,.bool false,.bool false,.bool false] 66))=.ok () (wo.alloc (.cells #[.string on,.int .i64 o1,.int .i64 o2,.int .i64 o3,.string oa,.string os,.slice A1 ol c1,.bool ow,.int .i64 kk,.string nn,.string xx,.slice A2 m2 c2,.int .i64 ob,.int .i64 ot,.int .i64 og,.bool oh,.bool ou,.bool ok] 66)):=store_fresh wo
   have LB:=load_blk b1 rfl
   have l1:=b1.lt;have e1:=b1.cell
   have eM:=bM.cell;have lM:=bM.lt
   by_cases hE:(on.toList==nm.toList)=true
   rotate_left
   ·as_aux_lemma =>
    obtain⟨rfl,rfl⟩:B2=B∧Y2=Y:=by have:=HN1.out hE;injection this with h1 h2;exact⟨h1,h2⟩
    have hE2:(on.toList==nm.toList)=false:=by simpa using hE
    clear hE
    go_wp2_with (first|(with_reducible show wpList _ _ _ ({ op:=Op.load _ _,.. }::_) _ _;refine wpList_load_at rfl _ _ rfl _ rfl _ LD ?_)|(with_reducible show wpList _ _ _ ({ op:=Op.store _ _ _,.. }::_) _ _;refine wpList_store_at rfl _ _ _ rfl _ rfl _ rfl _ LSF ?_))
    go_roundw
    case rel=>exact⟨k+1,by omega,by rw[HSk2.out],by rw[HSk2.out],by go_num,Hy bF,Hy bM,Hy bR,Hy ⟨cs,bO,by rw[HSk2.out];exact HOUT.out⟩,hxr.trans hxa⟩
    case measure=>simp[intOf];omega
   have HE:=Hy hE
   go_wp2_with (first|(with_reducible show wpList _ _ _ ({ op:=Op.load _ _,.. }::_) _ _;refine wpList_load_at rfl _ _ rfl _ rfl _ LD ?_)|(with_reducible show wpList _ _ _ ({ op:=Op.store _ _ _,.. }::_) _ _;refine wpList_store_at rfl _ _ _ rfl _ rfl _ rfl _ LSF ?_)|(with_reducible show wpList _ _ _ ({ op:=Op.load _ _,.. }::_) _ _;refine wpList_load_at rfl _ _ rfl _ rfl _ LB ?_))
   refine (CF.out _ hxa).mono ?_
   rintro e w2 ⟨rfl,hx2⟩
   have hxo2:=hxa.trans hx2
   have hxw2:=hxr.trans hxo2
   have b2:=b1.ext hx2
   have bF2:=bF.ext hx2;have bM2:=bM.ext hx2;have bR2:=bR.ext hx2;have bO2:=bO.ext hx2
   clear LB LSF l1 e1 LD eM lM bF bM bR bO b1 hxa
   have e2:=b2.cell;have l2:=b2.lt
   have eO:=bO2.cell;have lO:=bO2.lt
   by_cases hz:FV=0
   rotate_left
   ·as_aux_lemma =>
    obtain⟨rfl,rfl⟩:B2=B∧Y2=FV:=by have:=HN2.out HE.out hz;injection this with h1 h2;exact⟨h1,h2⟩
    have hne:(Y2==0)=false:=by rw[beq_eq_false_iff_ne];exact hz
    clear hz
    go_wp2
    go_roundw
    case rel=>exact⟨k+1,by omega,by (rw[HSk2.out];first|done|simp only[hfd]),by rw[HSk2.out],by go_num,Hy bF2,Hy bM2,Hy bR2,Hy ⟨cs,bO2,by rw[HSk2.out];exact HOUT.out⟩,hxw2⟩
    case measure=>simp[intOf];omega
   subst hz
   by_cases hneg:B < 0
   ·as_aux_lemma =>
    obtain⟨rfl,rfl⟩:B2=(k:Int)∧Y2=0:=by have:=HN3.out HE.out (by rfl) (.inl hneg);injection this with h1 h2;exact⟨h1,h2⟩
    have hfd:decide (0<=B)=false:=decide_eq_false (by omega)
    have LB:=load_blk b2 rfl
    have LS:(storeVar 66 ⟨w.heap.size+3,0,none⟩ (.agg #[.string on,.int .i64 o1,.int .i64 o2,.int .i64 o3,.string oa,.string os,.slice A1 ol c1,.bool ow,.int .i64 kk,.string nn,.string xx,.slice A2 m2 c2,.int .i64 ob,.int .i64 ot,.int .i64 og,.bool oh,.bool ou,.bool ok])).run Tryz.prog w2=.ok () (w2.setRow (w.heap.size+3) #[.string on,.int .i64 o1,.int .i64 o2,.int .i64 o3,.string oa,.string os,.slice A1 ol c1,.bool ow,.int .i64 kk,.string nn,.string xx,.slice A2 m2 c2,.int .i64 ob,.int .i64 ot,.int .i64 og,.bool oh,.bool ou,.bool ok]):=store_offer bO2 HCS.out
    have hE:ExtC (fun i=>i=w.heap.size+3) w2 (w2.setRow (w.heap.size+3) #[.string on,.int .i64 o1,.int .i64 o2,.int .i64 o3,.string oa,.string os,.slice A1 ol c1,.bool ow,.int .i64 kk,.string nn,.string xx,.slice A2 m2 c2,.int .i64 ob,.int .i64 ot,.int .i64 og,.bool oh,.bool ou,.bool ok]):=⟨rfl,rfl,rfl,by simp[World.setRow],fun k _ hne=>setRow_other _ _ _ _ hne⟩
    go_wp2_with (first|(with_reducible show wpList _ _ _ ({ op:=Op.load _ _,.. }::_) _ _;refine wpList_load_at rfl _ _ rfl _ rfl _ LB ?_)|(with_reducible show wpList _ _ _ ({ op:=Op.store _ _ _,.. }::_) _ _;refine wpList_store_at rfl _ _ _ rfl _ rfl _ rfl _ LS ?_))
    go_roundw
    case rel=>exact⟨k+1,by omega,by rw[HSk2.out];simp,by rw[HSk2.out],by go_num,Hy (bF2.extC hE (by omega)),Hy (bM2.extC hE (by omega)),Hy (bR2.extC hE (by omega)),Hy ⟨_,setRow_heap _ _ _ _ _ _ bO2,by rw[HSk2.out];exact⟨rfl,fun _=>⟨A1,c1,kk,nn,xx,A2,m2,c2,HIN.out.1,HIN.out.2⟩⟩⟩,ExtC.ext hxw2 hE (fun i hi=>by omega)⟩
    case measure=>simp[intOf];omega
   cases ou
   rotate_left
   ·as_aux_lemma =>
    obtain⟨rfl,rfl⟩:B2=(k:Int)∧Y2=0:=by have:=HN3.out HE.out (by rfl) (.inr (.inl rfl));injection this with h1 h2;exact⟨h1,h2⟩
    have hfd:decide (0<=B)=true:=decide_eq_true (by omega)
    have LB:=load_blk b2 rfl
    have LS:(storeVar 66 ⟨w.heap.size+3,0,none⟩ (.agg #[.string on,.int .i64 o1,.int .i64 o2,.int .i64 o3,.string oa,.string os,.slice A1 ol c1,.bool ow,.int .i64 kk,.string nn,.string xx,.slice A2 m2 c2,.int .i64 ob,.int .i64 ot,.int .i64 og,.bool oh,.bool true,.bool ok])).run Tryz.prog w2=.ok () (w2.setRow (w.heap.size+3) #[.string on,.int .i64 o1,.int .i64 o2,.int .i64 o3,.string oa,.string os,.slice A1 ol c1,.bool ow,.int .i64 kk,.string nn,.string xx,.slice A2 m2 c2,.int .i64 ob,.int .i64 ot,.int .i64 og,.bool oh,.bool true,.bool ok]):=store_offer bO2 HCS.out
    have hE:ExtC (fun i=>i=w.heap.size+3) w2 (w2.setRow (w.heap.size+3) #[.string on,.int .i64 o1,.int .i64 o2,.int .i64 o3,.string oa,.string os,.slice A1 ol c1,.bool ow,.int .i64 kk,.string nn,.string xx,.slice A2 m2 c2,.int .i64 ob,.int .i64 ot,.int .i64 og,.bool oh,.bool true,.bool ok]):=⟨rfl,rfl,rfl,by simp[World.setRow],fun k _ hne=>setRow_other _ _ _ _ hne⟩
    go_wp2_with (first|(with_reducible show wpList _ _ _ ({ op:=Op.load _ _,.. }::_) _ _;refine wpList_load_at rfl _ _ rfl _ rfl _ LB ?_)|(with_reducible show wpList _ _ _ ({ op:=Op.store _ _ _,.. }::_) _ _;refine wpList_store_at rfl _ _ _ rfl _ rfl _ rfl _ LS ?_))
    go_roundw
    case rel=>exact⟨k+1,by omega,by rw[HSk2.out];simp,by rw[HSk2.out],by go_num,Hy (bF2.extC hE (by omega)),Hy (bM2.extC hE (by omega)),Hy (bR2.extC hE (by omega)),Hy ⟨_,setRow_heap _ _ _ _ _ _ bO2,by rw[HSk2.out];exact⟨rfl,fun _=>⟨A1,c1,kk,nn,xx,A2,m2,c2,HIN.out.1,HIN.out.2⟩⟩⟩,ExtC.ext hxw2 hE (fun i hi=>by omega)⟩
    case measure=>simp[intOf];omega
   have hy:w2.cell? ⟨w.heap.size+1+1+1,16,none⟩=some (.bool (urgL l B)):=(eO 16).trans (HUR.out (by omega))
   have lO3:w.heap.size+1+1+1 < w2.heap.size:=lO
   have hy3:=(eO 16).trans (HUR.out (by omega))
   clear eO
   have hfd:decide (0<=B)=true:=decide_eq_true (by omega)
   have hb0:(0:Int)<=B:=by omega
   have hbn:B < (n:Int):=by omega
   have HT:=Hy (fun h=>HN3.out HE.out (by rfl) (.inr (.inr h)))
   have HK:=Hy (fun (h:urgL l B=true)=>HN4.out HE.out (by rfl) (by rintro (h1|h1|h1);exact hneg h1;cases h1;rw[h] at h1;cases h1))
   generalize urgL l B=UU at *
   cases UU
   ·as_aux_lemma =>
    obtain⟨rfl,rfl⟩:B2=(k:Int)∧Y2=0:=by have:=HT.out rfl;injection this with h1 h2;exact⟨h1,h2⟩
    have LB:=load_blk b2 rfl
    have LS:(storeVar 66 ⟨w.heap.size+3,0,none⟩ (.agg #[.string on,.int .i64 o1,.int .i64 o2,.int .i64 o3,.string oa,.string os,.slice A1 ol c1,.bool ow,.int .i64 kk,.string nn,.string xx,.slice A2 m2 c2,.int .i64 ob,.int .i64 ot,.int .i64 og,.bool oh,.bool false,.bool ok])).run Tryz.prog w2=.ok () (w2.setRow (w.heap.size+3) #[.string on,.int .i64 o1,.int .i64 o2,.int .i64 o3,.string oa,.string os,.slice A1 ol c1,.bool ow,.int .i64 kk,.string nn,.string xx,.slice A2 m2 c2,.int .i64 ob,.int .i64 ot,.int .i64 og,.bool oh,.bool false,.bool ok]):=store_offer bO2 HCS.out
    have hE:ExtC (fun i=>i=w.heap.size+3) w2 (w2.setRow (w.heap.size+3) #[.string on,.int .i64 o1,.int .i64 o2,.int .i64 o3,.string oa,.string os,.slice A1 ol c1,.bool ow,.int .i64 kk,.string nn,.string xx,.slice A2 m2 c2,.int .i64 ob,.int .i64 ot,.int .i64 og,.bool oh,.bool false,.bool ok]):=⟨rfl,rfl,rfl,by simp[World.setRow],fun k _ hne=>setRow_other _ _ _ _ hne⟩
    go_wp2_with (first|(with_reducible show wpList _ _ _ ({ op:=Op.load _ _,.. }::_) _ _;refine wpList_load_at rfl _ _ rfl _ rfl _ LB ?_)|(with_reducible show wpList _ _ _ ({ op:=Op.store _ _ _,.. }::_) _ _;refine wpList_store_at rfl _ _ _ rfl _ rfl _ rfl _ LS ?_))
    go_roundw
    case rel=>exact⟨k+1,by omega,by rw[HSk2.out];simp,by rw[HSk2.out],by go_num,Hy (bF2.extC hE (by omega)),Hy (bM2.extC hE (by omega)),Hy (bR2.extC hE (by omega)),Hy ⟨_,setRow_heap _ _ _ _ _ _ bO2,by rw[HSk2.out];exact⟨rfl,fun _=>⟨A1,c1,kk,nn,xx,A2,m2,c2,HIN.out.1,HIN.out.2⟩⟩⟩,ExtC.ext hxw2 hE (fun i hi=>by omega)⟩
    case measure=>simp[intOf];omega
   ·as_aux_lemma =>
    obtain⟨rfl,rfl⟩:B2=B∧Y2=0:=by have:=HK.out rfl;injection this with h1 h2;exact⟨h1,h2⟩
    go_wp2
    go_roundw
    case rel=>exact⟨k+1,by omega,by (rw[HSk2.out];first|done|simp only[hfd]),by rw[HSk2.out],by go_num,Hy bF2,Hy bM2,Hy bR2,Hy ⟨cs,bO2,by rw[HSk2.out];exact HOUT.out⟩,hxw2⟩
    case measure=>simp[intOf];omega
  ·obtain rfl:k=n:=by omega
   obtain⟨cq,hbo,hout⟩:=HBO.out
   obtain⟨B,Y,hSk⟩:∃ B Y,S k=(B,Y):=⟨_,_,rfl⟩
   rw[hSk] at HRES hout
   rw[hSk]
   dsimp only at *
   have hbr:=HBR.out
   by_cases hb:0<=B
   ·as_aux_lemma =>
    obtain rfl:RES=(B,0):=by rw[HRES.out,if_pos hb]
    obtain⟨A1,c1,kk,nn,xx,A2,m2,c2,he,hin⟩:=hout.2 hb
    have HOO:=Hy (show offO l (B,0)=l.getD B.toNat zeroO from if_pos hb)
    have HIN:=Hy hin
    have hfd:decide (0<=B)=true:=decide_eq_true hb
    rw[hfd]
    have HV:=Hy he
    generalize l.getD B.toNat zeroO=o at *
    obtain⟨o',ho'⟩:∃ o',o'=o:=⟨_,rfl⟩
    have HOI:=Hy ho'
    rw[<-ho'] at he
    clear ho' hin hout hb
    obtain⟨on,⟨o1,o2,o3,oa⟩,os,of_,ow,od,ob,ot,og,oh,ou,ok⟩:=o'
    dsimp only[ofV] at he
    generalize of_.length=ol at *
    injection he with he
    subst he
    have LB:=load_blk hbo rfl
    have LS:(storeVar 66 ⟨w.heap.size+2,0,none⟩ (.agg #[.string on,.int .i64 o1,.int .i64 o2,.int .i64 o3,.string oa,.string os,.slice A1 ol c1,.bool ow,.int .i64 kk,.string nn,.string xx,.slice A2 m2 c2,.int .i64 ob,.int .i64 ot,.int .i64 og,.bool oh,.bool ou,.bool ok])).run Tryz.prog wo=.ok () (wo.setRow (w.heap.size+2) #[.string on,.int .i64 o1,.int .i64 o2,.int .i64 o3,.string oa,.string os,.slice A1 ol c1,.bool ow,.int .i64 kk,.string nn,.string xx,.slice A2 m2 c2,.int .i64 ob,.int .i64 ot,.int .i64 og,.bool oh,.bool ou,.bool ok]):=store_offer hbr rfl
    have hE:ExtC (fun i=>i=w.heap.size+2) wo (wo.setRow (w.heap.size+2) #[.string on,.int .i64 o1,.int .i64 o2,.int .i64 o3,.string oa,.string os,.slice A1 ol c1,.bool ow,.int .i64 kk,.string nn,.string xx,.slice A2 m2 c2,.int .i64 ob,.int .i64 ot,.int .i64 og,.bool oh,.bool ou,.bool ok]):=⟨rfl,rfl,rfl,by simp[World.setRow],fun k _ hne=>setRow_other _ _ _ _ hne⟩
    have HRR:=Hy (show Blk (wo.setRow (w.heap.size+2) #[.string on,.int .i64 o1,.int .i64 o2,.int .i64 o3,.string oa,.string os,.slice A1 ol c1,.bool ow,.int .i64 kk,.string nn,.string xx,.slice A2 m2 c2,.int .i64 ob,.int .i64 ot,.int .i64 og,.bool oh,.bool ou,.bool ok]) (w.heap.size+2) 66 #[.string on,.int .i64 o1,.int .i64 o2,.int .i64 o3,.string oa,.string os,.slice A1 ol c1,.bool ow,.int .i64 kk,.string nn,.string xx,.slice A2 m2 c2,.int .i64 ob,.int .i64 ot,.int .i64 og,.bool oh,.bool ou,.bool ok] from setRow_heap _ _ _ _ _ _ hbr)
    have F2:=Hy (ExtC.ext hxr hE (fun i hi=>by omega))
    have lR:=hbr.lt;have lO:=hbo.lt
    have lO3:w.heap.size+1+1+1 < wo.heap.size:=lO
    have lR3:w.heap.size+1+1 < wo.heap.size:=lR
    clear hE
    go_wp2_with (first|(with_reducible show wpList _ _ _ ({ op:=Op.load _ _,.. }::_) _ _;refine wpList_load_at rfl _ _ rfl _ rfl _ LB ?_)|(with_reducible show wpList _ _ _ ({ op:=Op.store _ _ _,.. }::_) _ _;refine wpList_store_at rfl _ _ _ rfl _ rfl _ rfl _ LS ?_))
    refine bodyPost_ret (results_cell2 (T:=66) rfl rfl rfl (load_blk HRR.out rfl)) rfl ?_
    rw[HOO.out]
    exact⟨⟨A1,c1,kk,nn,xx,A2,m2,c2,by (rw[HV.out];first|done|rfl),HIN.out⟩,F2.out⟩
   ·as_aux_lemma =>
    obtain rfl:RES=(-1,Y):=by rw[HRES.out,if_neg hb]
    have HOO:=Hy (show offO l (-1,Y)=zeroO from if_neg (show ¬ (0:Int)<=-1 by decide))
    have hfd:decide (0<=B)=false:=decide_eq_false hb
    rw[hfd]
    clear hout hbo
    have LS:(storeVar 66 ⟨w.heap.size+2,0,none⟩ (.agg #[.string ⟨#[]⟩,.int .i64 0,.int .i64 0,.int .i64 0,.string ⟨#[]⟩,.string ⟨#[]⟩,.slice none 0 0,.bool false,.int .i64 0,.string ⟨#[]⟩,.string ⟨#[]⟩,.slice none 0 0,.int .i64 0,.int .i64 0,.int .i64 0,.bool false,.bool false,.bool false])).run Tryz.prog wo=.ok () (wo.setRow (w.heap.size+2) #[.string ⟨#[]⟩,.int .i64 0,.int .i64 0,.int .i64 0,.string ⟨#[]⟩,.string ⟨#[]⟩,.slice none 0 0,.bool false,.int .i64 0,.string ⟨#[]⟩,.string ⟨#[]⟩,.slice none 0 0,.int .i64 0,.int .i64 0,.int .i64 0,.bool false,.bool false,.bool false]):=store_offer hbr rfl
    have hE:ExtC (fun i=>i=w.heap.size+2) wo (wo.setRow (w.heap.size+2) #[.string ⟨#[]⟩,.int .i64 0,.int .i64 0,.int .i64 0,.string ⟨#[]⟩,.string ⟨#[]⟩,.slice none 0 0,.bool false,.int .i64 0,.string ⟨#[]⟩,.string ⟨#[]⟩,.slice none 0 0,.int .i64 0,.int .i64 0,.int .i64 0,.bool false,.bool false,.bool false]):=⟨rfl,rfl,rfl,by simp[World.setRow],fun k _ hne=>setRow_other _ _ _ _ hne⟩
    have HRR:=Hy (show Blk (wo.setRow (w.heap.size+2) #[.string ⟨#[]⟩,.int .i64 0,.int .i64 0,.int .i64 0,.string ⟨#[]⟩,.string ⟨#[]⟩,.slice none 0 0,.bool false,.int .i64 0,.string ⟨#[]⟩,.string ⟨#[]⟩,.slice none 0 0,.int .i64 0,.int .i64 0,.int .i64 0,.bool false,.bool false,.bool false]) (w.heap.size+2) 66 #[.string ⟨#[]⟩,.int .i64 0,.int .i64 0,.int .i64 0,.string ⟨#[]⟩,.string ⟨#[]⟩,.slice none 0 0,.bool false,.int .i64 0,.string ⟨#[]⟩,.string ⟨#[]⟩,.slice none 0 0,.int .i64 0,.int .i64 0,.int .i64 0,.bool false,.bool false,.bool false] from setRow_heap _ _ _ _ _ _ hbr)
    have F2:=Hy (ExtC.ext hxr hE (fun i hi=>by omega))
    have lR:=hbr.lt
    have lR3:w.heap.size+1+1 < wo.heap.size:=lR
    clear hE
    go_wp2_with (first|(with_reducible show wpList _ _ _ ({ op:=Op.store _ _ _,.. }::_) _ _;refine wpList_store_at rfl _ _ _ rfl _ rfl _ rfl _ LS ?_))
    refine bodyPost_ret (results_cell2 (T:=66) rfl rfl rfl (load_blk HRR.out rfl)) rfl ?_
    rw[HOO.out]
    exact⟨⟨none,0,0,⟨#[]⟩,⟨#[]⟩,none,0,0,rfl,OfIn_zero w0⟩,F2.out⟩
end Go.Proofs.YtmnafaaijglnfaaGreatDoor
