/- Contract of feed.offered. -/
import Derived.Test.YtmnafaaijglnfaaGreatDoorOm42
namespace Go.Proofs.YtmnafaaijglnfaaGreatDoor
open Go.RowKit
theorem getD_atO {l:List Of} {k:Nat} (h:k < l.length):l.getD k zeroO=l[k]:=by simp[List.getD,List.getElem?_eq_getElem h]
def offO (l:List Of) (R:Int × Int):Of:=if 0<=R.1 then l.getD R.1.toNat zeroO else zeroO
theorem OfIn_zero (w:World):OfIn AnyB w zeroO none 0 ⟨#[]⟩ ⟨#[]⟩ none 0 0:=⟨fun h=>absurd rfl h,CdIn.leaf _ _ _ _ _⟩
theorem offS_next (l:List Of) (F:Of->Int) (nm:List UInt8) {k:Nat} (h:k < l.length) :
 (¬ (l[k].name.toList==nm)=true->offS l F nm (k+1)=offS l F nm k) ∧
 ((l[k].name.toList==nm)=true->¬ F l[k]=0->offS l F nm (k+1)=((offS l F nm k).1,F l[k])) ∧
 ((l[k].name.toList==nm)=true->F l[k]=0->((offS l F nm k).1 < 0∨l[k].urg=true∨urgL l (offS l F nm k).1=false)->offS l F nm (k+1)=((k:Int),0)) ∧
 ((l[k].name.toList==nm)=true->F l[k]=0->¬ ((offS l F nm k).1 < 0∨l[k].urg=true∨urgL l (offS l F nm k).1=false)->offS l F nm (k+1)=((offS l F nm k).1,0)):=by
 have e:=getD_atO h
 have hd:offS l F nm (k+1)=offN l F nm k (offS l F nm k):=rfl
 rw[hd]
 unfold offN
 rw[e]
 refine⟨fun h1=>?_,fun h1 h2=>?_,fun h1 h2 h3=>?_,fun h1 h2 h3=>?_⟩
 ·rw[if_neg (fun h=>h1 (by simpa using h))]
 ·rw[if_pos (by simpa using h1),if_neg (fun h=>h2 h.1)]
 ·rw[if_pos (by simpa using h1),if_pos ⟨h2,h3⟩,h2]
 ·rw[if_pos (by simpa using h1),if_neg (fun h=>h3 h.2),h2]
set_option maxHeartbeats 8000000 in
set_option maxRecDepth 100000 in
theorem offered_any (ch:ByteArray) (sr tm:Int) (l:List Of) (A:Option Addr) (n c:Nat) (mc:Mac) (A':Option Addr) (n' c':Nat) (Af:Option Addr) (nf cf:Nat) (As:Option Addr) (ns cs:Nat) (Ap:Option Addr) (np cp:Nat) (nm:ByteArray) (t:Int) (w:World) (hg:GoodN w) (hn:l.length=n) (hr:RdO w A l) (hs:∀ o∈l,SmallO o) (ho:∀ o∈l,ofErr o=0) (hl:n<=2097152) (hm:MacIn w mc A' n' Af nf As ns Ap np cp) (hsm:SmallM mc) (hme:MacOk mc) (ht:0<=t) (ht2:t<=1099511627776) :
 Calls Tryz.prog 139 #[.agg #[.string ch,.int .i64 sr,.int .i64 tm,.slice A n c],macV mc A' n' c' Af nf cf As ns cs Ap np cp,.string nm,.int .i64 t] w fun e w'=>e=.returned (.tuple #[.int .i64 (offR l (fun o=>fitM o mc t) nm.toList).1,.int .i64 (offR l (fun o=>fitM o mc t) nm.toList).2])∧Ext w w':=by
 have HN:=Hy hn
 have HR:=Hy hr
 have HSM:=Hy hs
 have HFIT:=Hy (show ∀ o∈l,∀ A c k n x A2 m c2 W,Ext w W->OfIn AnyB W o A k n x A2 m c2->Calls Tryz.prog 132 #[ofV o A c k n x A2 m c2,macV mc A' n' c' Af nf cf As ns cs Ap np cp,.int .i64 t] W fun e w'=>e=.returned (.int .i64 (fitM o mc t))∧Ext W w' from
  fun o hmem A c k n x A2 m c2 W h hi=>fits_any o A c k n x A2 m c2 mc A' n' c' Af nf cf As ns cs Ap np cp t W (hg.ext h) hi (hs o hmem) (ho o hmem) (hm.ext h) hsm hme ⟨ht,ht2⟩)
 have HNEXT:=Hy (fun (k:Nat) (h:k < l.length)=>offS_next l (fun o=>fitM o mc t) nm.toList h)
 have HLT:=Hy (offS_lt l (fun o=>fitM o mc t) nm.toList)
 have HS0:=Hy (show offS l (fun o=>fitM o mc t) nm.toList 0=(-1,8) from rfl)
 have HRES:=Hy (show offR l (fun o=>fitM o mc t) nm.toList=if 0<=(offS l (fun o=>fitM o mc t) nm.toList n).1 then ((offS l (fun o=>fitM o mc t) nm.toList n).1,0) else (-1,(offS l (fun o=>fitM o mc t) nm.toList n).2) from by rw[<-hn];rfl)
 clear hg hn hr hs ho hm hsm hme ht ht2
 generalize offR l (fun o=>fitM o mc t) nm.toList=RES at *
 generalize offS l (fun o=>fitM o mc t) nm.toList=S at *
 obtain⟨FM,hFM⟩:∃ FM:Of->Int,FM=fun o=>fitM o mc t:=⟨_,rfl⟩
 have HFM:=Hy hFM
 obtain⟨mn,mi,mf,ms,mp⟩:=mc
 dsimp only[macV] at *
 clear hFM
 have bF:=(Blk.new w 59 #[.string ch,.int .i64 sr,.int .i64 tm,.slice A n c]).alloc (.cells #[.string mn,.slice A' n' c',.slice Af nf cf,.slice As ns cs,.slice Ap np cp] 96)
 have bM:=Blk.new (w.alloc (.cells #[.string ch,.int .i64 sr,.int .i64 tm,.slice A n c] 59)) 96 #[.string mn,.slice A' n' c',.slice Af nf cf,.slice As ns cs,.slice Ap np cp]
 rw[World.size_alloc] at bM
 have hx0:Ext w ((w.alloc (.cells #[.string ch,.int .i64 sr,.int .i64 tm,.slice A n c] 59)).alloc (.cells #[.string mn,.slice A' n' c',.slice Af nf cf,.slice As ns cs,.slice Ap np cp] 96)):=((Ext.refl w).alloc _).alloc _
 have eF:=bF.cell;have lF:=bF.lt
 go_enter Tryz.func139,Tryz.ntmps139
 go_wp2
 go_loopw [10,11,17] (fun s10 s11 s17 wr=>∃ k:Nat,k<=n∧s10=.int .i64 (S k).1∧s11=.int .i64 (S k).2∧s17=.int .i64 k∧Hid (Blk wr w.heap.size 59 #[.string ch,.int .i64 sr,.int .i64 tm,.slice A n c])∧Hid (Blk wr (w.heap.size+1) 96 #[.string mn,.slice A' n' c',.slice Af nf cf,.slice As ns cs,.slice Ap np cp])∧Ext w wr) (fun _ _ s17 _=>n - (intOf s17).toNat)
 case atStart=>exact⟨0,Nat.zero_le _,by rw[HS0.out],by rw[HS0.out],rfl,Hy bF,Hy bM,hx0⟩
 case round =>
  clear bF bM hx0 eF lF
  obtain⟨k,hk,rfl,rfl,rfl,HBF,HBM,hxr⟩:=hrel
  obtain⟨wo,rfl⟩:∃ wo:World,wo=wr:=⟨_,rfl⟩
  by_cases hlt:k < n
  ·have hk1:k < l.length:=by rw[HN.out];exact hlt
   obtain⟨b,i0,rfl,hX⟩:=(HR.out.ext hxr) (fun e=>by rw[e] at hk1;exact absurd hk1 (Nat.not_lt_zero _))
   obtain⟨A1,c1,kk,nn,xx,A2,m2,c2,hrow⟩:=hX k hk1
   have LD:=load_row hrow
   have lx:=lt_of_cell hrow.r0
   have hin:=hrow.has
   have CF:=Hy (fun W (h:Ext wo W)=>HFIT.out l[k] (List.getElem_mem hk1) A1 c1 kk nn xx A2 m2 c2 W (hxr.trans h) (hin.ext h))
   obtain⟨hN1,hN2,hN3,hN4⟩:=HNEXT.out k hk1
   have HN1:=Hy hN1;have HN2:=Hy hN2;have HN3:=Hy hN3;have HN4:=Hy hN4
   have HY:=Hy (show ∀ B:Int,0<=B->B < k->wo.cell? ⟨b,i0+B.toNat * 18+16,none⟩=some (.bool (urgL l B)) from fun B h0 h1=>by
    have hB:B.toNat < l.length:=by omega
    obtain⟨A3,c3,k3,n3,x3,A4,m4,c4,hrow3⟩:=hX B.toNat hB
    have e:urgL l B=l[B.toNat].urg:=by unfold urgL;rw[getD_atO hB]
    rw[e];exact hrow3.r16)
   obtain⟨hB0,hB1⟩:=HLT.out k
   clear hX hrow hin hN1 hN2 hN3 hN4
   obtain⟨B,Y,hSk⟩:∃ B Y,S k=(B,Y):=⟨_,_,rfl⟩
   obtain⟨B2,Y2,hSk2⟩:∃ B Y,S (k+1)=(B,Y):=⟨_,_,rfl⟩
   rw[hSk] at hB0 hB1 HN1 HN2 HN3 HN4
   rw[hSk2] at HN1 HN2 HN3 HN4
   rw[hSk]
   have HSk2:=Hy hSk2
   dsimp only at *
   generalize fitM l[k] ⟨mn,mi,mf,ms,mp⟩ t=FV at *
   generalize l[k]=o at *
   clear hSk hSk2
   obtain⟨on,⟨o1,o2,o3,oa⟩,os,of_,ow,od,ob,ot,og,oh,ou,ok⟩:=o
   dsimp only[ofV] at *
   generalize of_.length=ol at *
   have b1:=Blk.new wo 66 #[.string on,.int .i64 o1,.int .i64 o2,.int .i64 o3,.string oa,.string os,.slice A1 ol c1,.bool ow,.int .i64 kk,.string nn,.string xx,.slice A2 m2 c2,.int .i64 ob,.int .i64 ot,.int .i64 og,.bool oh,.bool ou,.bool ok]
   have hxa:=(Ext.refl wo).alloc (.cells #[.string on,.int .i64 o1,.int .i64 o2,.int .i64 o3,.string oa,.string os,.slice A1 ol c1,.bool ow,.int .i64 kk,.string nn,.string xx,.slice A2 m2 c2,.int .i64 ob,.int .i64 ot,.int .i64 og,.bool oh,.bool ou,.bool ok] 66)
   have bF:=HBF.out.ext hxa;have bM:=HBM.out.ext hxa
   have LB:=load_blk b1 rfl
   have l1:=b1.lt;have e1:=b1.cell
   have eM:=bM.cell;have lM:=bM.lt
   by_cases hE:(on.toList==nm.toList)=true
   rotate_left
   ·obtain⟨rfl,rfl⟩:B2=B∧Y2=Y:=by have:=HN1.out hE;injection this with h1 h2;exact⟨h1,h2⟩
    have hE2:(on.toList==nm.toList)=false:=by simpa using hE
    clear hE
    go_wp2_with (first|refine wpList_load_at rfl _ _ rfl _ rfl _ LD ?_)
    go_roundw
    case rel=>exact⟨k+1,by omega,by rw[HSk2.out],by rw[HSk2.out],by go_num,Hy bF,Hy bM,hxr.trans hxa⟩
    case measure=>simp[intOf];omega
   have HE:=Hy hE
   go_wp2_with (first|refine wpList_load_at rfl _ _ rfl _ rfl _ LD ?_|refine wpList_load_at rfl _ _ rfl _ rfl _ LB ?_)
   refine (CF.out _ hxa).mono ?_
   rintro e w2 ⟨rfl,hx2⟩
   have hxo2:=hxa.trans hx2
   have hxw2:=hxr.trans hxo2
   have b2:=b1.ext hx2
   have bF2:=bF.ext hx2;have bM2:=bM.ext hx2
   clear LB l1 e1 LD eM lM bF bM b1 hxa
   have e2:=b2.cell;have l2:=b2.lt
   have eF:=bF2.cell;have lF:=bF2.lt
   by_cases hz:FV=0
   rotate_left
   ·obtain⟨rfl,rfl⟩:B2=B∧Y2=FV:=by have:=HN2.out HE.out hz;injection this with h1 h2;exact⟨h1,h2⟩
    have hne:(Y2==0)=false:=by rw[beq_eq_false_iff_ne];exact hz
    clear hz
    go_wp2
    go_roundw
    case rel=>exact⟨k+1,by omega,by rw[HSk2.out],by rw[HSk2.out],by go_num,Hy bF2,Hy bM2,hxw2⟩
    case measure=>simp[intOf];omega
   subst hz
   by_cases hneg:B < 0
   ·obtain⟨rfl,rfl⟩:B2=(k:Int)∧Y2=0:=by have:=HN3.out HE.out (by rfl) (.inl hneg);injection this with h1 h2;exact⟨h1,h2⟩
    go_wp2
    go_roundw
    case rel=>exact⟨k+1,by omega,by rw[HSk2.out],by rw[HSk2.out],by go_num,Hy bF2,Hy bM2,hxw2⟩
    case measure=>simp[intOf];omega
   cases ou
   rotate_left
   ·obtain⟨rfl,rfl⟩:B2=(k:Int)∧Y2=0:=by have:=HN3.out HE.out (by rfl) (.inr (.inl rfl));injection this with h1 h2;exact⟨h1,h2⟩
    go_wp2
    go_roundw
    case rel=>exact⟨k+1,by omega,by rw[HSk2.out],by rw[HSk2.out],by go_num,Hy bF2,Hy bM2,hxw2⟩
    case measure=>simp[intOf];omega
   have hy:=hxo2.cell (HY.out B (by omega) hB1)
   have ly:=lt_of_cell hy
   have hb0:(0:Int)<=B:=by omega
   have hbn:B < (n:Int):=by omega
   have HT:=Hy (fun h=>HN3.out HE.out (by rfl) (.inr (.inr h)))
   have HK:=Hy (fun (h:urgL l B=true)=>HN4.out HE.out (by rfl) (by rintro (h1|h1|h1);exact hneg h1;cases h1;rw[h] at h1;cases h1))
   generalize urgL l B=UU at *
   cases UU
   ·obtain⟨rfl,rfl⟩:B2=(k:Int)∧Y2=0:=by have:=HT.out rfl;injection this with h1 h2;exact⟨h1,h2⟩
    go_wp2
    go_roundw
    case rel=>exact⟨k+1,by omega,by rw[HSk2.out],by rw[HSk2.out],by go_num,Hy bF2,Hy bM2,hxw2⟩
    case measure=>simp[intOf];omega
   ·obtain⟨rfl,rfl⟩:B2=B∧Y2=0:=by have:=HK.out rfl;injection this with h1 h2;exact⟨h1,h2⟩
    go_wp2
    go_roundw
    case rel=>exact⟨k+1,by omega,by rw[HSk2.out],by rw[HSk2.out],by go_num,Hy bF2,Hy bM2,hxw2⟩
    case measure=>simp[intOf];omega
  ·obtain rfl:k=n:=by omega
   obtain⟨B,Y,hSk⟩:∃ B Y,S k=(B,Y):=⟨_,_,rfl⟩
   rw[hSk] at HRES
   rw[hSk]
   dsimp only at *
   by_cases hb:0<=B
   ·obtain rfl:RES=(B,0):=by rw[HRES.out,if_pos hb]
    go_wp2
    go_ret2
    exact⟨rfl,hxr⟩
   ·obtain rfl:RES=(-1,Y):=by rw[HRES.out,if_neg hb]
    go_wp2
    go_ret2
    exact⟨rfl,hxr⟩
end Go.Proofs.YtmnafaaijglnfaaGreatDoor
