/- Contract of feed.Check. (Printed by gen/feeds.py.) -/
import Derived.Test.YtmnafaaijglnfaaGreatDoorOm27
namespace Go.Proofs.YtmnafaaijglnfaaGreatDoor
open Go.RowKit
set_option maxHeartbeats 16000000 in
set_option maxRecDepth 100000 in
theorem CheckF_any (ch:ByteArray) (sr tm:Int) (l:List Of) (A:Option Addr) (n c:Nat) (w:World) (hg:GoodN w) (hn:l.length=n) (hr:RdO w A l) (hs:∀ o∈l,SmallO o) (hch:ch.size<=2097152) (hl:n<=2097152) :
 Calls Tryz.prog 107 #[.agg #[.string ch,.int .i64 sr,.int .i64 tm,.slice A n c]] w fun e w'=>e=.returned (.int .i64 (feErr ch sr tm l))∧Ext w w':=by
 have HD:=Hy (show feHead ch sr tm n=firstI [(if nameL (bs ch)=true then 0 else 5),(if (inI sr 1 1099511627776&&inI tm 0 1099511627776)=true then 0 else 3),(if 500 < n then 4 else 0)] from rfl)
 have HH:=Hy (show ¬ feHead ch sr tm n=0->feErr ch sr tm l=feHead ch sr tm n from fun h=>by subst hn;exact feErr_head h)
 have HAT:=Hy (show feHead ch sr tm n=0->∀ k (hk:k < l.length),(∀ x∈(ofErrs l).take k,x=0)->¬ ofAt l k=0->feErr ch sr tm l=ofAt l k from fun h k hk h0 h1=>feErr_at (by rw[hn];exact h) hk h0 h1)
 have HALLE:=Hy (show feHead ch sr tm n=0->(∀ x∈(ofErrs l).take n,x=0)->feErr ch sr tm l=0 from fun h h0=>feErr_all (by rw[hn];exact h) (by rw[hn];exact h0))
 have HN:=Hy hn
 have HG:=Hy hg
 have HS:=Hy hs
 have HR:=Hy hr
 have CN:=Hy (fun W=>IsName_any ch W hch)
 have O1:=Hy (fun W=>outsideF_any sr 1 1099511627776 W)
 have O2:=Hy (fun W=>outsideF_any tm 0 1099511627776 W)
 clear hg hn hr hs hch
 generalize feErr ch sr tm l=E at *
 generalize feHead ch sr tm n=F at *
 generalize nameL (bs ch)=Q1 at *
 generalize inI sr 1 1099511627776=I1 at *
 generalize inI tm 0 1099511627776=I2 at *
 have b0:=Blk.new w 59 #[.string ch,.int .i64 sr,.int .i64 tm,.slice A n c]
 have hx0:Ext w (w.alloc (.cells #[.string ch,.int .i64 sr,.int .i64 tm,.slice A n c] 59)):=(Ext.refl w).alloc _
 have e0:=b0.cell
 have el:=b0.lt
 go_enter Tryz.func107,Tryz.ntmps107
 go_wp2_with fail
 go_wp2_with fail
 refine (CN.out _).mono ?_
 rintro e w' ⟨rfl,rfl⟩
 cases Q1
 ·have hF:=Hy (show F=5 from by rw[HD.out];rfl)
  go_wp2
  go_ret
  exact⟨ret_int (by rw[HH.out (by rw[hF.out];decide),hF.out]),hx0⟩
 go_wp2_with fail
 refine (O1.out _).mono ?_
 rintro e w' ⟨rfl,rfl⟩
 cases I1
 ·have hF:=Hy (show F=3 from by rw[HD.out];rfl)
  go_wp2
  go_ret
  exact⟨ret_int (by rw[HH.out (by rw[hF.out];decide),hF.out]),hx0⟩
 go_wp2_with fail
 refine (O2.out _).mono ?_
 rintro e w' ⟨rfl,rfl⟩
 cases I2
 ·have hF:=Hy (show F=3 from by rw[HD.out];rfl)
  go_wp2
  go_ret
  exact⟨ret_int (by rw[HH.out (by rw[hF.out];decide),hF.out]),hx0⟩
 by_cases h5:(500:Int) < (n:Int)
 ·have hF:=Hy (show F=4 from by rw[HD.out,if_pos (show 500 < n by omega)];rfl)
  go_wp2
  go_ret
  exact⟨ret_int (by rw[HH.out (by rw[hF.out];decide),hF.out]),hx0⟩
 have hF:=Hy (show F=0 from by rw[HD.out,if_neg (show ¬ 500 < n by omega)];rfl)
 go_wp2
 go_loopw [28] (fun i wr=>∃ k:Nat,k<=n∧i=.int .i64 k∧(∀ x∈(ofErrs l).take k,x=0)∧Ext (w.alloc (.cells #[.string ch,.int .i64 sr,.int .i64 tm,.slice A n c] 59)) wr) (fun i _=>n - (intOf i).toNat)
 case atStart=>exact⟨0,Nat.zero_le _,rfl,by simp,Ext.refl _⟩
 case round =>
  obtain⟨k,hk,rfl,hall,hxr⟩:=hrel
  obtain⟨wo,rfl⟩:∃ wo:World,wo=wr:=⟨_,rfl⟩
  have HALL:=Hy hall
  have hxwr:=hx0.trans hxr
  clear hall
  by_cases hlt:k < n
  ·have hk1:k < l.length:=by rw[HN.out];exact hlt
   obtain⟨b,i0,rfl,hX⟩:=(HR.out.ext hxwr) (fun e=>by rw[e] at hk1;exact absurd hk1 (Nat.not_lt_zero _))
   obtain⟨A1,c1,kk,nn,xx,A2,m2,c2,hrow⟩:=hX k hk1
   have LD:=load_row hrow
   have lx:=lt_of_cell hrow.r0
   have hin:=hrow.has
   have COE:=Hy (fun W (h:Ext wo W)=>offerFault_any l[k] A1 c1 kk nn xx A2 m2 c2 W (HG.out.ext (hxwr.trans h)) (hin.ext h) (HS.out _ (List.getElem_mem hk1)))
   have HBAD:=Hy (show ¬ ofErr l[k]=0->E=ofErr l[k] from fun h=>by
    have e:=ofAt_bad hk1 h
    rw[HAT.out hF.out k hk1 HALL.out (by rw[e];exact h),e])
   have HGOOD:=Hy (show ofAt l k=0->∀ x∈(ofErrs l).take (k+1),x=0 from feErr_next hk1 HALL.out)
   have HSEV:=Hy (show ofAt l k=7->E=7 from fun h=>by rw[HAT.out hF.out k hk1 HALL.out (by rw[h];decide),h])
   have HGAP:=Hy (show (k=0∧(ofErr l[k]=0->ofAt l k=0))∨∃ j p A' c' k' n' x' A2' m' c2',k=j+1∧OfRow wo b (i0+j * 18) p A' c' k' n' x' A2' m' c2'∧SmallO p∧ofErr p=0∧(ofErr l[k]=0->ofAt l k=ofGap p l[k]) from by
    rcases Nat.eq_zero_or_pos k with e|e
    ·subst e
     exact .inl ⟨rfl,fun h=>ofAt_0 hk1 h⟩
    ·obtain⟨j,rfl⟩:∃ j,k=j+1:=⟨k - 1,by omega⟩
     obtain⟨A',c',k',n',x',A2',m',c2',hrow'⟩:=hX j (by omega)
     exact .inr ⟨j,l[j],A',c',k',n',x',A2',m',c2',rfl,hrow',HS.out _ (List.getElem_mem _),feErr_seen (by omega) HALL.out (Nat.lt_succ_self _),fun h=>ofAt_gap hk1 h⟩)
   have hso:=HS.out _ (List.getElem_mem hk1)
   have HSO:=Hy hso
   generalize l[k]=o at *
   clear hX hrow hso
   generalize hoe:ofErr o=EO at *
   have HOE:=Hy hoe
   clear hoe
   have HOS:=Hy (fun p=>(show ofGap p o=ofGap p o from rfl))
   obtain⟨OV,hOV⟩:∃ OV,OV=o:=⟨_,rfl⟩
   obtain⟨on,⟨o1,o2,o3,oa⟩,os,of_,ow,od,ob,ot,og,oh,ou,ok⟩:=o
   dsimp only[ofV] at COE LD
   obtain⟨ol,hol⟩:∃ ol,of_.length=ol:=⟨_,rfl⟩
   rw[hol] at LD COE
   have HOL:=Hy hol
   clear hol
   have b1:=Blk.new wo 66 #[.string on,.int .i64 o1,.int .i64 o2,.int .i64 o3,.string oa,.string os,.slice A1 ol c1,.bool ow,.int .i64 kk,.string nn,.string xx,.slice A2 m2 c2,.int .i64 ob,.int .i64 ot,.int .i64 og,.bool oh,.bool ou,.bool ok]
   have hxa:=(Ext.refl wo).alloc (.cells #[.string on,.int .i64 o1,.int .i64 o2,.int .i64 o3,.string oa,.string os,.slice A1 ol c1,.bool ow,.int .i64 kk,.string nn,.string xx,.slice A2 m2 c2,.int .i64 ob,.int .i64 ot,.int .i64 og,.bool oh,.bool ou,.bool ok] 66)
   have LB:=load_blk b1 rfl
   have l1:=b1.lt
   clear e0
   go_wp2_with (first|refine wpList_load_at rfl _ _ rfl _ rfl _ LD ?_|refine wpList_load_at rfl _ _ rfl _ rfl _ LB ?_)
   refine (COE.out _ hxa).mono ?_
   rintro e w2 ⟨rfl,hx2⟩
   have hxo2:=hxa.trans hx2
   have hxw2:=hxwr.trans hxo2
   have b2:=b1.ext hx2
   have bF2:=(b0.ext hxr).ext hxo2
   clear LB l1 LD
   by_cases hz:EO=0
   rotate_left
   ·have hne:(EO != 0)=true:=by rw[bne_iff_ne];exact hz
    have HB:=Hy (HBAD.out hz)
    clear hz
    go_wp2
    go_ret
    exact⟨ret_int HB.out.symm,hxw2⟩
   subst hz
   have e2:=bF2.cell
   have l1:=b2.lt;have l2:=bF2.lt
   rcases HGAP.out with ⟨hk0,hz⟩|⟨j,p,A',c',k',n',x',A2',m',c2',rfl,hrow',hsp,hep,hgp⟩
   ·as_aux_lemma =>
    subst hk0
    have HA:=Hy (HGOOD.out (hz (by rfl)))
    clear hz
    go_wp2_with fail
    refine wp_region_ext (by kernel_rfl) (by kernel_rfl) ?_
    repeat (first|go_big_quiet_skip|(refine wpQuiet_step (fun K hK=>?_);go_simp;first|(refine hK _ ?_;clear hK K)|(apply Exists.intro;refine⟨fun wq hwq=>?_,hK _ ?_⟩;(obtain⟨hqc,hqf⟩:=hwq.cells;have hqs:=hwq.size;(try go_simp);first|rfl|((first|rw[if_neg (by omega)]|rw[if_pos (by omega)]);(try go_simp);rfl)|((fail)));clear hK K)))
    refine wpQuiet_nil ?_
    intro wN hxN
    obtain⟨hcN,hfN⟩:=hxN.cells
    have hsN:=hxN.size
    go_wp2
    go_roundw
    case rel=>exact⟨1,by omega,rfl,HA.out,(hxr.trans hxo2).trans hxN⟩
    case measure=>simp[intOf];omega
   as_aux_lemma =>
   have hrow2:=hrow'.ext hxo2
   have hy0:=lt_of_cell hrow2.r0
   have HG7:=Hy (hgp (by rfl))
   have CMP:=Hy (fun W (h:Ext w W)=>compareOffers_any p OV A' c' k' n' x' A2' m' c2' A1 c1 kk nn xx A2 m2 c2 W (HG.out.toGood.ext h) hsp (hOV ▸ HSO.out))
   have HGP:=Hy (show ofGap p OV=if 0<=ofCmp p OV then 7 else 0 from rfl)
   rw[<-hOV] at HG7
   generalize hcz:ofCmp p OV=Z at *
   subst hOV
   obtain⟨pn,⟨p1,p2,p3,pa⟩,ps,pf,pw,pd,pb,pt,pg,ph,pu,pk⟩:=p
   have LY:∀ W,Ext w2 W->(loadVar 66 ⟨b,i0+j * 18,none⟩).run Tryz.prog W=_:=fun W h=>load_row (hrow2.ext h)
   have LB:∀ W,Ext w2 W->(loadVar 66 ⟨wo.heap.size,0,none⟩).run Tryz.prog W=_:=fun W h=>load_blk (b2.ext h) rfl
   dsimp only[ofV] at CMP LY
   rw[HOL.out] at CMP
   generalize pf.length=pl at *
   clear hrow2 hrow' hsp hep hgp hcz
   have hd:decide ((0:Int) < (j:Int)+1)=true:=decide_eq_true (by omega)
   go_wp2_with fail
   have jw:IntKind.i64.wrap (j:Int)=(j:Int):=IntWalk.i64_in _ (by omega)
   have jl:(0:Int)<=(j:Int):=by omega
   have jn:(j:Int) < (n:Int):=by omega
   refine wp_region_ext (by kernel_rfl) (by kernel_rfl) ?_
   repeat (first|go_big_quiet_skip|(refine wpQuiet_load (by rfl) _ _ rfl _ rfl _ LY ?_)|(refine wpQuiet_load (by rfl) _ _ rfl _ rfl _ LB ?_)|(refine wpQuiet_step (fun K hK=>?_);go_simp;first|(refine hK _ ?_;clear hK K)|(apply Exists.intro;refine⟨fun wq hwq=>?_,hK _ ?_⟩;(obtain⟨hqc,hqf⟩:=hwq.cells;have hqs:=hwq.size;(try go_simp);first|rfl|((first|rw[if_neg (by omega)]|rw[if_pos (by omega)]);(try go_simp);rfl)|((go_at_call 108;exact (CMP.out _ (hxw2.trans hwq)).mono (fun e w'' h=>⟨h.1,hwq.trans h.2⟩))));clear hK K)))
   refine wpQuiet_nil ?_
   intro wN hxN
   obtain⟨hcN,hfN⟩:=hxN.cells
   have hsN:=hxN.size
   clear jw
   by_cases hZ:(0:Int)<=Z
   ·have HA:=Hy (HSEV.out (by rw[HG7.out,HGP.out,if_pos hZ]))
    go_wp2
    go_ret
    exact⟨ret_int HA.out.symm,hxw2.trans hxN⟩
   ·have HA:=Hy (HGOOD.out (by rw[HG7.out,HGP.out,if_neg hZ]))
    go_wp2
    go_roundw
    case rel=>exact⟨j+1+1,by omega,by go_num,HA.out,(hxr.trans hxo2).trans hxN⟩
    case measure=>simp[intOf];omega
  ·obtain rfl:k=n:=by omega
   have HE:=Hy (HALLE.out hF.out HALL.out)
   go_wp2
   go_ret
   exact⟨ret_int HE.out.symm,hxwr⟩
end Go.Proofs.YtmnafaaijglnfaaGreatDoor
