/- Contract of outref2.FeedError. (Printed by gen/feeds.py.) -/
import Derived.Test.YtmnafaaijglnfaaGreatDoorOm29
namespace Go.Proofs.YtmnafaaijglnfaaGreatDoor
open Go.RowKit
set_option maxHeartbeats 16000000 in
set_option maxRecDepth 100000 in
theorem FeedError_any (ch:ByteArray) (sr tm:Int) (l:List Of) (A:Option Addr) (n c:Nat) (w:World) (hg:GoodN w) (hn:l.length=n) (hr:RdO w A l) (hs:∀ o∈l,SmallO o) (hch:ch.size<=2097152) (hl:n<=2097152) :
 Calls Tryz.prog 39 #[.agg #[.string ch,.int .i64 sr,.int .i64 tm,.slice A n c]] w fun e w'=>e=.returned (.int .i64 (feErr ch sr tm l))∧Ext w w':=by
 have HD:=Hy (show feHead ch sr tm n=firstI [(if nameL (bs ch)=true then 0 else 5),(if (inI sr 1 1099511627776&&inI tm 0 1099511627776)=true then 0 else 3),(if 500 < n then 4 else 0)] from rfl)
 have HH:=Hy (show ¬ feHead ch sr tm n=0->feErr ch sr tm l=feHead ch sr tm n from fun h=>by subst hn;exact feErr_head h)
 have HAT:=Hy (show feHead ch sr tm n=0->∀ k (hk:k < l.length),(∀ x∈(ofErrs l).take k,x=0)->¬ ofAt l k=0->feErr ch sr tm l=ofAt l k from fun h k hk h0 h1=>feErr_at (by rw[hn];exact h) hk h0 h1)
 have HALLE:=Hy (show feHead ch sr tm n=0->(∀ x∈(ofErrs l).take n,x=0)->feErr ch sr tm l=0 from fun h h0=>feErr_all (by rw[hn];exact h) (by rw[hn];exact h0))
 have HN:=Hy hn
 have HG:=Hy hg
 have HS:=Hy hs
 have HR:=Hy hr
 have CN:=Hy (fun W=>NameOf_any ch W hch)
 have CI1:=Hy (show ∀ W,Calls Tryz.prog 58 #[.int .i64 sr,.int .i64 1,.int .i64 1099511627776] W fun e w'=>e=.returned (.bool (inI sr 1 1099511627776))∧W=w' from fun W=>(In_any sr 1 1099511627776 W).mono fun e w' h=>⟨h.1.trans (ret_bool (by simp[inI])),h.2⟩)
 have CI2:=Hy (show ∀ W,Calls Tryz.prog 58 #[.int .i64 tm,.int .i64 0,.int .i64 1099511627776] W fun e w'=>e=.returned (.bool (inI tm 0 1099511627776))∧W=w' from fun W=>(In_any tm 0 1099511627776 W).mono fun e w' h=>⟨h.1.trans (ret_bool (by simp[inI])),h.2⟩)
 clear hg hn hr hs hch
 generalize feErr ch sr tm l=E at *
 generalize feHead ch sr tm n=F at *
 generalize nameL (bs ch)=Q1 at *
 generalize inI sr 1 1099511627776=I1 at *
 generalize inI tm 0 1099511627776=I2 at *
 have b0:=Blk.new w 59 #[.string ch,.int .i64 sr,.int .i64 tm,.slice A n c]
 have hx0:Ext w (w.alloc (.cells #[.string ch,.int .i64 sr,.int .i64 tm,.slice A n c] 59)):=(Ext.refl w).alloc _
 have e0:=b0.cell
 have el:=b0.lt
 obtain⟨X1,hX1⟩:∃ X,(if Q1=true then (0:Int) else 5)=X:=⟨_,rfl⟩
 obtain⟨X2,hX2⟩:∃ X,(if (I1&&I2)=true then (0:Int) else 3)=X:=⟨_,rfl⟩
 obtain⟨X3,hX3⟩:∃ X,(if 500 < n then (4:Int) else 0)=X:=⟨_,rfl⟩
 have HF:=Hy (show F=firstI [X1,X2,X3] from by rw[HD.out,hX1,hX2,hX3])
 have CNE:=Hy (fun W (h:Ext (w.alloc (.cells #[.string ch,.int .i64 sr,.int .i64 tm,.slice A n c] 59)) W)=>(CN.out W).mono (fun e w' hh=>(show e=_∧Ext W w'∧Ext (w.alloc (.cells #[.string ch,.int .i64 sr,.int .i64 tm,.slice A n c] 59)) w' from ⟨hh.1,hh.2,h.trans hh.2⟩)))
 have CW1:=Hy (show ∀ W,Calls Tryz.prog 38 #[.bool (!Q1),.int .i64 5] W fun e w'=>e=.returned (.int .i64 X1)∧W=w' from fun W=>(When_any (!Q1) 5 W).mono fun e w' h=>⟨h.1.trans (ret_int (by rw[<-hX1];cases Q1<;>rfl)),h.2⟩)
 have CW2:=Hy (show ∀ W,Calls Tryz.prog 38 #[.bool (!(I1&&I2)),.int .i64 3] W fun e w'=>e=.returned (.int .i64 X2)∧W=w' from fun W=>(When_any (!(I1&&I2)) 3 W).mono fun e w' h=>⟨h.1.trans (ret_int (by rw[<-hX2];cases (I1&&I2)<;>rfl)),h.2⟩)
 have CW3:=Hy (show ∀ W,Calls Tryz.prog 38 #[.bool (decide ((500:Int) < (n:Int))),.int .i64 4] W fun e w'=>e=.returned (.int .i64 X3)∧W=w' from fun W=>(When_any (decide ((500:Int) < (n:Int))) 4 W).mono fun e w' h=>⟨h.1.trans (ret_int (by rw[<-hX3];by_cases h5:500 < n<;>simp[h5]<;>omega)),h.2⟩)
 have HX2:=Hy hX2
 clear hX1 hX2 hX3 CN
 have CFI:=Hy (fun b cp W (h:∀ k (hk:k < [X1,X2,X3].length),World.cell? W ⟨b,k,none⟩=some (.int .i64 [X1,X2,X3][k]))=>First_any b cp [X1,X2,X3] W h (by simp))
 rw[<-HF.out] at CFI
 have g0:(w.alloc (.cells #[.string ch,.int .i64 sr,.int .i64 tm,.slice A n c] 59)).cell? ⟨w.heap.size,0,none⟩=some (.string ch):=e0 0
 have g1:(w.alloc (.cells #[.string ch,.int .i64 sr,.int .i64 tm,.slice A n c] 59)).cell? ⟨w.heap.size,1,none⟩=some (.int .i64 sr):=e0 1
 have g2:(w.alloc (.cells #[.string ch,.int .i64 sr,.int .i64 tm,.slice A n c] 59)).cell? ⟨w.heap.size,2,none⟩=some (.int .i64 tm):=e0 2
 have g3:(w.alloc (.cells #[.string ch,.int .i64 sr,.int .i64 tm,.slice A n c] 59)).cell? ⟨w.heap.size,3,none⟩=some (.slice A n c):=e0 3
 clear e0
 go_enter Tryz.func39,Tryz.ntmps39
 go_wp2_with fail
 cases I1
 case false =>
  have e2:X2=3:=by rw[<-HX2.out];simp
  have hF:=Hy (show F≠0 from by rw[HF.out,e2];simp only[firstI];by_cases h:X1=0<;>simp[h])
  have hne:(F != 0)=true:=by rw[bne_iff_ne];exact hF.out
  clear e2
  simp only[Bool.false_and,Bool.not_false] at CW2 CI1 CI2
  go_wp2
  refine wp_region_grow (by kernel_rfl) (by kernel_rfl) ?_
  apply Exists.intro
  repeat (first|(apply grow_skip;(focus exact rfl);(try simp only[Act.put,List.setIfInBounds_toArray,List.set_cons_zero,List.set_cons_succ]))|(apply grow_one;(focus exact rfl);(focus (intro wq hwq;(obtain⟨hqc,hqf⟩:=hwq.ext.cells);have hqs:=hwq.ext.size;unfold Oper.quietAt;(try go_simp);first|rfl|(first
   | (go_at_call 19;exact (CNE.out _ hwq.ext).mono fun e w' h=>⟨h.1,h.2.1⟩)
   | (go_at_call 58;first|with_reducible exact callsExt (CI1.out _)|with_reducible exact callsExt (CI2.out _))
   | (go_at_call 38;first|with_reducible exact callsExt (CW1.out _)|with_reducible exact callsExt (CW2.out _)|with_reducible exact callsExt (CW3.out _))
   | (go_at_call 11;have hb:=hwq.blk 21 rfl rfl;exact callsExt (CFI.out _ _ _ (by intro k hk;rw[hb.cell];match k,hk with|0,_=>rfl|1,_=>rfl|2,_=>rfl))))));(try simp only[Act.put,List.setIfInBounds_toArray,List.set_cons_zero,List.set_cons_succ]))|(apply grow_build;(focus exact rfl);(focus (intro wq;go_simp;first|exact⟨⟨rfl,rfl⟩,rfl⟩|exact⟨rfl,rfl⟩|rfl));intro b;(try simp only[Act.put,List.setIfInBounds_toArray,List.set_cons_zero,List.set_cons_succ])))
  refine grow_nil ?_
  intro wN hxN hFN
  all_goals
   go_wp2
   go_ret
   exact⟨ret_int (by rw[HH.out hF.out]),hx0.trans hxN⟩
 cases I2
 case false =>
  have e2:X2=3:=by rw[<-HX2.out];simp
  have hF:=Hy (show F≠0 from by rw[HF.out,e2];simp only[firstI];by_cases h:X1=0<;>simp[h])
  have hne:(F != 0)=true:=by rw[bne_iff_ne];exact hF.out
  clear e2
  simp only[Bool.and_false,Bool.not_false] at CW2 CI1 CI2
  go_wp2
  refine wp_region_grow (by kernel_rfl) (by kernel_rfl) ?_
  apply Exists.intro
  repeat (first|(apply grow_skip;(focus exact rfl);(try simp only[Act.put,List.setIfInBounds_toArray,List.set_cons_zero,List.set_cons_succ]))|(apply grow_one;(focus exact rfl);(focus (intro wq hwq;(obtain⟨hqc,hqf⟩:=hwq.ext.cells);have hqs:=hwq.ext.size;unfold Oper.quietAt;(try go_simp);first|rfl|(first
   | (go_at_call 19;exact (CNE.out _ hwq.ext).mono fun e w' h=>⟨h.1,h.2.1⟩)
   | (go_at_call 58;first|with_reducible exact callsExt (CI1.out _)|with_reducible exact callsExt (CI2.out _))
   | (go_at_call 38;first|with_reducible exact callsExt (CW1.out _)|with_reducible exact callsExt (CW2.out _)|with_reducible exact callsExt (CW3.out _))
   | (go_at_call 11;have hb:=hwq.blk 21 rfl rfl;exact callsExt (CFI.out _ _ _ (by intro k hk;rw[hb.cell];match k,hk with|0,_=>rfl|1,_=>rfl|2,_=>rfl))))));(try simp only[Act.put,List.setIfInBounds_toArray,List.set_cons_zero,List.set_cons_succ]))|(apply grow_build;(focus exact rfl);(focus (intro wq;go_simp;first|exact⟨⟨rfl,rfl⟩,rfl⟩|exact⟨rfl,rfl⟩|rfl));intro b;(try simp only[Act.put,List.setIfInBounds_toArray,List.set_cons_zero,List.set_cons_succ])))
  refine grow_nil ?_
  intro wN hxN hFN
  all_goals
   go_wp2
   go_ret
   exact⟨ret_int (by rw[HH.out hF.out]),hx0.trans hxN⟩
 case true =>
 simp only[Bool.and_true,Bool.not_true] at CW2 CI1 CI2
 go_wp2
 refine wp_region_grow (by kernel_rfl) (by kernel_rfl) ?_
 apply Exists.intro
 repeat (first|(apply grow_skip;(focus exact rfl);(try simp only[Act.put,List.setIfInBounds_toArray,List.set_cons_zero,List.set_cons_succ]))|(apply grow_one;(focus exact rfl);(focus (intro wq hwq;(obtain⟨hqc,hqf⟩:=hwq.ext.cells);have hqs:=hwq.ext.size;unfold Oper.quietAt;(try go_simp);first|rfl|(first
  | (go_at_call 19;exact (CNE.out _ hwq.ext).mono fun e w' h=>⟨h.1,h.2.1⟩)
  | (go_at_call 58;first|with_reducible exact callsExt (CI1.out _)|with_reducible exact callsExt (CI2.out _))
  | (go_at_call 38;first|with_reducible exact callsExt (CW1.out _)|with_reducible exact callsExt (CW2.out _)|with_reducible exact callsExt (CW3.out _))
  | (go_at_call 11;have hb:=hwq.blk 21 rfl rfl;exact callsExt (CFI.out _ _ _ (by intro k hk;rw[hb.cell];match k,hk with|0,_=>rfl|1,_=>rfl|2,_=>rfl))))));(try simp only[Act.put,List.setIfInBounds_toArray,List.set_cons_zero,List.set_cons_succ]))|(apply grow_build;(focus exact rfl);(focus (intro wq;go_simp;first|exact⟨⟨rfl,rfl⟩,rfl⟩|exact⟨rfl,rfl⟩|rfl));intro b;(try simp only[Act.put,List.setIfInBounds_toArray,List.set_cons_zero,List.set_cons_succ])))
 refine grow_nil ?_
 intro wN hxN hFN
 have hxs:=hxN
 have e0:=(b0.ext hxs).cell
 by_cases hF0:F=0
 rotate_left
 ·have hne:(F != 0)=true:=by rw[bne_iff_ne];exact hF0
  have hF:=Hy hF0
  clear hF0
  go_wp2
  go_ret
  exact⟨ret_int (by rw[HH.out hF.out]),hx0.trans hxs⟩
 have hF:=Hy hF0
 have hne:(F != 0)=false:=by rw[hF0];rfl
 clear hF0 g0 g1 g2 g3 CFI CW1 CW2 CW3 CI1 CI2 CNE
 go_wp2
 go_loopw [37] (fun i wr=>∃ k:Nat,k<=n∧i=.int .i64 k∧(∀ x∈(ofErrs l).take k,x=0)∧Ext (w.alloc (.cells #[.string ch,.int .i64 sr,.int .i64 tm,.slice A n c] 59)) wr) (fun i _=>n - (intOf i).toNat)
 case atStart=>exact⟨0,Nat.zero_le _,rfl,by simp,hxs⟩
 case round =>
  obtain⟨k,hk,rfl,hall,hxr⟩:=hrel
  obtain⟨wo,rfl⟩:∃ wo:World,wo=wr:=⟨_,rfl⟩
  have HALL:=Hy hall
  have hxwr:=hx0.trans hxr
  clear hall
  by_cases hlt:k < n
  ·have hk1:k < l.length:=by rw[HN.out];exact hlt
   obtain⟨b,i0,rfl,hX⟩:=(HR.out.ext hxwr) (fun e=>by rw[e] at hk1;exact absurd hk1 (Nat.not_lt_zero _))
   obtain⟨A1,c1,kk,nn,xx,A2,m2,c2,hrow⟩:=hX k hk1
   have LD:=load_row hrow
   have lx:=lt_of_cell hrow.r0
   have hin:=hrow.has
   have COE:=Hy (fun W (h:Ext wo W)=>OfferError_any l[k] A1 c1 kk nn xx A2 m2 c2 W (HG.out.ext (hxwr.trans h)) (hin.ext h) (HS.out _ (List.getElem_mem hk1)))
   have HBAD:=Hy (show ¬ ofErr l[k]=0->E=ofErr l[k] from fun h=>by
    have e:=ofAt_bad hk1 h
    rw[HAT.out hF.out k hk1 HALL.out (by rw[e];exact h),e])
   have HGOOD:=Hy (show ofAt l k=0->∀ x∈(ofErrs l).take (k+1),x=0 from feErr_next hk1 HALL.out)
   have HSEV:=Hy (show ofAt l k=7->E=7 from fun h=>by rw[HAT.out hF.out k hk1 HALL.out (by rw[h];decide),h])
   have HGAP:=Hy (show (k=0∧(ofErr l[k]=0->ofAt l k=0))∨∃ j p A' c' k' n' x' A2' m' c2',k=j+1∧OfRow wo b (i0+j * 18) p A' c' k' n' x' A2' m' c2'∧SmallO p∧ofErr p=0∧(ofErr l[k]=0->ofAt l k=ofGap p l[k]) from by
    rcases Nat.eq_zero_or_pos k with e|e
    ·subst e
     exact .inl ⟨rfl,fun h=>ofAt_0 hk1 h⟩
    ·obtain⟨j,rfl⟩:∃ j,k=j+1:=⟨k - 1,by omega⟩
     obtain⟨A',c',k',n',x',A2',m',c2',hrow'⟩:=hX j (by omega)
     exact .inr ⟨j,l[j],A',c',k',n',x',A2',m',c2',rfl,hrow',HS.out _ (List.getElem_mem _),feErr_seen (by omega) HALL.out (Nat.lt_succ_self _),fun h=>ofAt_gap hk1 h⟩)
   have hso:=HS.out _ (List.getElem_mem hk1)
   have HSO:=Hy hso
   generalize l[k]=o at *
   clear hX hrow hso
   generalize hoe:ofErr o=EO at *
   have HOE:=Hy hoe
   clear hoe
   have HOS:=Hy (fun p=>(show ofGap p o=ofGap p o from rfl))
   obtain⟨OV,hOV⟩:∃ OV,OV=o:=⟨_,rfl⟩
   obtain⟨on,⟨o1,o2,o3,oa⟩,os,of_,ow,od,ob,ot,og,oh,ou,ok⟩:=o
   dsimp only[ofV] at COE LD
   obtain⟨ol,hol⟩:∃ ol,of_.length=ol:=⟨_,rfl⟩
   rw[hol] at LD COE
   have HOL:=Hy hol
   clear hol
   have b1:=Blk.new wo 66 #[.string on,.int .i64 o1,.int .i64 o2,.int .i64 o3,.string oa,.string os,.slice A1 ol c1,.bool ow,.int .i64 kk,.string nn,.string xx,.slice A2 m2 c2,.int .i64 ob,.int .i64 ot,.int .i64 og,.bool oh,.bool ou,.bool ok]
   have hxa:=(Ext.refl wo).alloc (.cells #[.string on,.int .i64 o1,.int .i64 o2,.int .i64 o3,.string oa,.string os,.slice A1 ol c1,.bool ow,.int .i64 kk,.string nn,.string xx,.slice A2 m2 c2,.int .i64 ob,.int .i64 ot,.int .i64 og,.bool oh,.bool ou,.bool ok] 66)
   have LB:=load_blk b1 rfl
   have l1:=b1.lt
   clear e0
   go_wp2_with (first|refine wpList_load_at rfl _ _ rfl _ rfl _ LD ?_|refine wpList_load_at rfl _ _ rfl _ rfl _ LB ?_)
   refine (COE.out _ hxa).mono ?_
   rintro e w2 ⟨rfl,hx2⟩
   have hxo2:=hxa.trans hx2
   have hxw2:=hxwr.trans hxo2
   have b2:=b1.ext hx2
   have bF2:=(b0.ext hxr).ext hxo2
   clear LB l1 LD
   by_cases hz:EO=0
   rotate_left
   ·have hne:(EO != 0)=true:=by rw[bne_iff_ne];exact hz
    have HB:=Hy (HBAD.out hz)
    clear hz
    go_wp2
    go_ret
    exact⟨ret_int HB.out.symm,hxw2⟩
   subst hz
   have e2:=bF2.cell
   have l1:=b2.lt;have l2:=bF2.lt
   rcases HGAP.out with ⟨hk0,hz⟩|⟨j,p,A',c',k',n',x',A2',m',c2',rfl,hrow',hsp,hep,hgp⟩
   ·as_aux_lemma =>
    subst hk0
    have HA:=Hy (HGOOD.out (hz (by rfl)))
    clear hz
    go_wp2
    go_roundw
    case rel=>exact⟨1,by omega,rfl,HA.out,hxr.trans hxo2⟩
    case measure=>simp[intOf];omega
   as_aux_lemma =>
   have hrow2:=hrow'.ext hxo2
   have hy0:=lt_of_cell hrow2.r0
   have HG7:=Hy (hgp (by rfl))
   have CMP:=Hy (fun W (h:Ext w W)=>CompareOf_any p.vv.a1 p.vv.a2 p.vv.a3 OV.vv.a1 OV.vv.a2 OV.vv.a3 p.vv.a OV.vv.a W (HG.out.ext h) hsp.vv (hOV ▸ HSO.out).vv (ofErr_parts hep).2.1 (ofErr_parts (o:=OV) (hOV ▸ HOE.out)).2.1)
   have HL:=Hy (gap_less (p:=p) (o:=OV));have HM:=Hy (gap_same (p:=p) (o:=OV));have HR2:=Hy (gap_far (p:=p) (o:=OV))
   rw[<-hOV] at HG7
   subst hOV
   have LY:=load_row hrow2
   obtain⟨pn,⟨p1,p2,p3,pa⟩,ps,pf,pw,pd,pb,pt,pg,ph,pu,pk⟩:=p
   dsimp only[ofV] at CMP LY HL HM HR2
   generalize orderL p1 p2 p3 (bs pa) o1 o2 o3 (bs oa)=Z at *
   generalize pf.length=pl at *
   clear hrow2 hrow' hsp hep hgp
   have b3:=Blk.new w2 66 #[.string pn,.int .i64 p1,.int .i64 p2,.int .i64 p3,.string pa,.string ps,.slice A' pl c',.bool pw,.int .i64 k',.string n',.string x',.slice A2' m' c2',.int .i64 pb,.int .i64 pt,.int .i64 pg,.bool ph,.bool pu,.bool pk]
   have hx3:Ext w2 (w2.alloc (.cells #[.string pn,.int .i64 p1,.int .i64 p2,.int .i64 p3,.string pa,.string ps,.slice A' pl c',.bool pw,.int .i64 k',.string n',.string x',.slice A2' m' c2',.int .i64 pb,.int .i64 pt,.int .i64 pg,.bool ph,.bool pu,.bool pk] 66)):=(Ext.refl w2).alloc _
   generalize hW3:w2.alloc (.cells #[.string pn,.int .i64 p1,.int .i64 p2,.int .i64 p3,.string pa,.string ps,.slice A' pl c',.bool pw,.int .i64 k',.string n',.string x',.slice A2' m' c2',.int .i64 pb,.int .i64 pt,.int .i64 pg,.bool ph,.bool pu,.bool pk] 66)=W3 at *
   have HW3:=Hy hW3
   clear hW3
   have b4:=b2.ext hx3
   have hd:decide ((0:Int) < (j:Int)+1)=true:=decide_eq_true (by omega)
   have jw:IntKind.i64.wrap (j:Int)=(j:Int):=IntWalk.i64_in _ (by omega)
   have jl:(0:Int)<=(j:Int):=by omega
   have jn:(j:Int) < (n:Int):=by omega
   go_upto_region 12 with (first|(rw[HW3.out])|(refine wpList_load_at rfl _ _ rfl _ rfl _ LY ?_))
   try rw[HW3.out]
   clear LY e2 jw
   have e3:=b3.cell;have e4:=b4.cell;have l3:=b3.lt;have l4:=b4.lt
   have hxo3:=hxo2.trans hx3
   have hxw3:=hxw2.trans hx3
   by_cases hL:Op.bytesLess on.toList pn.toList=true
   ·have HA:=Hy (HSEV.out (by rw[HG7.out];exact HL.out hL))
    go_wp2
    go_ret
    exact⟨ret_int HA.out.symm,hxw3⟩
   have hL2:Op.bytesLess on.toList pn.toList=false:=by simpa using hL
   clear hL
   by_cases hE:(on.toList==pn.toList)=true
   ·have HG8:=Hy (HG7.out.trans (HM.out hE))
    go_wp2_with fail
    refine (CMP.out _ hxw3).mono ?_
    rintro e w4 ⟨rfl,hx4⟩
    by_cases hZ:(0:Int)<=Z
    ·have HA:=Hy (HSEV.out (by rw[HG8.out,if_pos hZ]))
     go_wp2
     go_ret
     exact⟨ret_int HA.out.symm,hxw3.trans hx4⟩
    ·have HA:=Hy (HGOOD.out (by rw[HG8.out,if_neg hZ]))
     go_wp2
     go_roundw
     case rel=>exact⟨j+1+1,by omega,by go_num,HA.out,(hxr.trans hxo3).trans hx4⟩
     case measure=>simp[intOf];omega
   ·have hE2:(on.toList==pn.toList)=false:=by simpa using hE
    clear hE
    have HA:=Hy (HGOOD.out (by rw[HG7.out];exact HR2.out hL2 hE2))
    go_wp2
    go_roundw
    case rel=>exact⟨j+1+1,by omega,by go_num,HA.out,hxr.trans hxo3⟩
    case measure=>simp[intOf];omega
  ·obtain rfl:k=n:=by omega
   have HE:=Hy (HALLE.out hF.out HALL.out)
   go_wp2
   go_ret
   exact⟨ret_int HE.out.symm,hxwr⟩
end Go.Proofs.YtmnafaaijglnfaaGreatDoor
