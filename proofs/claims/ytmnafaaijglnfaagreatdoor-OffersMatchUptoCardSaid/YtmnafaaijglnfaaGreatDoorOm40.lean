/- Contract of outref2.FitsOf. -/
import Derived.Test.YtmnafaaijglnfaaGreatDoorOm33
import Derived.Test.YtmnafaaijglnfaaGreatDoorOm37
namespace Go.Proofs.YtmnafaaijglnfaaGreatDoor
open Go.RowKit
def mapFact (b n:Nat) (f:Str->Option Str):Fact:=⟨fun w=>StrMap w b n f,fun _ _ h hx=>h.ext hx⟩
set_option maxHeartbeats 4000000 in
set_option maxRecDepth 100000 in
theorem ft2_any (x:Pin) (A:Option Addr) (c:Nat) (g:Nat) (nm:ByteArray) (v:V4) (w:World) (hg:GoodN w) (hr:RdS w A x.fr) (hs:SmallS x.fr) (hl:x.fr.length<=2097152) (ho:rngErr x.fr=0) (hv:v.a.size<=2097152) (hov:v.err=0)
 (h0:w.cell? ⟨g,0,none⟩=some (.string nm)) (h1:w.cell? ⟨g,1,none⟩=some (.int .i64 v.a1)) (h2:w.cell? ⟨g,2,none⟩=some (.int .i64 v.a2)) (h3:w.cell? ⟨g,3,none⟩=some (.int .i64 v.a3)) (h4:w.cell? ⟨g,4,none⟩=some (.string v.a)) :
 Calls Tryz.prog 135 #[pinV x A c,.pointer (some ⟨g,0,none⟩)] w fun e w'=>e=.returned (.bool (x.name.toList==nm.toList&&!hasL x.fr v))∧Ext w w':=by
 have CH:=Hy (fun W (h:Ext w W)=>HasOf_any A x.fr.length c x.fr v W (hg.ext h) rfl (hr.ext h) hs hl hv ho hov)
 clear hr hs ho hl
 obtain⟨xn,xf⟩:=x
 dsimp only[pinV] at *
 generalize hasL xf v=HV at *
 generalize xf.length=xl at *
 obtain⟨v1,v2,v3,va⟩:=v
 dsimp only[verV] at *
 have hlc:=lt_of_cell h0
 have b1:=Blk.new w 181 #[.string xn,.slice A xl c]
 have hx0:Ext w (w.alloc (.cells #[.string xn,.slice A xl c] 181)):=(Ext.refl w).alloc _
 have e1:=b1.cell;have l1:=b1.lt
 have d0:=hx0.cell h0;have d1:=hx0.cell h1;have d2:=hx0.cell h2;have d3:=hx0.cell h3;have d4:=hx0.cell h4
 go_enter Tryz.func135,Tryz.ntmps135
 by_cases hq:(xn.toList==nm.toList)=true
 ·have HQ:=Hy hq
  go_wp2_with fail
  refine (CH.out _ hx0).mono ?_
  rintro e w1 ⟨rfl,hx1⟩
  go_wp2
  go_ret
  exact⟨ret_bool (by rw[HQ.out];simp),hx0.trans hx1⟩
 ·have hq2:(xn.toList==nm.toList)=false:=by simpa using hq
  have HQ:=Hy hq2
  clear hq
  go_wp2
  go_ret
  exact⟨ret_bool (by rw[HQ.out];simp),hx0⟩
theorem check_cntO {c:Cd} (h:checkC c=0):cnt c<=100:=by
 rcases Nat.lt_or_ge 100 (cnt c) with h1|h1
 ·unfold checkC at h;rw[if_pos h1] at h;cases h
 ·exact h1
set_option maxHeartbeats 16000000 in
set_option maxRecDepth 100000 in
theorem FitsOf_any (o:Of) (A:Option Addr) (c:Nat) (k:Int) (n x:ByteArray) (A2:Option Addr) (m c2:Nat) (mc:Mac) (A':Option Addr) (n' c':Nat) (Af:Option Addr) (nf cf:Nat) (As:Option Addr) (ns cs:Nat) (Ap:Option Addr) (np cp:Nat) (t:Int) (w:World) (hg:GoodS w) (hi:OfIn AnyB w o A k n x A2 m c2) (ho:SmallO o) (he:ofErr o=0) (hm:MacIn w mc A' n' Af nf As ns Ap np cp) (hs:SmallM mc) (hme:MacOk mc) (ht:0<=t∧t<=1099511627776) :
 Calls Tryz.prog 63 #[ofV o A c k n x A2 m c2,macV mc A' n' c' Af nf cf As ns cs Ap np cp,.int .i64 t] w fun e w'=>e=.returned (.int .i64 (fitL o (wasL mc.inst o.name.toList) mc (holdsC (tbl mc.facts) (tbl mc.sets) o.wh) t))∧Ext w w':=by
 unfold fitL
 obtain⟨q1,q2,q3,q4,q5⟩:=hme
 obtain⟨p1,p2,p3,p4,p5,p6⟩:=ofErr_parts he
 have CH:=Hy (fun W (h:Ext w W) b1 b2 (k1:StrMap W b1 nf (tbl mc.facts)) (k2:StrMap W b2 ns (tbl mc.sets))=>holdsOf_any (tbl mc.facts) (tbl mc.sets) (fun y u h=>tbl_size hs.facts h) 100 o.wh (ok_of_check p5) (by have:=check_cntO p5;omega) AnyB _ b1 b2 nf ns W (hg.toGoodN.ext h) (hi.2.ext h) k1 k2)
 have CF1:=Hy (fun W (h:Ext w W)=>Facts_any Af nf cf mc.facts W hm.ef (hm.rf.ext h) hs.facts (by rw[<-hm.ef];exact hs.lf))
 have CF2:=Hy (fun W (h:Ext w W)=>Facts_any As ns cs mc.sets W hm.es (hm.rs.ext h) hs.sets (by rw[<-hm.es];exact hs.ls))
 have CP:=Hy (fun W (h:Ext w W)=>PlaceOf_any mc.name o.name o.vv W (hg.ext h) hs.name ho.name ho.vv p2)
 have CS:=Hy (fun W=>ShareOf_any o A c k n x A2 m c2 t W he ht)
 have CHR:=Hy (fun (v:V4) (h0:v.err=0) (h1:v.a.size<=2097152) W (h:Ext w W)=>HasOf_any A o.fr.length c o.fr v W (hg.toGoodN.ext h) rfl (hi.1.rd.ext h) ho.fr ho.len h1 p4 h0)
 have COR:=Hy (fun (v:V4) (h0:v.err=0) (h1:v.a.size<=2097152) W (h:Ext w W)=>CompareOf_any v.a1 v.a2 v.a3 o.vv.a1 o.vv.a2 o.vv.a3 v.a o.vv.a W (hg.toGoodN.ext h) h1 ho.vv h0 p2)
 have HWAS:=Hy (was_casesN mc.inst n' hm.ei o.name)
 have HANY:=Hy (show anyF np (fun j=>(mc.pins.getD j zeroN).name.toList==o.name.toList&&!hasL (mc.pins.getD j zeroN).fr o.vv)=barL mc.pins o.name.toList o.vv from by
  rw[<-hm.ep];exact any_allF mc.pins (fun p=>p.name.toList==o.name.toList&&!hasL p.fr o.vv) zeroN)
 have HOKI:=Hy (fun i (hi:i < mc.inst.length)=>q2 i hi)
 have HMI:=Hy hm;have HSM:=Hy hs
 have hnl:n'<=2097152:=by rw[<-hm.ei];exact hs.li
 have hpl:np<=2097152:=by rw[<-hm.ep];exact hs.lp
 have CI:=Hy (fun W (h:Ext w W) g (hc:W.cell? ⟨g,0,none⟩=some (.string o.name))=>IndexIns_any mc.inst A' n' c' 134 g o.name W hm.ei (hm.ri.ext h) hnl (enters_of Tryz.func134 (by kernel_rfl) rfl) (fun x A1 m c1 b W' hw=>ft1_any x A1 m c1 b g o.name W' (hw.cell hc)))
 have CJ:=Hy (fun W (h:Ext w W) g (hc0:W.cell? ⟨g,0,none⟩=some (.string o.name)) (hc1:W.cell? ⟨g,1,none⟩=some (.int .i64 o.vv.a1)) (hc2:W.cell? ⟨g,2,none⟩=some (.int .i64 o.vv.a2)) (hc3:W.cell? ⟨g,3,none⟩=some (.int .i64 o.vv.a3)) (hc4:W.cell? ⟨g,4,none⟩=some (.string o.vv.a)) =>
  show Calls Tryz.prog 129 #[.slice Ap np cp,.func (.func 135) #[] #[.pointer (some ⟨g,0,none⟩)]] W fun e w'=>e=.returned (.bool (barL mc.pins o.name.toList o.vv))∧Ext W w' from by
   rw[<-HANY.out]
   have hen:=enters_of Tryz.func135 (by kernel_rfl) rfl
   rcases Nat.eq_zero_or_pos np with h0|h0
   ·exact ContainsFuncPn_any Ap np cp 0 0 _ _ _ W (fun h=>by omega) hpl hen (fun k hk=>by omega)
   ·have hnp:=hm.ep
    obtain⟨b,q,e,hX⟩:=hm.rp (fun e=>by rw[e] at hnp;simp at hnp;omega)
    refine ContainsFuncPn_any Ap np cp b q _ _ _ W (fun _=>e) hpl hen (fun k hk=>?_)
    have hk1:k < mc.pins.length:=by omega
    obtain⟨A1,c1,hrow⟩:=hX k hk1
    have hp:=hs.pins.each _ (List.getElem_mem hk1)
    refine⟨_,fun W' hw=>(hrow.ext (h.trans hw)).load,fun W' hw=>?_⟩
    have e2:mc.pins.getD k zeroN=mc.pins[k]:=by simp[List.getD,List.getElem?_eq_getElem hk1]
    rw[e2]
    exact ft2_any mc.pins[k] A1 c1 g o.name o.vv W' (hg.toGoodN.ext (h.trans hw)) (hrow.has.ext (h.trans hw)) hp.2.1 hp.2.2 (pin_ok q5 hk1) ho.vv p2 (hw.cell hc0) (hw.cell hc1) (hw.cell hc2) (hw.cell hc3) (hw.cell hc4))
 have HNI:=Hy hm.ei;have HNP:=Hy hm.ep
 clear hg hi ho he hm hs q1 q2 q3 q4 q5 p1 p2 p3 p4 p5 p6 HANY
 obtain⟨HO,hHO⟩:∃ X,holdsC (tbl mc.facts) (tbl mc.sets) o.wh=X:=⟨_,rfl⟩
 rw[hHO] at CH ⊢
 clear hHO
 obtain⟨PV,hPV⟩:∃ X,placeV mc.name o.name o.vv=X:=⟨_,rfl⟩
 rw[hPV] at CP ⊢
 clear hPV
 obtain⟨SV,hSV⟩:∃ X,shareL o t=X:=⟨_,rfl⟩
 rw[hSV] at CS ⊢
 clear hSV
 obtain⟨WAS,hW⟩:∃ X,wasL mc.inst o.name.toList=X:=⟨_,rfl⟩
 rw[hW] at HWAS ⊢
 clear hW
 obtain⟨BAR,hB⟩:∃ X,barL mc.pins o.name.toList o.vv=X:=⟨_,rfl⟩
 rw[hB] at CJ ⊢
 clear hB
 generalize findF n' (insP mc.inst o.name)=I at *
 obtain⟨FR,hFR⟩:∃ X,frL o WAS=X:=⟨_,rfl⟩
 obtain⟨OD,hOD⟩:∃ X,oldL o WAS=X:=⟨_,rfl⟩
 have HWC:=Hy (show (I=-1∧FR=o.nw∧OD=false)∨∃ i,∃ h:i < mc.inst.length,I=i∧FR=hasL o.fr mc.inst[i].vv∧OD=(decide (0<=wayL o mc.inst[i].vv)&&!(decide (0 < wayL o mc.inst[i].vv)&&o.back)) from by
  rcases HWAS.out with ⟨h1,h2⟩|⟨i,hi,h1,h2⟩
  ·exact .inl ⟨h1,by rw[<-hFR,h2];rfl,by rw[<-hOD,h2];rfl⟩
  ·exact .inr ⟨i,hi,h1,by rw[<-hFR,h2];rfl,by rw[<-hOD,h2];rfl⟩)
 rw[hFR,hOD]
 have HWY:=Hy (fun v=>show wayL o v=orderL v.a1 v.a2 v.a3 (bs v.a) o.vv.a1 o.vv.a2 o.vv.a3 (bs o.vv.a) from rfl)
 obtain⟨BR,hBR⟩:∃ X,(BAR&&!o.urg)=X:=⟨_,rfl⟩
 have HBR:=Hy hBR
 rw[hBR]
 clear hFR hOD HWAS hBR
 obtain⟨TH,V,hTV⟩:∃ (TH:Bool) (V:V4),(TH=false∧I=-1∧V=⟨0,0,0,⟨#[]⟩⟩∧FR=o.nw∧OD=false)∨(TH=true∧(∃ i,∃ h:i < mc.inst.length,I=i∧V=mc.inst[i].vv)∧FR=hasL o.fr V∧OD=(decide (0<=wayL o V)&&!(decide (0 < wayL o V)&&o.back))):=by
  rcases HWC.out with ⟨h1,h2,h3⟩|⟨i,hi,h1,h2,h3⟩
  ·exact⟨false,_,.inl ⟨rfl,h1,rfl,h2,h3⟩⟩
  ·exact⟨true,mc.inst[i].vv,.inr ⟨rfl,⟨i,hi,h1,rfl⟩,h2,h3⟩⟩
 have HTV:=Hy hTV
 have HVO:=Hy (show TH=true->V.err=0∧V.a.size<=2097152 from fun h=>by
  rcases hTV with ⟨h1,_⟩|⟨_,⟨i,hi,_,e⟩,_⟩
  ·rw[h] at h1;cases h1
  ·rw[e];exact⟨HOKI.out i hi,(HSM.out.inst _ (List.getElem_mem hi)).2⟩)
 clear hTV HWC
 obtain⟨mn,mi,mf,ms,mp⟩:=mc
 have HFL:=Hy (show o.fr.length=o.fr.length from rfl)
 obtain⟨on,⟨o1,o2,o3,oa⟩,os,of_,ow,od,ob,ot,og,oh,ou,ok⟩:=o
 dsimp only[ofV] at *
 generalize of_.length=ol at *
 dsimp only[macV] at *
 go_enter Tryz.func63,Tryz.ntmps63
 go_upto_region 0 with fail
 go_cut [3,4] (fun s3 s4 wx=>s3=.pointer (some ⟨w.heap.size,0,none⟩)∧s4=.pointer (some ⟨w.heap.size+1,0,none⟩)∧Hid (Blk wx w.heap.size 66 #[.string on,.int .i64 o1,.int .i64 o2,.int .i64 o3,.string oa,.string os,.slice A ol c,.bool ow,.int .i64 k,.string n,.string x,.slice A2 m c2,.int .i64 ob,.int .i64 ot,.int .i64 og,.bool oh,.bool ou,.bool ok])∧Hid (Blk wx (w.heap.size+1) 96 #[.string mn,.slice A' n' c',.slice Af nf cf,.slice As ns cs,.slice Ap np cp])∧Ext w wx)
 case first=>as_aux_lemma =>
  go_wp2_with fail
  go_meet
  case rel=>exact⟨rfl,by simp,Hy ((Blk.new w _ _).alloc _),Hy (by have:=Blk.new (w.alloc (.cells #[.string on,.int .i64 o1,.int .i64 o2,.int .i64 o3,.string oa,.string os,.slice A ol c,.bool ow,.int .i64 k,.string n,.string x,.slice A2 m c2,.int .i64 ob,.int .i64 ot,.int .i64 og,.bool oh,.bool ou,.bool ok] 66)) 96 #[.string mn,.slice A' n' c',.slice Af nf cf,.slice As ns cs,.slice Ap np cp];rwa [World.size_alloc] at this),((Ext.refl _).alloc _).alloc _⟩
 case rest =>
 obtain⟨rfl,rfl,HBO,HBM,hx1⟩:=hcut
 obtain⟨w1,rfl⟩:∃ w1:World,w1=wc:=⟨_,rfl⟩
 go_upto_region 1 with fail
 go_cut [7] (fun s wx=>s=.int .i64 I∧Ext w1 wx)
 case first=>as_aux_lemma =>
  have e1:=HBM.out.cell;have l1:=HBM.out.lt
  go_wp2_with fail
  refine (CI.out _ hx1 _ (HBO.out.cell 0)).mono ?_
  rintro e w2 ⟨rfl,hx2⟩
  go_wp2_with fail
  go_meet
  case rel=>exact⟨rfl,hx2⟩
 case rest =>
 obtain⟨rfl,hx2⟩:=hcut
 obtain⟨w2,rfl⟩:∃ w2:World,w2=wc:=⟨_,rfl⟩
 have hxw2:=hx1.trans hx2
 have HO2:=Hy (HBO.out.ext hx2);have HM2:=Hy (HBM.out.ext hx2)
 clear HBO HBM CI
 go_upto_region 2 with fail
 go_cut [8] (fun s wx=>s=.bool TH∧wx=w2)
 case first=>as_aux_lemma =>
  rcases HTV.out with ⟨h1,rfl,-⟩|⟨h1,⟨i,_,rfl,-⟩,-⟩
  ·have H1:=Hy h1
   clear h1
   go_wp2_with fail
   go_meet
   case rel=>exact⟨by rw[H1.out],rfl⟩
  ·have H1:=Hy h1
   have jl:(0:Int)<=(i:Int):=by omega
   clear h1
   go_wp2_with fail
   go_meet
   case rel=>exact⟨by rw[H1.out],rfl⟩
 case rest =>
 obtain⟨rfl,rfl⟩:=hcut
 obtain⟨w2,rfl⟩:∃ w2:World,w2=wc:=⟨_,rfl⟩
 go_upto_region 3 with fail
 go_cut [9] (fun s wx=>s=.pointer (some ⟨w2.heap.size,0,none⟩)∧Hid (Blk wx w2.heap.size 23 #[.int .i64 0,.int .i64 0,.int .i64 0,.string ⟨#[]⟩])∧Ext w2 wx)
 case first=>as_aux_lemma =>
  go_wp2_with fail
  go_meet
  case rel=>exact⟨rfl,Hy (Blk.new _ _ _),(Ext.refl _).alloc _⟩
 case rest =>
 obtain⟨rfl,HBV,hx3⟩:=hcut
 obtain⟨w3,rfl⟩:∃ w3:World,w3=wc:=⟨_,rfl⟩
 have HM3:=Hy (HM2.out.ext hx3)
 go_upto_if 18 with fail
 go_cut [] (fun wx=>Hid (Blk wx w2.heap.size 23 #[.int .i64 V.a1,.int .i64 V.a2,.int .i64 V.a3,.string V.a])∧Ext w2 wx)
 case first=>as_aux_lemma =>
  rcases HTV.out with ⟨h1,-,rfl,-⟩|⟨h1,⟨i,hi,rfl,rfl⟩,-⟩
  ·subst h1
   go_wp2_with fail
   go_meet
   case rel=>exact⟨HBV,hx3⟩
  ·subst h1
   have hni:i < n':=by rw[<-HNI.out];exact hi
   obtain⟨gI,i0,rfl,hX⟩:=HMI.out.ri (fun e=>by have:mi=[]:=e;rw[this] at hi;exact absurd hi (Nat.not_lt_zero _))
   (try dsimp only at hX);(try dsimp only at hi)
   obtain⟨A1,m1,c1,wt,hrow⟩:=hX i hi
   have LV:=(hrow.ext (hxw2.trans hx3)).ver
   have lg:=lt_of_cell ((hrow.ext (hxw2.trans hx3)) 0 _ rfl)
   clear hX hrow
   (try dsimp only)
   generalize mi[i].vv=v at *
   obtain⟨v1,v2,v3,va⟩:=v
   (try dsimp only at LV);(try dsimp only)
   have jl:(0:Int)<=(i:Int):=by omega
   have jn:(i:Int) < (n':Int):=by omega
   have h31:=HM3.out.cell;have k31:=HM3.out.lt
   have hV:=HBV.out.cell;have fV:=HBV.out.free;have kV:=HBV.out.lt
   have hEX:Ext w2 ((((w3.setCell ⟨w2.heap.size,0,none⟩ (.int .i64 v1)).setCell ⟨w2.heap.size,0+1,none⟩ (.int .i64 v2)).setCell ⟨w2.heap.size,0+2,none⟩ (.int .i64 v3)).setCell ⟨w2.heap.size,0+3,none⟩ (.string va)):=(((hx3.setCell (Nat.le_refl _) _).setCell (Nat.le_refl _) _).setCell (Nat.le_refl _) _).setCell (Nat.le_refl _) _
   have BV:=(((HBV.out.set 0 (.int .i64 v1)).set (0+1) (.int .i64 v2)).set (0+2) (.int .i64 v3)).set (0+3) (.string va)
   have HR:=Hy (And.intro BV hEX)
   clear BV hEX
   go_wp2_with (refine wpList_load_at rfl _ _ rfl _ rfl _ LV ?_)
   go_meet
   case rel=>exact⟨Hy HR.out.1,HR.out.2⟩
 case rest =>
 clear HBV HM3 hx3
 obtain⟨HBV,hx3⟩:=hcut
 obtain⟨w3,rfl⟩:∃ w3:World,w3=wc:=⟨_,rfl⟩
 have hxw3:=hxw2.trans hx3
 have HO3:=Hy (HO2.out.ext hx3);have HM3:=Hy (HM2.out.ext hx3)
 clear HO2 HM2
 go_upto_region 6 with fail
 go_cut [10] (fun s wx=>s=.bool BAR∧Ext w3 wx)
 case first=>as_aux_lemma =>
  have h31:=HM3.out.cell;have k31:=HM3.out.lt
  go_wp2_with fail
  refine (CJ.out _ hxw3 _ (HO3.out.cell 0) (HO3.out.cell 1) (HO3.out.cell 2) (HO3.out.cell 3) (HO3.out.cell 4)).mono ?_
  rintro e w4 ⟨rfl,hx4⟩
  go_wp2_with fail
  go_meet
  case rel=>exact⟨rfl,hx4⟩
 case rest =>
 obtain⟨rfl,hx4⟩:=hcut
 obtain⟨w4,rfl⟩:∃ w4:World,w4=wc:=⟨_,rfl⟩
 have hxw4:=hxw3.trans hx4
 have HO4:=Hy (HO3.out.ext hx4);have HM4:=Hy (HM3.out.ext hx4);have HV4:=Hy (HBV.out.ext hx4)
 clear HO3 HM3 HBV CJ
 obtain⟨V1,V2,V3,Va⟩:=V
 dsimp only at HV4
 obtain⟨OR,hOR⟩:∃ X,(if TH=true then orderL V1 V2 V3 (bs Va) o1 o2 o3 (bs oa) else 0)=X:=⟨_,rfl⟩
 have HOR:=Hy hOR
 clear hOR
 have h40:=HO4.out.cell;have k40:=HO4.out.lt;have h4V:=HV4.out.cell;have k4V:=HV4.out.lt
 go_upto_if 29 with fail
 go_cut [11] (fun s wx=>s=.int .i64 OR∧Ext w4 wx)
 case first=>as_aux_lemma =>
  cases TH
  ·have HQ:=Hy (show OR=0 from by rw[<-HOR.out];rfl)
   go_wp2_with fail
   go_meet
   case rel=>exact⟨by rw[HQ.out],Ext.refl _⟩
  ·have HQ:=Hy (show orderL V1 V2 V3 (bs Va) o1 o2 o3 (bs oa)=OR from HOR.out)
   have hv:=HVO.out (by trivial)
   have CO1:=Hy (COR.out ⟨V1,V2,V3,Va⟩ hv.1 hv.2 w4 hxw4)
   dsimp only at CO1
   rw[HQ.out] at CO1
   clear hv
   go_wp2_with fail
   refine CO1.out.mono ?_
   rintro e w5 ⟨rfl,hx5⟩
   go_wp2_with fail
   go_meet
   case rel=>exact⟨rfl,hx5⟩
 case rest =>
 clear h40 k40 h4V k4V
 obtain⟨rfl,hx5⟩:=hcut
 obtain⟨w5,rfl⟩:∃ w5:World,w5=wc:=⟨_,rfl⟩
 have hxw5:=hxw4.trans hx5
 have HO5:=Hy (HO4.out.ext hx5);have HM5:=Hy (HM4.out.ext hx5);have HV5:=Hy (HV4.out.ext hx5)
 have HF:=Hy (show TH=false->FR=ow∧OD=false from fun h=>by
  rcases HTV.out with ⟨_,_,_,h1,h2⟩|⟨h0,_⟩
  ·exact⟨h1,h2⟩
  ·rw[h] at h0;cases h0)
 have HT2:=Hy (show TH=true->FR=hasL of_ ⟨V1,V2,V3,Va⟩∧OD=(decide (0<=OR)&&!(decide (0 < OR)&&ok)) from fun h=>by
  rcases HTV.out with ⟨h0,_⟩|⟨_,_,h1,h2⟩
  ·rw[h] at h0;cases h0
  ·refine⟨h1,?_⟩
   rw[HWY.out] at h2
   have hor:=HOR.out
   rw[if_pos h] at hor
   dsimp only at h2
   rw[hor] at h2
   exact h2)
 clear HO4 HM4 HV4 HTV HOR HWY COR
 have h50:=HO5.out.cell;have k50:=HO5.out.lt
 cases oh
 rotate_left
 ·go_wp2
  go_ret
  exact⟨ret_int (by simp[whyL]),hxw5⟩
 by_cases ht0:t < ob
 ·have HT:=Hy ht0
  go_wp2
  go_ret
  exact⟨ret_int (by simp[whyL]),hxw5⟩
 have HT:=Hy ht0
 have h5V:=HV5.out.cell;have k5V:=HV5.out.lt
 go_upto_region 14 with fail
 go_cut [42] (fun s wx=>s=.bool (!FR)∧Ext w5 wx)
 case first=>as_aux_lemma =>
  cases TH
  ·have HQ:=Hy (show FR=ow from (HF.out (by trivial)).1)
   go_wp2_with fail
   go_meet
   case rel=>exact⟨by rw[HQ.out],Ext.refl _⟩
  ·have HQ:=Hy (show FR=hasL of_ ⟨V1,V2,V3,Va⟩ from (HT2.out (by trivial)).1)
   have hv:=HVO.out (by trivial)
   have CH1:=Hy (CHR.out ⟨V1,V2,V3,Va⟩ hv.1 hv.2 w5 hxw5)
   dsimp only[verV] at CH1
   clear hv
   generalize hasL of_ ⟨V1,V2,V3,Va⟩=HV at *
   go_wp2_with fail
   refine CH1.out.mono ?_
   rintro e w6 ⟨rfl,hx6⟩
   cases HV
   ·go_wp2_with fail
    go_meet
    case rel=>exact⟨by rw[HQ.out];rfl,hx6⟩
   ·go_wp2_with fail
    go_meet
    case rel=>exact⟨by rw[HQ.out];rfl,hx6⟩
 case rest =>
 clear h50 k50 h5V k5V
 obtain⟨rfl,hx6⟩:=hcut
 obtain⟨w6,rfl⟩:∃ w6:World,w6=wc:=⟨_,rfl⟩
 have hxw6:=hxw5.trans hx6
 have HO6:=Hy (HO5.out.ext hx6);have HM6:=Hy (HM5.out.ext hx6)
 clear HO5 HM5 HV5 CHR HVO
 have HF2:=Hy (fun h=>(HF.out h).2);have HT3:=Hy (fun h=>(HT2.out h).2)
 clear HF HT2
 cases FR
 ·go_wp2
  go_ret
  exact⟨ret_int (by simp[whyL,HT.out]),hxw6⟩
 have h50:=HO6.out.cell;have k50:=HO6.out.lt
 go_upto_region 16 with fail
 go_cut [60] (fun s wx=>s=.bool OD∧wx=w6)
 case first=>as_aux_lemma =>
  cases TH
  ·have HQ:=Hy (show OD=false from HF2.out (by trivial))
   go_wp2_with fail
   go_meet
   case rel=>exact⟨by rw[HQ.out],rfl⟩
  ·have HQ:=Hy (HT3.out (by trivial))
   by_cases z0:(0:Int)<=OR
   ·by_cases z1:(0:Int) < OR
    ·have HQ2:=Hy (show OD=!ok from by rw[HQ.out];simp[z0,z1])
     go_wp2_with fail
     go_meet
     case rel=>exact⟨by rw[HQ2.out],rfl⟩
    ·have HQ2:=Hy (show OD=true from by rw[HQ.out];simp[z0,z1])
     go_wp2_with fail
     go_meet
     case rel=>exact⟨by rw[HQ2.out],rfl⟩
   ·have HQ2:=Hy (show OD=false from by rw[HQ.out];simp[z0])
    go_wp2_with fail
    go_meet
    case rel=>exact⟨by rw[HQ2.out],rfl⟩
 case rest =>
 obtain⟨rfl,rfl⟩:=hcut
 obtain⟨w6,rfl⟩:∃ w6:World,w6=wc:=⟨_,rfl⟩
 clear HF2 HT3
 cases OD
 rotate_left
 ·go_wp2
  go_ret
  exact⟨ret_int (by simp[whyL,HT.out]),hxw6⟩
 have h50:=HO6.out.cell;have k50:=HO6.out.lt;have h5M:=HM6.out.cell;have k5M:=HM6.out.lt
 go_upto_region 18 with fail
 refine wp_region_growT [10] [] (fun _=>True) (tops:=[_]) (by kernel_rfl) (by kernel_rfl) rfl ?_
 apply Exists.intro
 repeat (first|(apply growT_tail (by rfl);(try simp only[Act.put,List.setIfInBounds_toArray,List.set_cons_zero,List.set_cons_succ]))|(apply growT_skip;(focus exact rfl);(try simp only[Act.put,List.setIfInBounds_toArray,List.set_cons_zero,List.set_cons_succ]))|(apply growT_call (β:=Nat) (d:=0) (val:=fun b=>.map (some b)) (fact:=fun b=>mapFact b nf (tbl mf)) (by rfl) (by rfl) (by rfl) (by intro wq;go_simp;first|exact⟨rfl,rfl⟩|rfl) (by intro wq hwq;go_at_call 138;(with_reducible refine (CF1.out wq (hxw6.trans hwq.ext)).mono ?_);exact fun e w'' h=>by obtain⟨rfl,h1,h2⟩:=h;exact⟨h2,wq.heap.size,rfl,h1⟩);intro bf;(try simp only[Act.put,List.setIfInBounds_toArray,List.set_cons_zero,List.set_cons_succ]))|(apply growT_call (β:=Nat) (d:=0) (val:=fun b=>.map (some b)) (fact:=fun b=>mapFact b ns (tbl ms)) (by rfl) (by rfl) (by rfl) (by intro wq;go_simp;first|exact⟨rfl,rfl⟩|rfl) (by intro wq hwq;go_at_call 138;(with_reducible refine (CF2.out wq (hxw6.trans hwq.ext)).mono ?_);exact fun e w'' h=>by obtain⟨rfl,h1,h2⟩:=h;exact⟨h2,wq.heap.size,rfl,h1⟩);intro bf;(try simp only[Act.put,List.setIfInBounds_toArray,List.set_cons_zero,List.set_cons_succ]))|(apply growT_late (by rfl) (by rfl);(focus exact rfl);(focus (intro wq hq;first|(go_simp;done)|(go_simp;rfl)|(rcases hq with hq|hq;rotate_left;(focus ((try dsimp only at hq);go_simp;try rfl));(focus ((obtain⟨hqc,hqf⟩:=hq.ext.cells);have hqs:=hq.ext.size;go_simp;try rfl)))));(try simp only[Act.put,List.setIfInBounds_toArray,List.set_cons_zero,List.set_cons_succ]))|(apply growT_one (by rfl) (by rfl);(focus exact rfl);(focus (intro wq hwq;(obtain⟨hqc,hqf⟩:=hwq.ext.cells);have hqs:=hwq.ext.size;unfold Oper.quietAt;(try go_simp);first|rfl|(go_at_call 137;exact (CH.out _ (hxw6.trans hwq.ext) _ _ (hwq.facts 4 rfl) (hwq.facts 7 rfl)))));(try simp only[Act.put,List.setIfInBounds_toArray,List.set_cons_zero,List.set_cons_succ]))|(apply growT_new (by rfl) (by rfl);(focus exact rfl);(focus (intro wq;go_simp;first|exact⟨⟨rfl,rfl⟩,rfl⟩|exact⟨rfl,rfl⟩|rfl));intro b;(try simp only[Act.put,List.setIfInBounds_toArray,List.set_cons_zero,List.set_cons_succ])))
 refine growT_nil ?_
 intro wN hxN hFN
 refine wpTail_of_list (ops:=#[]) _ _ _ rfl ?_
 go_wp2_with fail
 refine OnlyNormal.intro ?_
 have hO7:=HO6.out.ext hxN;have hM7:=HM6.out.ext hxN
 have hxw7:=hxw6.trans hxN
 clear h50 k50 h5M k5M CH CF1 CF2 hFN
 have h70:=hO7.cell;have k70:=hO7.lt;have h7M:=hM7.cell;have k7M:=hM7.lt
 cases HO
 ·go_wp2
  go_ret
  exact⟨ret_int (by simp[whyL,HT.out]),hxw7⟩
 go_upto_region 20 with fail
 go_cut [86] (fun s wx=>s=.bool BR∧wx=wN)
 case first=>as_aux_lemma =>
  cases BAR
  ·have HQ:=Hy (show BR=false from by rw[<-HBR.out];rfl)
   go_wp2_with fail
   go_meet
   case rel=>exact⟨by rw[HQ.out],rfl⟩
  ·have HQ:=Hy (show BR=!ou from by rw[<-HBR.out];rfl)
   go_wp2_with fail
   go_meet
   case rel=>exact⟨by rw[HQ.out],rfl⟩
 case rest =>
 obtain⟨rfl,rfl⟩:=hcut
 cases BR
 rotate_left
 ·go_wp2
  go_ret
  exact⟨ret_int (by simp[whyL,HT.out]),hxw7⟩
 have LO:∀ W,Ext wc W->(loadVar 66 ⟨w.heap.size,0,none⟩).run Tryz.prog W=_:=fun W h=>load_blk (hO7.ext h) rfl
 go_upto_region 22 with fail
 refine wp_region_ext (by kernel_rfl) (by kernel_rfl) ?_
 repeat (first|go_big_quiet_skip|(refine wpQuiet_load (by rfl) _ _ rfl _ rfl _ LO ?_)|(refine wpQuiet_step (fun K hK=>?_);go_simp;first|(refine hK _ ?_;clear hK K)|(apply Exists.intro;refine⟨fun wq hwq=>?_,hK _ ?_⟩;(obtain⟨hqc,hqf⟩:=hwq.cells;have hqs:=hwq.size;(try go_simp);first|rfl|((first|rw[if_neg (by omega)]|rw[if_pos (by omega)]);(try go_simp);rfl)|((first|(go_at_call 49;exact (CP.out _ (hxw7.trans hwq)).mono (fun e w'' h=>⟨h.1,hwq.trans h.2⟩))|(go_at_call 52;exact (CS.out _).mono (fun e w'' h=>⟨h.1,hwq.trans h.2⟩)))));clear hK K)))
 refine wpQuiet_nil ?_
 intro wX hxX
 obtain⟨hcX,hfX⟩:=hxX.cells
 have hsX:=hxX.size
 by_cases hsp:SV<=PV
 ·have HP:=Hy hsp
  go_wp2
  go_ret
  exact⟨ret_int (by simp[whyL,HT.out,HP.out]),hxw7.trans hxX⟩
 ·have HP:=Hy hsp
  go_wp2
  go_ret
  exact⟨ret_int (by simp[whyL];rw[if_neg (by have:=HT.out;omega),if_neg (by have:=HP.out;omega)]),hxw7.trans hxX⟩
end Go.Proofs.YtmnafaaijglnfaaGreatDoor
