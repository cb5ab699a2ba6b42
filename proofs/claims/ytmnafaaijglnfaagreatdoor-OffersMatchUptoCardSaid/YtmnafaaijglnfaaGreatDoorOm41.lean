/- Contract of feed.fits. -/
import Derived.Test.YtmnafaaijglnfaaGreatDoorOm37
namespace Go.Proofs.YtmnafaaijglnfaaGreatDoor
open Go.RowKit
set_option maxHeartbeats 16000000 in
set_option maxRecDepth 100000 in
theorem fits_any (o:Of) (A:Option Addr) (c:Nat) (k:Int) (n x:ByteArray) (A2:Option Addr) (m c2:Nat) (mc:Mac) (A':Option Addr) (n' c':Nat) (Af:Option Addr) (nf cf:Nat) (As:Option Addr) (ns cs:Nat) (Ap:Option Addr) (np cp:Nat) (t:Int) (w:World) (hg:GoodN w) (hi:OfIn AnyB w o A k n x A2 m c2) (ho:SmallO o) (he:ofErr o=0) (hm:MacIn w mc A' n' Af nf As ns Ap np cp) (hs:SmallM mc) (hme:MacOk mc) (ht:0<=t∧t<=1099511627776) :
 Calls Tryz.prog 132 #[ofV o A c k n x A2 m c2,macV mc A' n' c' Af nf cf As ns cs Ap np cp,.int .i64 t] w fun e w'=>e=.returned (.int .i64 (fitL o (wasL mc.inst o.name.toList) mc (holdsC (tbl mc.facts) (tbl mc.sets) o.wh) t))∧Ext w w':=by
 unfold fitL
 obtain⟨q1,q2,q3,q4,q5⟩:=hme
 obtain⟨p1,p2,p3,p4,p5,p6⟩:=ofErr_parts he
 have hle:holdE o.wh mc.facts mc.sets=0:=by simp[holdE,firstI,p5,q3,q4]
 have HHO:=Hy (show holdR o.wh mc.facts mc.sets=holdsC (tbl mc.facts) (tbl mc.sets) o.wh from by unfold holdR;rw[if_pos hle])
 have CH:=Hy (fun W (h:Ext w W)=>show Calls Tryz.prog 201 #[.agg #[.int .i64 k,.string n,.string x,.slice A2 m c2],.slice Af nf cf,.slice As ns cs] W fun e w'=>e=.returned (.tuple #[.bool (holdsC (tbl mc.facts) (tbl mc.sets) o.wh),.int .i64 0])∧Ext W w' from by
  have:=Holds_any Af As nf ns cf cs mc.facts mc.sets o.wh _ AnyB W (hg.ext h) (hi.2.ext h) ho.wh ho.cnt hm.ef (hm.rf.ext h) hs.facts (by rw[<-hm.ef];exact hs.lf) hm.es (hm.rs.ext h) hs.sets (by rw[<-hm.es];exact hs.ls)
  rw[HHO.out,hle] at this
  exact this)
 have CP:=Hy (fun W (h:Ext w W)=>place_any mc.name o.name o.vv W (hg.ext h) hs.name ho.name ho.vv p2)
 have CS:=Hy (fun W=>shareAt_any o A c k n x A2 m c2 t W he ht)
 have CHR:=Hy (fun (v:V4) (h0:v.err=0) (h1:v.a.size<=2097152) W (h:Ext w W)=>show Calls Tryz.prog 205 #[.agg #[.slice A o.fr.length c],verV v] W fun e w'=>e=.returned (.tuple #[.bool (hasL o.fr v),.int .i64 0])∧Ext W w' from by
  have:=Has_any A o.fr.length c o.fr v W (hg.toGood.ext h) rfl (hi.1.rd.ext h) ho.fr ho.len h1
  rw[(hasE_c p4 h0).1,(hasE_c p4 h0).2] at this
  exact this)
 have CHP:=Hy (fun i (hi:i < mc.pins.length) A1 c1 W (h:Ext w W) (hr:RdS W A1 mc.pins[i].fr)=>show Calls Tryz.prog 205 #[.agg #[.slice A1 mc.pins[i].fr.length c1],verV o.vv] W fun e w'=>e=.returned (.tuple #[.bool (hasL mc.pins[i].fr o.vv),.int .i64 0])∧Ext W w' from by
  have hp:=hs.pins.each _ (List.getElem_mem hi)
  have:=Has_any A1 mc.pins[i].fr.length c1 mc.pins[i].fr o.vv W (hg.toGood.ext h) rfl hr hp.2.1 hp.2.2 ho.vv
  rw[(hasE_c (pin_ok q5 hi) p2).1,(hasE_c (pin_ok q5 hi) p2).2] at this
  exact this)
 have COR:=Hy (fun (v:V4) (h1:v.a.size<=2097152) W (h:Ext w W)=>Order_any v.a1 v.a2 v.a3 o.vv.a1 o.vv.a2 o.vv.a3 v.a o.vv.a W (hg.toGood.ext h) h1 ho.vv)
 have HWAS:=Hy (was_casesN mc.inst n' hm.ei o.name)
 have HBAR:=Hy (bar_casesN np hm.ep q5 o.name o.vv)
 have HOKI:=Hy (fun i (hi:i < mc.inst.length)=>q2 i hi)
 have HMI:=Hy hm;have HSM:=Hy hs
 have hnl:n'<=2097152:=by rw[<-hm.ei];exact hs.li
 have hpl:np<=2097152:=by rw[<-hm.ep];exact hs.lp
 have CI:=Hy (fun W (h:Ext w W) g (hc:W.cell? ⟨g,0,none⟩=some (.string o.name))=>IndexIns_any mc.inst A' n' c' 203 g o.name W hm.ei (hm.ri.ext h) hnl (enters_of Tryz.func203 (by kernel_rfl) rfl) (fun x A1 m c1 b W' hw=>fits1_any x A1 m c1 b g o.name W' (hw.cell hc)))
 have CJ:=Hy (fun W (h:Ext w W) g (hc:W.cell? ⟨g,0,none⟩=some (.string o.name))=>IndexPin_any mc.pins Ap np cp 204 g o.name W hm.ep (hm.rp.ext h) hpl (enters_of Tryz.func204 (by kernel_rfl) rfl) (fun x A1 c1 W' hw=>fits2_any x A1 c1 g o.name W' (hw.cell hc)))
 have HNI:=Hy hm.ei;have HNP:=Hy hm.ep
 clear hg hi ho he hm hs q1 q2 q3 q4 q5 p1 p2 p3 p4 p5 p6 hle HHO
 obtain⟨HO,hHO⟩:∃ X,holdsC (tbl mc.facts) (tbl mc.sets) o.wh=X:=⟨_,rfl⟩
 rw[hHO] at CH ⊢
 clear hHO
 obtain⟨PV,hPV⟩:∃ X,placeV mc.name o.name o.vv=X:=⟨_,rfl⟩
 rw[hPV] at CP ⊢
 clear hPV
 obtain⟨SV,hSV⟩:∃ X,shareL o t=X:=⟨_,rfl⟩
 rw[hSV] at CS ⊢
 clear hSV
 obtain⟨WAS,hW⟩:∃ X,wasL mc.inst o.name.toList=X:=⟨_,rfl⟩
 rw[hW] at HWAS ⊢
 clear hW
 obtain⟨BAR,hB⟩:∃ X,barL mc.pins o.name.toList o.vv=X:=⟨_,rfl⟩
 rw[hB] at HBAR ⊢
 clear hB
 generalize findF n' (insP mc.inst o.name)=I at *
 generalize findF np (pinP mc.pins o.name)=J at *
 obtain⟨FR,hFR⟩:∃ X,frL o WAS=X:=⟨_,rfl⟩
 obtain⟨OD,hOD⟩:∃ X,oldL o WAS=X:=⟨_,rfl⟩
 have HWC:=Hy (show (I=-1∧FR=o.nw∧OD=false)∨∃ i,∃ h:i < mc.inst.length,I=i∧FR=hasL o.fr mc.inst[i].vv∧OD=(decide (0<=wayL o mc.inst[i].vv)&&!(decide (0 < wayL o mc.inst[i].vv)&&o.back)) from by
  rcases HWAS.out with ⟨h1,h2⟩|⟨i,hi,h1,h2⟩
  ·exact .inl ⟨h1,by rw[<-hFR,h2];rfl,by rw[<-hOD,h2];rfl⟩
  ·exact .inr ⟨i,hi,h1,by rw[<-hFR,h2];rfl,by rw[<-hOD,h2];rfl⟩)
 rw[hFR,hOD]
 have HWY:=Hy (fun v=>show wayL o v=orderL v.a1 v.a2 v.a3 (bs v.a) o.vv.a1 o.vv.a2 o.vv.a3 (bs o.vv.a) from rfl)
 obtain⟨BR,hBR⟩:∃ X,(BAR&&!o.urg)=X:=⟨_,rfl⟩
 have HBR:=Hy hBR
 rw[hBR]
 clear hFR hOD HWAS hBR
 obtain⟨mn,mi,mf,ms,mp⟩:=mc
 have HFL:=Hy (show o.fr.length=o.fr.length from rfl)
 obtain⟨on,⟨o1,o2,o3,oa⟩,os,of_,ow,od,ob,ot,og,oh,ou,ok⟩:=o
 dsimp only[ofV] at *
 generalize of_.length=ol at *
 dsimp only[macV] at *
 go_enter Tryz.func132,Tryz.ntmps132
 go_upto_region 0 with fail
 go_cut [3,4] (fun s3 s4 wx=>s3=.pointer (some ⟨w.heap.size,0,none⟩)∧s4=.pointer (some ⟨w.heap.size+1,0,none⟩)∧Hid (Blk wx w.heap.size 66 #[.string on,.int .i64 o1,.int .i64 o2,.int .i64 o3,.string oa,.string os,.slice A ol c,.bool ow,.int .i64 k,.string n,.string x,.slice A2 m c2,.int .i64 ob,.int .i64 ot,.int .i64 og,.bool oh,.bool ou,.bool ok])∧Hid (Blk wx (w.heap.size+1) 96 #[.string mn,.slice A' n' c',.slice Af nf cf,.slice As ns cs,.slice Ap np cp])∧Ext w wx)
 case first=>as_aux_lemma =>
  go_wp2_with fail
  go_meet
  case rel=>exact⟨rfl,by simp,Hy ((Blk.new w _ _).alloc _),Hy (by have:=Blk.new (w.alloc (.cells #[.string on,.int .i64 o1,.int .i64 o2,.int .i64 o3,.string oa,.string os,.slice A ol c,.bool ow,.int .i64 k,.string n,.string x,.slice A2 m c2,.int .i64 ob,.int .i64 ot,.int .i64 og,.bool oh,.bool ou,.bool ok] 66)) 96 #[.string mn,.slice A' n' c',.slice Af nf cf,.slice As ns cs,.slice Ap np cp];rwa [World.size_alloc] at this),((Ext.refl _).alloc _).alloc _⟩
 case rest =>
 obtain⟨rfl,rfl,HBO,HBM,hx1⟩:=hcut
 obtain⟨w1,rfl⟩:∃ w1:World,w1=wc:=⟨_,rfl⟩
 go_upto_region 1 with fail
 go_cut [7] (fun s wx=>s=.int .i64 I∧Ext w1 wx)
 case first=>as_aux_lemma =>
  have e1:=HBM.out.cell;have l1:=HBM.out.lt
  go_wp2_with fail
  refine (CI.out _ hx1 _ (HBO.out.cell 0)).mono ?_
  rintro e w2 ⟨rfl,hx2⟩
  go_wp2_with fail
  go_meet
  case rel=>exact⟨rfl,hx2⟩
 case rest =>
 obtain⟨rfl,hx2⟩:=hcut
 obtain⟨w2,rfl⟩:∃ w2:World,w2=wc:=⟨_,rfl⟩
 have hxw2:=hx1.trans hx2
 have HO2:=Hy (HBO.out.ext hx2);have HM2:=Hy (HBM.out.ext hx2)
 clear HBO HBM CI
 go_upto_region 2 with fail
 go_cut [8] (fun s wx=>s=.int .i64 J∧Ext w2 wx)
 case first=>as_aux_lemma =>
  have e1:=HM2.out.cell;have l1:=HM2.out.lt
  go_wp2_with fail
  refine (CJ.out _ hxw2 _ (HO2.out.cell 0)).mono ?_
  rintro e w3 ⟨rfl,hx3⟩
  go_wp2_with fail
  go_meet
  case rel=>exact⟨rfl,hx3⟩
 case rest =>
 obtain⟨rfl,hx3⟩:=hcut
 obtain⟨w3,rfl⟩:∃ w3:World,w3=wc:=⟨_,rfl⟩
 have hxw3:=hxw2.trans hx3
 have HO3:=Hy (HO2.out.ext hx3);have HM3:=Hy (HM2.out.ext hx3)
 clear HO2 HM2 CJ
 -- what is there
 have h30:=HO3.out.cell;have h31:=HM3.out.cell;have k30:=HO3.out.lt;have k31:=HM3.out.lt
 go_upto_if 28 with fail
 go_cut [9,10] (fun s9 s10 wx=>s9=.bool FR∧s10=.bool OD∧Ext w3 wx)
 case first=>as_aux_lemma =>
  rcases HWC.out with ⟨rfl,hf,hd⟩|⟨i,hi,rfl,hf,hd⟩
  ·go_wp2_with fail
   go_meet
   case rel=>exact⟨by rw[hf],by rw[hd],Ext.refl _⟩
  ·have hni:i < n':=by rw[<-HNI.out];exact hi
   obtain⟨gI,i0,rfl,hX⟩:=HMI.out.ri (fun e=>by have:mi=[]:=e;rw[this] at hi;exact absurd hi (Nat.not_lt_zero _))
   (try dsimp only at hX);(try dsimp only at hi)
   obtain⟨A1,m1,c1,wt,hrow⟩:=hX i hi
   have hv0:=HOKI.out i hi
   have hva:=(HSM.out.inst _ (List.getElem_mem hi)).2
   (try dsimp only at hv0);(try dsimp only at hva);(try dsimp only at hf);(try dsimp only at hd)
   have LV:∀ W,Ext w3 W->_:=fun W h=>(hrow.ext (hxw3.trans h)).ver
   have CH1:=Hy (fun W (h:Ext w3 W)=>CHR.out mi[i].vv hv0 hva W (hxw3.trans h))
   have CO1:=Hy (fun W (h:Ext w3 W)=>COR.out mi[i].vv hva W (hxw3.trans h))
   rw[HWY.out] at hd
   have HFD:=Hy (And.intro hf hd)
   clear hX hrow hv0 hva hf hd
   generalize mi[i].vv=v at *
   obtain⟨v1,v2,v3,va⟩:=v
   dsimp only[verV] at LV CH1 CO1 HFD
   generalize orderL v1 v2 v3 (bs va) o1 o2 o3 (bs oa)=Z at *
   obtain⟨HV,hHV⟩:∃ X,hasL of_ ⟨v1,v2,v3,va⟩=X:=⟨_,rfl⟩
   rw[hHV] at CH1 HFD
   clear hHV
   have jl:(0:Int)<=(i:Int):=by omega
   have jn:(i:Int) < (n':Int):=by omega
   have hd0:decide ((0:Int)<=(i:Int))=true:=decide_eq_true jl
   go_upto_region 5 with fail
   refine wp_region_ext (by kernel_rfl) (by kernel_rfl) ?_
   repeat (first|go_big_quiet_skip|(refine wpQuiet_load (by rfl) _ _ rfl _ rfl _ LV ?_)|(refine wpQuiet_step (fun K hK=>?_);go_simp;first|(refine hK _ ?_;clear hK K)|(apply Exists.intro;refine⟨fun wq hwq=>?_,hK _ ?_⟩;(obtain⟨hqc,hqf⟩:=hwq.cells;have hqs:=hwq.size;(try go_simp);first|rfl|((first|rw[if_neg (by omega)]|rw[if_pos (by omega)]);(try go_simp);rfl)|((go_at_call 205;exact (CH1.out _ hwq).mono (fun e w'' h=>⟨h.1,hwq.trans h.2⟩))));clear hK K)))
   refine wpQuiet_nil ?_
   intro wN hxN
   obtain⟨hcN,hfN⟩:=hxN.cells
   have hsN:=hxN.size
   have LV2:∀ W,Ext wN W->_:=fun W h=>LV W (hxN.trans h)
   have hO:=HO3.out.ext hxN;have hM:=HM3.out.ext hxN
   clear h30 h31 k30 k31
   have h40:=hO.cell;have h41:=hM.cell;have k40:=hO.lt;have k41:=hM.lt
   go_upto_region 6 with fail
   refine wp_region_ext (by kernel_rfl) (by kernel_rfl) ?_
   repeat (first|go_big_quiet_skip|(refine wpQuiet_load (by rfl) _ _ rfl _ rfl _ LV2 ?_)|(refine wpQuiet_step (fun K hK=>?_);go_simp;first|(refine hK _ ?_;clear hK K)|(apply Exists.intro;refine⟨fun wq hwq=>?_,hK _ ?_⟩;(obtain⟨hqc,hqf⟩:=hwq.cells;have hqs:=hwq.size;(try go_simp);first|rfl|((first|rw[if_neg (by omega)]|rw[if_pos (by omega)]);(try go_simp);rfl)|((go_at_call 73;exact (CO1.out _ (hxN.trans hwq)).mono (fun e w'' h=>⟨h.1,hwq.trans h.2⟩))));clear hK K)))
   refine wpQuiet_nil ?_
   intro wX hxX
   obtain⟨hcX,hfX⟩:=hxX.cells
   have hsX:=hxX.size
   have hOX:=hO.ext hxX
   clear h40 h41 k40 k41 hO hM
   have h40:=hOX.cell;have k40:=hOX.lt
   by_cases z0:(0:Int)<=Z
   ·by_cases z1:(0:Int) < Z
    ·have HQ:=Hy (show OD=!ok from by rw[HFD.out.2];simp[z0,z1])
     go_wp2_with fail
     go_meet
     case rel=>exact⟨by rw[HFD.out.1],by rw[HQ.out],hxN.trans hxX⟩
    ·have HQ:=Hy (show OD=true from by rw[HFD.out.2];simp[z0,z1])
     go_wp2_with fail
     go_meet
     case rel=>exact⟨by rw[HFD.out.1],by rw[HQ.out],hxN.trans hxX⟩
   ·have HQ:=Hy (show OD=false from by rw[HFD.out.2];simp[z0])
    go_wp2_with fail
    go_meet
    case rel=>exact⟨by rw[HFD.out.1],by rw[HQ.out],hxN.trans hxX⟩
 case rest =>
 clear h30 h31 k30 k31
 obtain⟨rfl,rfl,hx4⟩:=hcut
 obtain⟨w4,rfl⟩:∃ w4:World,w4=wc:=⟨_,rfl⟩
 have hxw4:=hxw3.trans hx4
 have HO4:=Hy (HO3.out.ext hx4);have HM4:=Hy (HM3.out.ext hx4)
 clear HO3 HM3 HWC CHR COR HWY HOKI
 -- pins
 obtain⟨JB,hJB⟩:∃ X,(decide ((0:Int)<=J)&&!ou)=X:=⟨_,rfl⟩
 have HJB:=Hy hJB
 clear hJB
 have h40:=HO4.out.cell;have h41:=HM4.out.cell;have k40:=HO4.out.lt;have k41:=HM4.out.lt
 go_upto_region 8 with fail
 go_cut [67] (fun s wx=>s=.bool JB∧wx=w4)
 case first=>as_aux_lemma =>
  by_cases hj:(0:Int)<=J
  ·cases ou
   all_goals
    go_wp2_with fail
    go_meet
    case rel=>exact⟨by rw[<-HJB.out,decide_eq_true (by omega)];rfl,rfl⟩
  ·go_wp2_with fail
   go_meet
   case rel=>exact⟨by rw[<-HJB.out,decide_eq_false (by omega)];rfl,rfl⟩
 case rest =>
 obtain⟨rfl,rfl⟩:=hcut
 go_upto_if 67 with fail
 go_cut [11] (fun s wx=>s=.bool BR∧Ext wc wx)
 case first=>as_aux_lemma =>
  cases JB
  ·have HQ:=Hy (show BR=false from by
    rw[<-HBR.out]
    rcases HBAR.out with ⟨h1,h2⟩|⟨i,hi,h1,h2⟩
    ·rw[h2];rfl
    ·have:=HJB.out
     rw[h1,decide_eq_true (by omega)] at this
     cases ou
     ·cases this
     ·simp)
   go_wp2_with fail
   go_meet
   case rel=>exact⟨by rw[HQ.out],Ext.refl _⟩
  ·have HOU:=Hy (show ou=false from by have:=HJB.out;cases ou<;>simp at this ⊢)
   rcases HBAR.out with ⟨h1,h2⟩|⟨i,hi,h1,h2⟩
   ·have:=HJB.out
    rw[h1] at this;simp at this
   ·subst h1
    have hni:i < np:=by rw[<-HNP.out];exact hi
    obtain⟨gP,i0,rfl,hX⟩:=HMI.out.rp (fun e=>by have:mp=[]:=e;rw[this] at hi;exact absurd hi (Nat.not_lt_zero _))
    (try dsimp only at hX);(try dsimp only at hi)
    obtain⟨A1,c1,hrow⟩:=hX i hi
    have LV:∀ W,Ext wc W->_:=fun W h=>(hrow.ext (hxw4.trans h)).rng
    have CH1:=Hy (fun W (h:Ext wc W)=>CHP.out i hi A1 c1 W (hxw4.trans h) (hrow.has.ext (hxw4.trans h)))
    have HQ:=Hy (show BR=!hasL mp[i].fr ⟨o1,o2,o3,oa⟩ from by rw[<-HBR.out,h2,HOU.out];simp)
    clear hX hrow h2
    generalize mp[i].fr=fr at *
    dsimp only[verV] at CH1
    generalize hasL fr ⟨o1,o2,o3,oa⟩=HV at *
    generalize fr.length=fl at *
    have jl:(0:Int)<=(i:Int):=by omega
    have jn:(i:Int) < (np:Int):=by omega
    go_upto_region 9 with fail
    refine wp_region_ext (by kernel_rfl) (by kernel_rfl) ?_
    repeat (first|go_big_quiet_skip|(refine wpQuiet_load (by rfl) _ _ rfl _ rfl _ LV ?_)|(refine wpQuiet_step (fun K hK=>?_);go_simp;first|(refine hK _ ?_;clear hK K)|(apply Exists.intro;refine⟨fun wq hwq=>?_,hK _ ?_⟩;(obtain⟨hqc,hqf⟩:=hwq.cells;have hqs:=hwq.size;(try go_simp);first|rfl|((first|rw[if_neg (by omega)]|rw[if_pos (by omega)]);(try go_simp);rfl)|((go_at_call 205;exact (CH1.out _ hwq).mono (fun e w'' h=>⟨h.1,hwq.trans h.2⟩))));clear hK K)))
    refine wpQuiet_nil ?_
    intro wN hxN
    obtain⟨hcN,hfN⟩:=hxN.cells
    have hsN:=hxN.size
    go_wp2_with fail
    go_meet
    case rel=>exact⟨by rw[HQ.out],hxN⟩
 case rest =>
 clear h40 h41 k40 k41 HBAR CHP HJB
 obtain⟨rfl,hx5⟩:=hcut
 obtain⟨w5,rfl⟩:∃ w5:World,w5=wc:=⟨_,rfl⟩
 have hxw5:=hxw4.trans hx5
 have HO5:=Hy (HO4.out.ext hx5);have HM5:=Hy (HM4.out.ext hx5)
 clear HO4 HM4 HBR
 go_upto_region 11 with fail
 go_cut [15] (fun s wx=>s=.bool HO∧Ext w5 wx)
 case first=>as_aux_lemma =>
  have h40:=HO5.out.cell;have h41:=HM5.out.cell;have k40:=HO5.out.lt;have k41:=HM5.out.lt
  go_wp2_with fail
  refine (CH.out _ hxw5).mono ?_
  rintro e w6 ⟨rfl,hx6⟩
  go_wp2_with fail
  go_meet
  case rel=>exact⟨rfl,hx6⟩
 case rest =>
 obtain⟨rfl,hx6⟩:=hcut
 obtain⟨w6,rfl⟩:∃ w6:World,w6=wc:=⟨_,rfl⟩
 have hxw6:=hxw5.trans hx6
 have hO:=HO5.out.ext hx6;have hM:=HM5.out.ext hx6
 clear HO5 HM5 CH
 have h40:=hO.cell;have h41:=hM.cell;have k40:=hO.lt;have k41:=hM.lt
 cases oh
 rotate_left
 ·go_wp2
  go_ret
  exact⟨ret_int (by simp[whyL]),hxw6⟩
 by_cases ht0:t < ob
 ·have HT:=Hy ht0
  go_wp2
  go_ret
  exact⟨ret_int (by simp[whyL]),hxw6⟩
 have HT:=Hy ht0
 cases FR
 ·go_wp2
  go_ret
  exact⟨ret_int (by simp[whyL,HT.out]),hxw6⟩
 cases OD
 rotate_left
 ·go_wp2
  go_ret
  exact⟨ret_int (by simp[whyL,HT.out]),hxw6⟩
 cases HO
 ·go_wp2
  go_ret
  exact⟨ret_int (by simp[whyL,HT.out]),hxw6⟩
 cases BR
 rotate_left
 ·go_wp2
  go_ret
  exact⟨ret_int (by simp[whyL,HT.out]),hxw6⟩
 have LO:∀ W,Ext w6 W->(loadVar 66 ⟨w.heap.size,0,none⟩).run Tryz.prog W=_:=fun W h=>load_blk (hO.ext h) rfl
 go_upto_region 24 with fail
 refine wp_region_ext (by kernel_rfl) (by kernel_rfl) ?_
 repeat (first|go_big_quiet_skip|(refine wpQuiet_load (by rfl) _ _ rfl _ rfl _ LO ?_)|(refine wpQuiet_step (fun K hK=>?_);go_simp;first|(refine hK _ ?_;clear hK K)|(apply Exists.intro;refine⟨fun wq hwq=>?_,hK _ ?_⟩;(obtain⟨hqc,hqf⟩:=hwq.cells;have hqs:=hwq.size;(try go_simp);first|rfl|((first|rw[if_neg (by omega)]|rw[if_pos (by omega)]);(try go_simp);rfl)|((first|(go_at_call 113;exact (CP.out _ (hxw6.trans hwq)).mono (fun e w'' h=>⟨h.1,hwq.trans h.2⟩))|(go_at_call 117;exact (CS.out _).mono (fun e w'' h=>⟨h.1,hwq.trans h.2⟩)))));clear hK K)))
 refine wpQuiet_nil ?_
 intro wN hxN
 obtain⟨hcN,hfN⟩:=hxN.cells
 have hsN:=hxN.size
 by_cases hsp:SV<=PV
 ·have HP:=Hy hsp
  go_wp2
  go_ret
  exact⟨ret_int (by simp[whyL,HT.out]),hxw6.trans hxN⟩
 ·have HP:=Hy hsp
  go_wp2
  go_ret
  exact⟨ret_int (by simp[whyL];rw[if_neg (by have:=HT.out;omega),if_neg (by have:=HP.out;omega)]),hxw6.trans hxN⟩
end Go.Proofs.YtmnafaaijglnfaaGreatDoor
