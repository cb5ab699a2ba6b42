/- Contract of feed.machineFault. -/
import Derived.Test.YtmnafaaijglnfaaGreatDoorOm32
namespace Go.Proofs.YtmnafaaijglnfaaGreatDoor
open Go.RowKit
structure MacIn (w:World) (m:Mac) (A:Option Addr) (n:Nat) (Af:Option Addr) (nf:Nat) (As:Option Addr) (ns:Nat) (Ap:Option Addr) (np cp:Nat):Prop where
 ei:m.inst.length=n
 ef:m.facts.length=nf
 es:m.sets.length=ns
 ep:m.pins.length=np
 ri:RdIns w A m.inst
 rf:RdE w Af m.facts
 rs:RdE w As m.sets
 rp:RdPin w Ap m.pins
 cap:np<=cp
theorem MacIn.ext {w w':World} {m:Mac} {A:Option Addr} {n:Nat} {Af:Option Addr} {nf:Nat} {As:Option Addr} {ns:Nat} {Ap:Option Addr} {np cp:Nat} (h:MacIn w m A n Af nf As ns Ap np cp) (hx:Ext w w'):MacIn w' m A n Af nf As ns Ap np cp :=
 ⟨h.ei,h.ef,h.es,h.ep,h.ri.ext hx,h.rf.ext hx,h.rs.ext hx,h.rp.ext hx,h.cap⟩
structure SmallM (m:Mac):Prop where
 name:m.name.size<=2097152
 inst:SmallI m.inst
 facts:SmallE m.facts
 sets:SmallE m.sets
 pins:SmallP m.pins
 li:m.inst.length<=2097152
 lf:m.facts.length<=2097152
 ls:m.sets.length<=2097152
 lp:m.pins.length<=2097152
abbrev macV (m:Mac) (A:Option Addr) (n c:Nat) (Af:Option Addr) (nf cf:Nat) (As:Option Addr) (ns cs:Nat) (Ap:Option Addr) (np cp:Nat):Value:=.agg #[.string m.name,.slice A n c,.slice Af nf cf,.slice As ns cs,.slice Ap np cp]
theorem insAt_get {l:List Ins} {k:Nat} (h:k < l.length):insAt l k=firstI [nmErr l[k].name,l[k].vv.err,if k=0 then 0 else insGap (l.getD (k - 1) zeroI).name l[k].name]:=by
 unfold insAt
 have e:l.getD k zeroI=l[k]:=by simp[List.getD,List.getElem?_eq_getElem h]
 rw[e]
theorem pinAt_get {l:List Pin} {k:Nat} (h:k < l.length):pinAt l k=firstI [nmErr l[k].name,if anyF k (fun j=>(l.getD j zeroN).name.toList==l[k].name.toList)=true then 6 else 0,rngErr l[k].fr]:=by
 unfold pinAt pinTwice
 have e:l.getD k zeroN=l[k]:=by simp[List.getD,List.getElem?_eq_getElem h]
 have e2:(l.take k).any (fun p=>p.name.toList==l[k].name.toList)=anyF k (fun j=>(l.getD j zeroN).name.toList==l[k].name.toList):=by
  have:=any_allF (l.take k) (fun p=>p.name.toList==l[k].name.toList) zeroN
  rw[<-this]
  have hlen:(l.take k).length=k:=by rw[List.length_take];omega
  rw[hlen]
  unfold anyF
  rw[Bool.eq_iff_iff,List.any_eq_true,List.any_eq_true]
  have hg:∀ j,j < k->(l.take k).getD j zeroN=l.getD j zeroN:=fun j hj=>by simp[List.getD,hj]
  constructor
  ·rintro ⟨j,hj,h⟩
   exact⟨j,hj,by rwa [hg j (List.mem_range.1 hj)] at h⟩
  ·rintro ⟨j,hj,h⟩
   exact⟨j,hj,by rwa [hg j (List.mem_range.1 hj)]⟩
 rw[e,e2]
theorem mat_name {m:Mac} {t:Int} (h:nameL (bs m.name)=false):matErr m t=5:=by simp[matErr,macErr,firstI,nmErr,h]
theorem mat_ins {m:Mac} {t:Int} (h:nameL (bs m.name)=true) (h1:¬ insErr m.inst=0):matErr m t=insErr m.inst:=by simp[matErr,macErr,firstI,nmErr,h,h1]
theorem mat_set {m:Mac} {t:Int} (h:nameL (bs m.name)=true) (h1:insErr m.inst=0) (h2:¬ firstI [0,seErr nameL m.facts,seErr pathL m.sets]=0):matErr m t=firstI [0,seErr nameL m.facts,seErr pathL m.sets]:=by
 simp only[firstI] at h2
 by_cases h3:seErr nameL m.facts=0
 ·by_cases h4:seErr pathL m.sets=0
  ·simp[h3,h4] at h2
  ·simp[matErr,macErr,firstI,nmErr,h,h1,h3,h4]
 ·simp[matErr,macErr,firstI,nmErr,h,h1,h3]
theorem mat_pin {m:Mac} {t:Int} (h:nameL (bs m.name)=true) (h1:insErr m.inst=0) (h2:firstI [0,seErr nameL m.facts,seErr pathL m.sets]=0) (h3:¬ pinErr m.pins=0):matErr m t=pinErr m.pins:=by
 have hh:=firstI_allO h2
 have ha:=hh (seErr nameL m.facts) (by simp);have hb:=hh (seErr pathL m.sets) (by simp)
 simp[matErr,macErr,firstI,nmErr,h,h1,ha,hb,h3]
theorem mat_time {m:Mac} {t:Int} (h:nameL (bs m.name)=true) (h1:insErr m.inst=0) (h2:firstI [0,seErr nameL m.facts,seErr pathL m.sets]=0) (h3:pinErr m.pins=0):matErr m t=timeErr t:=by
 have hh:=firstI_allO h2
 have ha:=hh (seErr nameL m.facts) (by simp);have hb:=hh (seErr pathL m.sets) (by simp)
 by_cases ht:timeErr t=0<;>simp[matErr,macErr,firstI,nmErr,h,h1,ha,hb,h3,ht]
set_option maxHeartbeats 16000000 in
set_option maxRecDepth 100000 in
theorem machineFault_any (m:Mac) (A:Option Addr) (n c:Nat) (Af:Option Addr) (nf cf:Nat) (As:Option Addr) (ns cs:Nat) (Ap:Option Addr) (np cp:Nat) (t:Int) (w:World) (hg:GoodN w) (hm:MacIn w m A n Af nf As ns Ap np cp) (hs:SmallM m) :
 Calls Tryz.prog 131 #[macV m A n c Af nf cf As ns cs Ap np cp,.int .i64 t] w fun e w'=>e=.returned (.int .i64 (matErr m t))∧Ext w w':=by
 have HM0:=Hy (mat_name (m:=m) (t:=t));have HM1:=Hy (mat_ins (m:=m) (t:=t));have HM2:=Hy (mat_set (m:=m) (t:=t));have HM3:=Hy (mat_pin (m:=m) (t:=t));have HM4:=Hy (mat_time (m:=m) (t:=t))
 have CN:=Hy (fun W=>IsName_any m.name W hs.name)
 have CO:=Hy (fun W=>outsideF_any t 0 1099511627776 W)
 have CH:=Hy (fun W (h:Ext w W)=>show Calls Tryz.prog 201 #[.agg #[.int .i64 1,.string ⟨#[]⟩,.string ⟨#[]⟩,.slice none 0 0],.slice Af nf cf,.slice As ns cs] W fun e w'=>∃ r,e=.returned (.tuple #[.bool r,.int .i64 (firstI [0,seErr nameL m.facts,seErr pathL m.sets])])∧Ext W w' from
  (Holds_any Af As nf ns cf cs m.facts m.sets (.mk 1 ⟨#[]⟩ ⟨#[]⟩ []) _ AnyB W (hg.ext h) (CdIn.leaf _ _ _ _ _) (leaf_small 1) (by decide) hm.ef (hm.rf.ext h) hs.facts (by rw[<-hm.ef];exact hs.lf) hm.es (hm.rs.ext h) hs.sets (by rw[<-hm.es];exact hs.ls)).mono fun e w' hh=>⟨_,hh⟩)
 have HG:=Hy hg;have HMI:=Hy hm;have HS:=Hy hs
 have hnl:n<=2097152:=by rw[<-hm.ei];exact hs.li
 have hpl:np<=2097152:=by rw[<-hm.ep];exact hs.lp
 have hcap:=hm.cap
 have HTM:=Hy (show timeErr t=if inI t 0 1099511627776=true then 0 else 3 from rfl)
 clear hg hm hs
 obtain⟨mn,mi,mf,ms,mp⟩:=m
 dsimp only[macV] at *
 generalize matErr ⟨mn,mi,mf,ms,mp⟩ t=E at *
 generalize firstI [0,seErr nameL mf,seErr pathL ms]=ES at *
 generalize timeErr t=ET at *
 generalize nameL (bs mn)=Q1 at *
 generalize inI t 0 1099511627776=IT at *
 have b0:=Blk.new w 96 #[.string mn,.slice A n c,.slice Af nf cf,.slice As ns cs,.slice Ap np cp]
 have hx0:Ext w (w.alloc (.cells #[.string mn,.slice A n c,.slice Af nf cf,.slice As ns cs,.slice Ap np cp] 96)):=(Ext.refl w).alloc _
 have e0:=b0.cell;have l0:=b0.lt
 go_enter Tryz.func131,Tryz.ntmps131
 go_wp2_with fail
 refine (CN.out _).mono ?_
 rintro e w' ⟨rfl,rfl⟩
 cases Q1
 ·have HE:=Hy (HM0.out rfl)
  go_wp2
  go_ret
  exact⟨ret_int HE.out.symm,hx0⟩
 clear HM0 CN
 go_wp2
 go_loopw [20] (fun i wr=>∃ k:Nat,k<=n∧i=.int .i64 k∧Hid (∀ x∈(insErrs mi).take k,x=0)∧Hid (Blk wr w.heap.size 96 #[.string mn,.slice A n c,.slice Af nf cf,.slice As ns cs,.slice Ap np cp])∧Ext w wr) (fun i _=>n - (intOf i).toNat)
 case atStart=>exact⟨0,Nat.zero_le _,rfl,Hy (by simp),Hy b0,hx0⟩
 case round =>
  clear e0 l0 b0 hx0
  obtain⟨k,hk,rfl,HALL,HB,hxr⟩:=hrel
  obtain⟨wo,rfl⟩:∃ wo:World,wo=wr:=⟨_,rfl⟩
  by_cases hlt:k < n
  ·have hk1:k < mi.length:=by rw[HMI.out.ei];exact hlt
   obtain⟨b,i0,rfl,hX⟩:=(HMI.out.ri.ext hxr) (fun e=>by have:mi=[]:=e;rw[this] at hk1;exact absurd hk1 (Nat.not_lt_zero _))
   dsimp only at hX
   obtain⟨A1,m1,c1,wt,hrow⟩:=hX k hk1
   have LD:=hrow.load
   have lx:=lt_of_cell (hrow 0 _ rfl)
   have hsm:=HS.out.inst _ (List.getElem_mem hk1)
   have HAT:=Hy (fun h=>insErr_at hk1 HALL.out h)
   have HNX:=Hy (fun h=>insErr_next hk1 HALL.out h)
   have HDEF:=Hy (insAt_get hk1)
   have HPREV:=Hy (show k=0∨∃ j,k=j+1∧wo.cell? ⟨b,i0+j * 7,none⟩=some (.string (mi.getD (k - 1) zeroI).name) from by
    rcases Nat.eq_zero_or_pos k with e|e
    ·exact .inl e
    ·obtain⟨j,rfl⟩:∃ j,k=j+1:=⟨k - 1,by omega⟩
     obtain⟨A2,m2,c2,wt2,hrow2⟩:=hX j (by omega)
     refine .inr ⟨j,rfl,?_⟩
     have e:mi.getD (j+1 - 1) zeroI=mi[j]'(by omega):=by simp[List.getD,List.getElem?_eq_getElem (show j < mi.length by omega)]
     rw[e]
     exact hrow2 0 _ rfl)
   have CNX:=Hy (fun W=>IsName_any mi[k].name W hsm.1)
   have CVX:=Hy (fun W (h:Ext w W)=>show Calls Tryz.prog 17 #[.agg #[.int .i64 mi[k].vv.a1,.int .i64 mi[k].vv.a2,.int .i64 mi[k].vv.a3,.string mi[k].vv.a]] W fun e w'=>e=.returned (.int .i64 mi[k].vv.err)∧Ext W w' from Check_any mi[k].vv.a1 mi[k].vv.a2 mi[k].vv.a3 mi[k].vv.a W (HG.out.toGood.ext h) hsm.2)
   generalize (mi.getD (k - 1) zeroI).name=pn at *
   generalize insAt mi k=IA at *
   generalize insErr mi=IE at *
   clear hX hrow hsm
   generalize mi[k]=x at *
   obtain⟨xn,⟨v1,v2,v3,va⟩⟩:=x
   dsimp only[insV] at LD CVX CNX HDEF
   have HDEF:=Hy (show IA=if nameL (bs xn)=false then 5 else if V4.err ⟨v1,v2,v3,va⟩=0 then (if k=0 then 0 else insGap pn xn) else V4.err ⟨v1,v2,v3,va⟩ from by rw[<-first3];exact HDEF.out)
   generalize V4.err ⟨v1,v2,v3,va⟩=EV at *
   generalize nameL (bs xn)=Q at *
   have hxa:Ext wo (wo.alloc (.cells #[.string xn,.int .i64 v1,.int .i64 v2,.int .i64 v3,.string va,.slice A1 m1 c1,.bool wt] 178)):=(Ext.refl wo).alloc _
   have b1:=Blk.new wo 178 #[.string xn,.int .i64 v1,.int .i64 v2,.int .i64 v3,.string va,.slice A1 m1 c1,.bool wt]
   have hxwa:=hxr.trans hxa
   have e1:=b1.cell;have l1:=b1.lt
   go_wp2_with (refine wpList_load_at rfl _ _ rfl _ rfl _ LD ?_)
   refine (CNX.out _).mono ?_
   rintro e w' ⟨rfl,rfl⟩
   clear LD
   cases Q
   ·have HA:=Hy (show E=5 from by
     have h5:IA=5:=by rw[HDEF.out];rfl
     have:=HAT.out (by rw[h5];decide)
     rw[HM1.out (by trivial) (by show ¬ IE=0;rw[this,h5];decide)]
     exact this.trans h5)
    go_wp2
    go_ret
    exact⟨ret_int HA.out.symm,hxwa⟩
   go_wp2_with fail
   refine (CVX.out _ hxwa).mono ?_
   rintro e w2 ⟨rfl,hx2⟩
   have hxw2:=hxwa.trans hx2
   have b2:=b1.ext hx2
   have B0:=Hy (HB.out.ext (hxa.trans hx2))
   clear e1 l1 b1
   by_cases hz:EV=0
   rotate_left
   ·have hne:(EV != 0)=true:=by rw[bne_iff_ne];exact hz
    have HA:=Hy (show E=EV from by
     have h5:IA=EV:=by rw[HDEF.out];simp[hz]
     have:=HAT.out (by rw[h5];exact hz)
     rw[HM1.out (by trivial) (by show ¬ IE=0;rw[this,h5];exact hz)]
     exact this.trans h5)
    clear hz
    go_wp2
    go_ret
    exact⟨ret_int HA.out.symm,hxw2⟩
   subst hz
   have HD2:=Hy (show IA=if k=0 then 0 else insGap pn xn from by rw[HDEF.out];simp)
   clear HDEF
   have e2:=b2.cell;have l2:=b2.lt
   have e0:=B0.out.cell;have l0:=B0.out.lt
   rcases HPREV.out with hk0|⟨j,rfl,hpc⟩
   ·subst hk0
    have HA:=Hy (HNX.out (by rw[HD2.out];rfl))
    go_wp2_with fail
    refine wp_region_ext (by kernel_rfl) (by kernel_rfl) ?_
    repeat (first|go_big_quiet_skip|(refine wpQuiet_step (fun K hK=>?_);go_simp;first|(refine hK _ ?_;clear hK K)|(apply Exists.intro;refine⟨fun wq hwq=>?_,hK _ ?_⟩;(obtain⟨hqc,hqf⟩:=hwq.cells;have hqs:=hwq.size;(try go_simp);first|rfl|((first|rw[if_neg (by omega)]|rw[if_pos (by omega)]);(try go_simp);rfl)|((fail)));clear hK K)))
    refine wpQuiet_nil ?_
    intro wN hxN
    obtain⟨hcN,hfN⟩:=hxN.cells
    have hsN:=hxN.size
    have B0N:=Hy (B0.out.ext hxN)
    clear e0 l0 e2 l2
    go_wp2
    go_roundw
    case rel=>exact⟨1,by omega,rfl,HA,B0N,hxw2.trans hxN⟩
    case measure=>simp[intOf];omega
   ·have hpc2:=(hxa.trans hx2).cell hpc
    have lp:=lt_of_cell hpc2
    have HD3:=Hy (show IA=if (Op.bytesLess xn.toList pn.toList||xn.toList==pn.toList)=true then 7 else 0 from by rw[HD2.out,if_neg (by omega)];rfl)
    have hd:decide ((0:Int) < (j:Int)+1)=true:=decide_eq_true (by omega)
    have jw:IntKind.i64.wrap (j:Int)=(j:Int):=IntWalk.i64_in _ (by omega)
    have jl:(0:Int)<=(j:Int):=by omega
    have jn:(j:Int) < (n:Int):=by omega
    clear hpc
    go_wp2_with fail
    refine wp_region_ext (by kernel_rfl) (by kernel_rfl) ?_
    repeat (first|go_big_quiet_skip|(refine wpQuiet_step (fun K hK=>?_);go_simp;first|(refine hK _ ?_;clear hK K)|(apply Exists.intro;refine⟨fun wq hwq=>?_,hK _ ?_⟩;(obtain⟨hqc,hqf⟩:=hwq.cells;have hqs:=hwq.size;(try go_simp);first|rfl|((first|rw[if_neg (by omega)]|rw[if_pos (by omega)]);(try go_simp);rfl)|((fail)));clear hK K)))
    refine wpQuiet_nil ?_
    intro wN hxN
    obtain⟨hcN,hfN⟩:=hxN.cells
    have hsN:=hxN.size
    have B0N:=Hy (B0.out.ext hxN)
    clear jw e0 l0 e2 l2 hpc2 lp
    generalize (Op.bytesLess xn.toList pn.toList||xn.toList==pn.toList)=GB at *
    cases GB
    ·have HA:=Hy (HNX.out (by rw[HD3.out];rfl))
     go_wp2
     go_roundw
     case rel=>exact⟨j+1+1,by omega,by go_num,HA,B0N,hxw2.trans hxN⟩
     case measure=>simp[intOf];omega
    ·have HA:=Hy (show E=7 from by
      have h5:IA=7:=by rw[HD3.out];rfl
      have:=HAT.out (by rw[h5];decide)
      rw[HM1.out (by trivial) (by show ¬ IE=0;rw[this,h5];decide)]
      exact this.trans h5)
     go_wp2
     go_ret
     exact⟨ret_int HA.out.symm,hxw2.trans hxN⟩
  ·obtain rfl:k=n:=by omega
   have HIE:=Hy (show insErr mi=0 from insErr_all (by have:=HALL.out;rwa [<-HMI.out.ei] at this))
   have e0:=HB.out.cell;have l0:=HB.out.lt
   go_wp2_with fail
   refine (CH.out _ hxr).mono ?_
   rintro e w3 ⟨r,rfl,hx3⟩
   have hxr3:=hxr.trans hx3
   have B3:=Hy (HB.out.ext hx3)
   clear e0 l0 HB HALL CH
   by_cases hz:ES=0
   rotate_left
   ·have hne:(ES != 0)=true:=by rw[bne_iff_ne];exact hz
    have HA:=Hy (HM2.out (by trivial) HIE.out hz)
    clear hz
    go_wp2
    go_ret
    exact⟨ret_int HA.out.symm,hxr3⟩
   subst hz
   have e0:=B3.out.cell;have l0:=B3.out.lt
   go_wp2
   clear e0 l0
   go_loopw [65] (fun i wr=>∃ q:Nat,q<=np∧i=.int .i64 q∧Hid (∀ x∈(pinErrs mp).take q,x=0)∧Hid (Blk wr w.heap.size 96 #[.string mn,.slice A k c,.slice Af nf cf,.slice As ns cs,.slice Ap np cp])∧Ext w wr) (fun i _=>np - (intOf i).toNat)
   case atStart=>exact⟨0,Nat.zero_le _,rfl,Hy (by simp),B3,hxr3⟩
   case round =>
    clear B3 hxr3 hx3 hxr
    obtain⟨q,hq,rfl,HALL,HB,hxr⟩:=hrel
    obtain⟨w4,rfl⟩:∃ w4:World,w4=wr:=⟨_,rfl⟩
    by_cases hlt:q < np
    ·have hq1:q < mp.length:=by rw[HMI.out.ep];exact hlt
     obtain⟨bp,i1,rfl,hX⟩:=(HMI.out.rp.ext hxr) (fun e=>by have:mp=[]:=e;rw[this] at hq1;exact absurd hq1 (Nat.not_lt_zero _))
     dsimp only at hX
     obtain⟨A1,c1,hrow⟩:=hX q hq1
     have LD:=hrow.load
     have lx:=lt_of_cell (hrow.row 0 _ rfl)
     have hsm:=HS.out.pins.each _ (List.getElem_mem hq1)
     have HAT:=Hy (fun h=>pinErr_at hq1 HALL.out h)
     have HNX:=Hy (fun h=>pinErr_next hq1 HALL.out h)
     have HDEF:=Hy (pinAt_get hq1)
     have CNX:=Hy (fun W=>IsName_any mp[q].name W hsm.1)
     have CRX:=Hy (fun W (h:Ext w4 W)=>CheckRange_any A1 mp[q].fr.length c1 mp[q].fr W (HG.out.toGood.ext (hxr.trans h)) rfl (hrow.has.ext h) hsm.2.1 hsm.2.2)
     have CFX:=Hy (fun W (h:Ext w4 W) (hc:W.cell? ⟨w4.heap.size,0,none⟩=some (.string mp[q].name)) =>
      ContainsFuncPn_any (some ⟨bp,i1,none⟩) q cp bp i1 202 #[.pointer (some ⟨w4.heap.size,0,none⟩)] (fun j=>(mp.getD j zeroN).name.toList==mp[q].name.toList) W (fun _=>rfl) (by omega) (enters_of Tryz.func202 (by kernel_rfl) rfl)
       (fun j hj=>by
         obtain⟨A2,c2,h2⟩:=hX j (by omega)
         refine⟨pinV mp[j] A2 c2,fun W' hw=>(h2.ext (h.trans hw)).load,fun W' hw=>?_⟩
         have e:mp.getD j zeroN=mp[j]'(by omega):=by simp[List.getD,List.getElem?_eq_getElem (show j < mp.length by omega)]
         rw[e]
         exact mf1_any mp[j] A2 c2 w4.heap.size mp[q].name W' (hw.cell hc)))
     generalize anyF q (fun j=>(mp.getD j zeroN).name.toList==mp[q].name.toList)=GP at *
     generalize pinAt mp q=IA at *
     obtain⟨IE,hIE⟩:∃ IE,pinErr mp=IE:=⟨_,rfl⟩
     rw[hIE] at HAT
     have HIE2:=Hy hIE
     clear hX hrow hsm hIE
     generalize mp[q]=x at *
     obtain⟨xn,xf⟩:=x
     dsimp only[pinV] at LD CRX CNX CFX HDEF
     have HDEF:=Hy (show IA=if nameL (bs xn)=false then 5 else if (if GP=true then (6:Int) else 0)=0 then rngErr xf else (if GP=true then 6 else 0) from by rw[<-first3];exact HDEF.out)
     generalize rngErr xf=ER at *
     generalize xf.length=xl at *
     generalize nameL (bs xn)=Q at *
     have HBAD:=Hy (show ¬ IA=0->E=IA from fun h=>by
      have h1:=HAT.out h
      rw[HM3.out (by trivial) HIE.out (by trivial) (by show ¬ pinErr mp=0;rw[HIE2.out,h1];exact h)]
      show pinErr mp=IA
      rw[HIE2.out,h1])
     have hxa:Ext w4 (w4.alloc (.cells #[.string xn,.slice A1 xl c1] 181)):=(Ext.refl w4).alloc _
     have b1:=Blk.new w4 181 #[.string xn,.slice A1 xl c1]
     have hxwa:=hxr.trans hxa
     have e1:=b1.cell;have l1:=b1.lt
     have B0:=Hy (HB.out.ext hxa)
     have e0:=B0.out.cell;have l0:=B0.out.lt
     clear HAT
     go_wp2_with (refine wpList_load_at rfl _ _ rfl _ rfl _ LD ?_)
     refine (CNX.out _).mono ?_
     rintro e w' ⟨rfl,rfl⟩
     clear LD
     cases Q
     ·have HA:=Hy (show IA=5 from HDEF.out)
      have HE:=Hy (HBAD.out (by rw[HA.out];decide))
      go_wp2
      go_ret
      exact⟨ret_int (by rw[HE.out,HA.out]),hxwa⟩
     go_wp2_with fail
     refine (CFX.out _ hxa (b1.cell 0)).mono ?_
     rintro e w5 ⟨rfl,hx5⟩
     have hxw5:=hxwa.trans hx5
     have b5:=b1.ext hx5
     have B5:=Hy (B0.out.ext hx5)
     clear e1 l1 e0 l0
     cases GP
     rotate_left
     ·have HA:=Hy (show IA=6 from HDEF.out)
      have HE:=Hy (HBAD.out (by rw[HA.out];decide))
      go_wp2
      go_ret
      exact⟨ret_int (by rw[HE.out,HA.out]),hxw5⟩
     have HA:=Hy (show IA=ER from HDEF.out)
     have e1:=b5.cell;have l1:=b5.lt
     go_wp2_with fail
     refine (CRX.out _ (hxa.trans hx5)).mono ?_
     rintro e w6 ⟨rfl,hx6⟩
     have hxw6:=hxw5.trans hx6
     have B6:=Hy (B5.out.ext hx6)
     clear e1 l1
     by_cases hz:ER=0
     rotate_left
     ·have hne:(ER != 0)=true:=by rw[bne_iff_ne];exact hz
      have HE:=Hy (HBAD.out (by rw[HA.out];exact hz))
      clear hz
      go_wp2
      go_ret
      exact⟨ret_int (by rw[HE.out,HA.out]),hxw6⟩
     subst hz
     have HNN:=Hy (HNX.out HA.out)
     go_wp2
     go_roundw
     case rel=>exact⟨q+1,hlt,by go_num,HNN,B6,hxw6⟩
     case measure=>simp[intOf];omega
    ·obtain rfl:q=np:=by omega
     have HPE:=Hy (show pinErr mp=0 from pinErr_all (by have:=HALL.out;rwa [<-HMI.out.ep] at this))
     have HA:=Hy (HM4.out (by trivial) HIE.out (by trivial) HPE.out)
     go_wp2_with fail
     refine (CO.out _).mono ?_
     rintro e w' ⟨rfl,rfl⟩
     cases IT
     ·have HT:=Hy (show ET=3 from HTM.out)
      go_wp2
      go_ret
      exact⟨ret_int (by rw[HA.out,HT.out]),hxr⟩
     ·have HT:=Hy (show ET=0 from HTM.out)
      go_wp2
      go_ret
      exact⟨ret_int (by rw[HA.out,HT.out]),hxr⟩
end Go.Proofs.YtmnafaaijglnfaaGreatDoor
